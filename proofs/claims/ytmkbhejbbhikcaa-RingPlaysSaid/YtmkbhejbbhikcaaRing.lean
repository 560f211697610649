/- What the methods of a ring do. Conditions: those of each theorem. -/
import Derived.Test.YtmkbhejbbhikcaaRingPlain
import Derived.Test.YtmkbhejbbhikcaaPurse2
import Derived.BigRegion
import Derived.RegionTactic
import Derived.BigQuiet
import Derived.Deep.QuietTactic
import Derived.Deep.RegionHeld3
namespace Go.Proofs.Ytmkbhejbbhikcaa
open Go.RowKit
set_option linter.unusedVariables false

structure RingAt (w : World) (p h N C f : Nat) (X : List UInt8) (Y : List Value) (S : ByteArray) : Prop where
  own : Blk w p 115 #[.slice (some ⟨h, 0, none⟩) N C, .int .i64 f, .int .i64 S.size]
  row : Blk w h 5 (bys X ++ Y).toArray
  cap : N ≤ C
  ne : p ≠ h
  rep : RRep N f X S
theorem Try.infoU8 : (Try.prog.info? 5).map (fun i => (i.zero, i.size, i.bytes)) = some (some (.int .u8 0), 1, 1) := by kernel_rfl
def rz (n : Nat) : List UInt8 := List.replicate n 0
theorem bys_zero (n : Nat) : madeCells (Value.int .u8 0).cells (n * 1) = (bys (rz n)).toArray := by
  apply Array.ext'
  show (madeCells #[Value.int .u8 0] (n * 1)).toList = _
  rw [toList_madeCells_one]
  simp [bys, rz]
theorem mk_bytes (N : Int) (h0 : 0 ≤ N) (h1 : N ≤ 100000) (w : World) :
    (Instr.makeSlice 62 (.int .i64 N) (.int .i64 N)).run Try.prog w = .ok (.slice (some ⟨w.heap.size, 0, none⟩) N.toNat N.toNat) (w.alloc (.cells (bys (rz N.toNat)).toArray 5)) := by
  obtain ⟨i, hi, hz0, hz1, hz2⟩ := info_parts Try.infoU8
  obtain ⟨n, rfl⟩ := Int.eq_ofNat_of_zero_le h0
  rw [run_make_rowN 62 5 i _ Try.underlying62 hi hz0 .i64 .i64 n n (Nat.le_refl _) (by rw [hz2]; omega) (by omega) w, hz1, bys_zero]
  simp
section
variable {p h N C f : Nat} {X : List UInt8} {Y : List Value} {S : ByteArray} {w : World}
theorem RingAt.cells (hr : RingAt w p h N C f X Y S) :
    (w.cell? ⟨p, 0, none⟩ = some (.slice (some ⟨h, 0, none⟩) N C) ∧ w.cell? ⟨p, 1, none⟩ = some (.int .i64 f) ∧ w.cell? ⟨p, 2, none⟩ = some (.int .i64 S.size)) ∧
    w.frozen? ⟨p, 1, none⟩ = false ∧ w.frozen? ⟨p, 2, none⟩ = false :=
  ⟨⟨by rw [hr.own.cell]; rfl, by rw [hr.own.cell]; rfl, by rw [hr.own.cell]; rfl⟩, hr.own.frozen 1, hr.own.frozen 2⟩
theorem RingAt.drewN (hr : RingAt w p h N C f X Y S) (n : Nat) : RingAt (w.drewN n) p h N C f X Y S := ⟨hr.own, hr.row, hr.cap, hr.ne, hr.rep⟩
theorem RingAt.only {T : Nat → Prop} {w' : World} (hr : RingAt w p h N C f X Y S) (k : Only T w w') (hp : ¬ T p) (hh : ¬ T h) : RingAt w' p h N C f X Y S := ⟨hr.own.only k hp, hr.row.only k hh, hr.cap, hr.ne, hr.rep⟩
theorem RingAt.lt (hr : RingAt w p h N C f X Y S) : p < w.heap.size ∧ h < w.heap.size := ⟨hr.own.lt, hr.row.lt⟩
theorem place_c (i : Nat) (hi : i ≤ N) (hr : RingAt w p h N C f X Y S) :
    Calls Try.prog 86 #[.pointer (some ⟨p, 0, none⟩), .int .i64 i] w fun e w' => e = .returned (.int .i64 (plc N f i)) ∧ ∃ n, w' = w.drewN n := by
  obtain ⟨⟨c0, c1, c2⟩, _⟩ := hr.cells
  have hn1 := hr.rep.n1
  have hn2 := hr.rep.n2
  have hf := hr.rep.flt
  have HM := hide (show ((f : Int) + i) % N = plc N f i by rw [← Int.natCast_add, ← Int.natCast_emod, plc_mod hf hi])
  clear hr
  go_enter Try.func86, Try.ntmps86
  go_wp2
  have h1 : IntKind.i64.wrap ((f : Int) + i) = f + i := IntWalk.i64_in _ (by omega)
  have h2 : (0 : Int) ≤ f + i := by omega
  have h3 : (N : Int) ≠ 0 := by omega
  have h4 : ((N : Int) == 0) = false := by simp; omega
  go_quiet (fail)
  go_wp2
  go_ret
  exact ⟨ret_int HM.out, nq, rfl⟩
theorem len_c (hr : RingAt w p h N C f X Y S) : Calls Try.prog 42 #[.pointer (some ⟨p, 0, none⟩)] w fun e w' => e = .returned (.int .i64 S.size) ∧ w = w' := by
  obtain ⟨⟨c0, c1, c2⟩, _⟩ := hr.cells
  clear hr
  go_enter Try.func42, Try.ntmps42
  go_wp2
  go_ret
  exact ⟨rfl, rfl⟩
theorem most_c (hr : RingAt w p h N C f X Y S) : Calls Try.prog 44 #[.pointer (some ⟨p, 0, none⟩)] w fun e w' => e = .returned (.int .i64 N) ∧ w = w' := by
  obtain ⟨⟨c0, c1, c2⟩, _⟩ := hr.cells
  clear hr
  go_enter Try.func44, Try.ntmps44
  go_wp2
  go_ret
  exact ⟨rfl, rfl⟩
theorem room_c (hr : RingAt w p h N C f X Y S) : Calls Try.prog 43 #[.pointer (some ⟨p, 0, none⟩)] w fun e w' => e = .returned (.int .i64 ((N : Int) - S.size)) ∧ ∃ n, w' = w.drewN n := by
  obtain ⟨⟨c0, c1, c2⟩, _⟩ := hr.cells
  have hn2 := hr.rep.n2
  have hfit := hr.rep.fit
  clear hr
  go_enter Try.func43, Try.ntmps43
  go_wp2
  have h1 : IntKind.i64.wrap ((N : Int) - S.size) = N - S.size := IntWalk.i64_in _ (by omega)
  have h2 : (0 : Int) ≤ N - S.size := by omega
  go_quiet (fail)
  go_wp2
  go_ret
  exact ⟨rfl, nq, rfl⟩
/-- bytes of the ring's block -/
theorem RingAt.byte (hr : RingAt w p h N C f X Y S) (i : Nat) (hi : i < S.size) : w.cell? ⟨h, plc N f i, none⟩ = some (.int .u8 (S[i].toNat : Int)) := by
  have hx := hr.rep.at_ i hi
  have hlt := plc_lt hr.rep.flt (show i ≤ N by have := hr.rep.fit; omega)
  rw [hr.row.cell]
  have hlt2 : plc N f i < X.length := by rw [hr.rep.len]; exact hlt
  have e : (bys X ++ Y).toArray[plc N f i]? = (bys X)[plc N f i]? := by
    rw [List.getElem?_toArray, List.getElem?_append_left (by rw [bys_len]; exact hlt2)]
  rw [e, bys_at X _ hlt2]
  rw [List.getElem?_eq_getElem hlt2] at hx
  have h2 : S.data.toList[i]? = some S[i] := by
    simp [ByteArray.getElem_eq_getElem_data]
  rw [h2] at hx
  injection hx with hx
  rw [hx]
theorem at_in (i : Nat) (hi : i < S.size) (hr : RingAt w p h N C f X Y S) : Calls Try.prog 55 #[.pointer (some ⟨p, 0, none⟩), .int .i64 i] w fun e w' => e = .returned (.tuple #[.int .u8 (S[i].toNat : Int), .bool true]) ∧ ∃ n, w' = w.drewN n := by
  obtain ⟨⟨c0, c1, c2⟩, _⟩ := hr.cells
  have hn2 := hr.rep.n2
  have hfit := hr.rep.fit
  have hb := hr.byte i hi
  have hpl := plc_lt hr.rep.flt (show i ≤ N by omega)
  have hd : decide ((S.size : Int) ≤ i) = false := by simp; omega
  have hd2 : decide (S.size ≤ i) = false := by simp; omega
  have H := hide hr
  have q1 : (0 : Int) ≤ (plc N f i : Int) := by omega
  have q2 : (plc N f i : Int) < N := by omega
  clear hr
  go_enter Try.func55, Try.ntmps55
  go_wp2
  go_quiet (first | (go_at_call 86; exact Calls.quiet_of (place_c i (by omega) (H.out.drewN _))))
  go_wp2
  go_ret2
  exact ⟨rfl, nq, rfl⟩
theorem at_out (i : Int) (hi : i < 0 ∨ S.size ≤ i) (hr : RingAt w p h N C f X Y S) : Calls Try.prog 55 #[.pointer (some ⟨p, 0, none⟩), .int .i64 i] w fun e w' => e = .returned (.tuple #[.int .u8 0, .bool false]) ∧ w = w' := by
  obtain ⟨⟨c0, c1, c2⟩, _⟩ := hr.cells
  have hn2 := hr.rep.n2
  have hfit := hr.rep.fit
  clear hr
  by_cases h0 : i < 0
  · clear hi
    go_enter Try.func55, Try.ntmps55
    go_wp2
    go_ret2
    exact ⟨rfl, rfl⟩
  · have hd : decide ((S.size : Int) ≤ i) = true := by simp; omega
    have hd0 : decide (i < 0) = false := by simp; omega
    clear hi
    go_enter Try.func55, Try.ntmps55
    go_wp2
    go_ret2
    exact ⟨rfl, rfl⟩
end
end Go.Proofs.Ytmkbhejbbhikcaa
