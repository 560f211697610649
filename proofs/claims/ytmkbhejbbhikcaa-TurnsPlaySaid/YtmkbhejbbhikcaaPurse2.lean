/- A new purse, what all have together, and that lives answers true. Conditions: those of each theorem. -/
import Derived.Test.YtmkbhejbbhikcaaPurse
import Derived.Laws.MakeOwn
import Derived.Laws.Entries

namespace Go.Proofs.Ytmkbhejbbhikcaa
open Go.RowKit

theorem run_make_rowN {P : Program} (t e : TypeId) (i : TypeInfo) (z : Value) (ht : P.underlying t = some (.slice e)) (hi : P.info? e = some i) (hz : i.zero = some z)
    (kl kc : IntKind) (n c : Nat) (hnc : n ≤ c) (hbytes : i.bytes * c ≤ 281474976710656) (h63 : c ≤ 9223372036854775807) (w : World) :
    (Instr.makeSlice t (.int kl (n : Int)) (.int kc (c : Int))).run P w = .ok (.slice (some ⟨w.heap.size, 0, none⟩) n c) (w.alloc (.cells (madeCells z.cells (c * i.size)) e)) := by
  have hb : (i.bytes : Int) * (c : Int) ≤ 281474976710656 := by
    have h : ((i.bytes * c : Nat) : Int) ≤ 281474976710656 := by omega
    rwa [Int.natCast_mul] at h
  have hr := run_make (P := P) w t e i z ht hi hz kl kc n c (by omega) (by omega) hb (by omega)
  simp only [Int.toNat_natCast] at hr
  exact hr

theorem Try.infoInt : (Try.prog.info? 3).map (fun i => (i.zero, i.size, i.bytes)) = some (some (.int .i64 0), 1, 8) := by kernel_rfl
theorem nums_zero (n : Nat) : madeCells (Value.int .i64 0).cells (n * 1) = nums (zeros n) := by
  apply Array.ext'
  show (madeCells #[Value.int .i64 0] (n * 1)).toList = _
  rw [toList_madeCells_one]
  simp [nums, zeros]

theorem mk_ints (N : Int) (h0 : 0 ≤ N) (h1 : N ≤ 100000) (w : World) :
    (Instr.makeSlice 73 (.int .i64 N) (.int .i64 N)).run Try.prog w = .ok (.slice (some ⟨w.heap.size, 0, none⟩) N.toNat N.toNat) (w.alloc (.cells (nums (zeros N.toNat)) 3)) := by
  obtain ⟨i, hi, hz0, hz1, hz2⟩ := info_parts Try.infoInt
  obtain ⟨n, rfl⟩ := Int.eq_ofNat_of_zero_le h0
  rw [run_make_rowN 73 3 i _ Try.underlying73 hi hz0 .i64 .i64 n n (Nat.le_refl _) (by rw [hz2]; omega) (by omega) w, hz1, nums_zero]
  simp

def clip (n lo hi : Int) : Int := min (max n lo) hi
def newPurse (most quantum : Int) : PurseM := ⟨zeros (clip most 1 1024).toNat, clip quantum 1 1000000⟩
theorem newPurse_ok (most quantum : Int) : (newPurse most quantum).Ok := by
  refine ⟨?_, ?_, ?_, ?_, fun i hi => ?_⟩
  · show 1 ≤ (zeros _).length
    rw [zeros_len]; unfold clip; omega
  · show (zeros _).length ≤ 1024
    rw [zeros_len]; unfold clip; omega
  · simp only [newPurse, clip]; omega
  · simp only [newPurse, clip]; omega
  · simp only [newPurse]
    unfold zeros
    rw [nth_rep]; omega

theorem clip_q (q : Int) : (clip q 1 1000000 = 1 ∧ q < 1) ∨ (clip q 1 1000000 = 1000000 ∧ 1000000 < q) ∨ (clip q 1 1000000 = q ∧ 1 ≤ q ∧ q ≤ 1000000) := by unfold clip; omega
/-- the world behind New -/
def newPurseW (w : World) (N q : Int) : World :=
  (w.alloc (.cells (nums (zeros N.toNat)) 3)).alloc (.cells #[.slice (some ⟨w.heap.size, 0, none⟩) N.toNat N.toNat, .int .i64 q] 113)
theorem New_w (most quantum : Int) (w : World) :
    Calls Try.prog 18 #[.int .i64 most, .int .i64 quantum] w fun e w' => e = .returned (.pointer (some ⟨w.heap.size + 1, 0, none⟩)) ∧ w' = newPurseW w (clip most 1 1024) (clip quantum 1 1000000) := by
  have hm1 := mk_ints 1 (by omega) (by omega)
  have hm2 := mk_ints 1024 (by omega) (by omega)
  have e1 : (1 : Int).toNat = 1 := rfl
  have e2 : (1024 : Int).toNat = 1024 := rfl
  unfold newPurseW
  rcases (by omega : most < 1 ∨ (1 ≤ most ∧ most ≤ 1024) ∨ 1024 < most) with h | ⟨h, h'⟩ | h
  · rw [show clip most 1 1024 = 1 by unfold clip; omega]
    clear hm2
    go_enter Try.func18, Try.ntmps18
    go_wp2
    all_goals go_ret
    all_goals (refine ⟨rfl, ?_⟩; rcases clip_q quantum with ⟨hq, hq'⟩ | ⟨hq, hq'⟩ | ⟨hq, hq', hq''⟩ <;> first | omega | (rw [hq]; done) | (rw [hq]; rfl))
  · have hm := mk_ints most (by omega) (by omega)
    rw [show clip most 1 1024 = most by unfold clip; omega]
    go_enter Try.func18, Try.ntmps18
    go_wp2
    all_goals go_ret
    all_goals (refine ⟨rfl, ?_⟩; rcases clip_q quantum with ⟨hq, hq'⟩ | ⟨hq, hq'⟩ | ⟨hq, hq', hq''⟩ <;> first | omega | (rw [hq]; done) | (rw [hq]; rfl))
  · rw [show clip most 1 1024 = 1024 by unfold clip; omega]
    go_enter Try.func18, Try.ntmps18
    go_wp2
    all_goals go_ret
    all_goals (refine ⟨rfl, ?_⟩; rcases clip_q quantum with ⟨hq, hq'⟩ | ⟨hq, hq'⟩ | ⟨hq, hq', hq''⟩ <;> first | omega | (rw [hq]; done) | (rw [hq]; rfl))

theorem newPurseW_at (w : World) (most quantum : Int) : PurseAt (newPurseW w (clip most 1 1024) (clip quantum 1 1000000)) (w.heap.size + 1) w.heap.size (newPurse most quantum) := by
  refine ⟨?_, ?_, by omega⟩
  · have h := Blk.new (w.alloc (.cells (nums (zeros (clip most 1 1024).toNat)) 3)) 113 #[.slice (some ⟨w.heap.size, 0, none⟩) (clip most 1 1024).toNat (clip most 1 1024).toNat, .int .i64 (clip quantum 1 1000000)]
    have e : (w.alloc (.cells (nums (zeros (clip most 1 1024).toNat)) 3)).heap.size = w.heap.size + 1 := by simp
    rw [e] at h
    simpa [newPurse, newPurseW, zeros_len] using h
  · exact (Blk.new w 3 _).alloc _
theorem New_c (most quantum : Int) (w : World) :
    Calls Try.prog 18 #[.int .i64 most, .int .i64 quantum] w fun e w' => e = .returned (.pointer (some ⟨w.heap.size + 1, 0, none⟩)) ∧ PurseAt w' (w.heap.size + 1) w.heap.size (newPurse most quantum) ∧ Only NoBlk w w' ∧ w'.heap.size = w.heap.size + 2 :=
  (New_w most quantum w).mono fun e w' ⟨he, hw⟩ => by
    subst hw
    exact ⟨he, newPurseW_at w most quantum, ((Only.refl _ w).alloc _).alloc _, by simp [newPurseW]⟩

/-- the sum of all -/
def sumInts (l : List Int) : Int := l.foldl (· + ·) 0
theorem sumInts_snoc (l : List Int) (k : Nat) (h : k < l.length) : sumInts (l.take (k + 1)) = sumInts (l.take k) + nth l k := by
  unfold sumInts
  rw [List.take_succ_eq_append_getElem h, List.foldl_append]
  simp [nth, List.getD, h]
theorem sumInts_bd (l : List Int) (k : Nat) (h : ∀ i, i < l.length → 0 ≤ nth l i ∧ nth l i ≤ 2000000000) (hk : k ≤ l.length) : 0 ≤ sumInts (l.take k) ∧ sumInts (l.take k) ≤ k * 2000000000 := by
  induction k with
  | zero => simp [sumInts]
  | succ k ih =>
    have := ih (by omega)
    have := h k (by omega)
    rw [sumInts_snoc l k (by omega)]
    omega

theorem all_walk (b h n : Nat) (l : List Int) (w : World) (hn : n ≤ 1024) (hl : l.length = n) (c0 : w.cell? ⟨b, 0, none⟩ = some (.slice (some ⟨h, 0, none⟩) n n))
    (hc : ∀ i, i < n → w.cell? ⟨h, i, none⟩ = some (.int .i64 (nth l i))) (hb : ∀ i, i < n → 0 ≤ nth l i ∧ nth l i ≤ 2000000000) :
    Calls Try.prog 31 #[.pointer (some ⟨b, 0, none⟩)] w fun e w' => e = .returned (.int .i64 (sumInts l)) ∧ w = w' := by
  have hbd := fun k hk => sumInts_bd l k (fun i hi => hb i (by omega)) hk
  have Hl := hide hl
  have Hc := hide hc
  have Hbd := hide hbd
  have Hb := hide hb
  clear hl hc hbd hb
  go_enter Try.func31, Try.ntmps31
  go_wp2
  go_loop [3, 13] (fun s i => ∃ k : Nat, k ≤ n ∧ i = .int .i64 k ∧ s = .int .i64 (sumInts (l.take k))) (fun _ i => n - (intOf i).toNat)
  case atStart => exact ⟨0, Nat.zero_le _, rfl, rfl⟩
  case round =>
    obtain ⟨k, hk, rfl, rfl⟩ := hrel
    have h1 := Hbd.out k (by rw [Hl.out]; exact hk)
    by_cases hlt : k < n
    · have h2 := Hb.out k hlt
      have h3 := Hc.out k hlt
      have HS := hide (sumInts_snoc l k (by rw [Hl.out]; exact hlt))
      go_wp2
      go_round
      case rel => exact ⟨k + 1, by omega, by go_num, by rw [HS.out]⟩
      case measure => simp [intOf]; omega
    · go_wp2
      go_ret
      exact ⟨ret_int (by rw [List.take_of_length_le (by rw [Hl.out]; omega)]), rfl⟩
theorem All_c {b h : Nat} {m : PurseM} {w : World} (hp : PurseAt w b h m) (ok : m.Ok) :
    Calls Try.prog 31 #[.pointer (some ⟨b, 0, none⟩)] w fun e w' => e = .returned (.int .i64 (sumInts m.l)) ∧ w = w' :=
  all_walk b h m.l.length m.l w ok.hi rfl hp.cells.1 (fun i hi => (hp.at_ i hi).1) ok.all
theorem all_nil (w : World) : Calls Try.prog 31 #[.pointer none] w fun e w' => e = .returned (.int .i64 0) ∧ w = w' := by
  go_enter Try.func31, Try.ntmps31
  go_wp2
  go_ret
  exact ⟨rfl, rfl⟩
end Go.Proofs.Ytmkbhejbbhikcaa
