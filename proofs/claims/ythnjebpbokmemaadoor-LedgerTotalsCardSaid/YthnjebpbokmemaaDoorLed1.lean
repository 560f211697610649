/- One's row: plain, and by the program. Conditions: those of each theorem. -/
import Derived.Test.YthnjebpbokmemaaDoorTxt5
import Derived.Test.YthnjebpbokmemaaDoorTellsP
import Derived.Test.YthnjebpbokmemaaDoorSameL
import Derived.Test.YthnjebpbokmemaaDoorRefRW
namespace Go.Proofs.YthnjebpbokmemaaDoor
open Go.RowKit
set_option linter.unusedVariables false

def stpAt (l : List Stp) (k : Nat) : Stp := l.getD k st0
def jumpsB (x : Stp) : Bool := ((x.what == 2) || (x.what == 3) || (x.what == 4) || (x.what == 7)) && (x.status == 0)
def looksN (l : List Stp) : Int := ((l.filter fun x => x.what == 1).length : Int)
def jumpsN (l : List Stp) : Int := ((l.filter jumpsB).length : Int)
def endK (f : LifeM) (k : Nat) : Int := if f.status = 0 ∨ k = 0 then 9223372036854775807 else (stpAt f.steps (k - 1)).tick
def rowK (id : Int) (f : LifeM) (k : Nat) : RowM := ⟨id, f.script, f.start, f.steps.length, looksN (f.steps.take k), jumpsN (f.steps.take k), f.read.size, f.taken.size, f.status, endK f k⟩
/-- one's row -/
def rowF (id : Int) (f : LifeM) : RowM := rowK id f f.steps.length
def rowZ : RowM := ⟨0, 0, 0, 0, 0, 0, 0, 0, 0, 0⟩
def rowO (id : Int) : Option LifeM → RowM
  | none => rowZ
  | some f => rowF id f
theorem stp_take (l : List Stp) (k : Nat) (h : k < l.length) : l.take (k + 1) = l.take k ++ [stpAt l k] := by
  have e : stpAt l k = l[k] := by simp [stpAt, List.getD, h]
  rw [List.take_succ_eq_append_getElem h, e]
theorem looks_succ (l : List Stp) (k : Nat) (h : k < l.length) : looksN (l.take (k + 1)) = looksN (l.take k) + (if (stpAt l k).what = 1 then 1 else 0) := by
  unfold looksN
  rw [stp_take l k h, List.filter_append, List.length_append]
  by_cases e : (stpAt l k).what = 1 <;> simp [e]
theorem jumps_succ (l : List Stp) (k : Nat) (h : k < l.length) : jumpsN (l.take (k + 1)) = jumpsN (l.take k) + (if jumpsB (stpAt l k) = true then 1 else 0) := by
  unfold jumpsN
  rw [stp_take l k h, List.filter_append, List.length_append]
  by_cases e : jumpsB (stpAt l k) = true <;> simp [e]
theorem looks_le (l : List Stp) (k : Nat) : 0 ≤ looksN (l.take k) ∧ looksN (l.take k) ≤ l.length := by
  unfold looksN
  have h1 := List.length_filter_le (fun x : Stp => x.what == 1) (l.take k)
  rw [List.length_take] at h1
  omega
theorem jumps_le (l : List Stp) (k : Nat) : 0 ≤ jumpsN (l.take k) ∧ jumpsN (l.take k) ≤ l.length := by
  unfold jumpsN
  have h1 := List.length_filter_le jumpsB (l.take k)
  rw [List.length_take] at h1
  omega
theorem end_succ (f : LifeM) (k : Nat) : endK f (k + 1) = if f.status = 0 then endK f k else (stpAt f.steps k).tick := by
  unfold endK
  by_cases h : f.status = 0
  · simp [h]
  · simp [h]
theorem life_small2 {id : Int} {l : List Ev} {f : LifeM} (h : lifeGo id 0 l = some f) (hx : ∀ x ∈ l, x.s.size ≤ 100) : Small f l.length := by
  rcases open_or id l with ⟨_, hl⟩ | ⟨k, hk, _, hl⟩
  · rw [h] at hl; cases hl
  · rw [h] at hl
    injection hl with hl
    have := small_fold id (evAt l k).n (clockOf 0 (l.take k)) (l.drop (k + 1)) (fun x hx' => hx x (List.mem_of_mem_drop hx')) (l.drop (k + 1)).length (Nat.le_refl _)
    rw [List.take_length, ← hl] at this
    have hd : (l.drop (k + 1)).length ≤ l.length := by rw [List.length_drop]; omega
    exact ⟨Nat.le_trans this.ins hd, Nat.le_trans this.steps hd, Nat.le_trans this.read (by omega), Nat.le_trans this.taken (by omega)⟩
abbrev stpV (x : Stp) : Array Value := #[.int .i64 x.tick, .int .i64 x.at_, .int .i64 x.what, .int .i64 x.arm, .int .i64 x.n, .int .i64 x.status]
theorem stp_cellsR {w : World} {M : Nat → Prop} {A : Option Addr} {L : List Stp} (hr : Rd w M A (flat encStp L)) (k : Nat) (hk : k < L.length) : ∃ b o, A = some ⟨b, o, none⟩ ∧ ¬ M b ∧ b < w.heap.size ∧ w.cell? ⟨b, o + k * 6, none⟩ = some (.int .i64 (stpAt L k).tick) ∧ w.cell? ⟨b, o + k * 6 + 1, none⟩ = some (.int .i64 (stpAt L k).at_) ∧ w.cell? ⟨b, o + k * 6 + 2, none⟩ = some (.int .i64 (stpAt L k).what) ∧ w.cell? ⟨b, o + k * 6 + 3, none⟩ = some (.int .i64 (stpAt L k).arm) ∧ w.cell? ⟨b, o + k * 6 + 4, none⟩ = some (.int .i64 (stpAt L k).n) ∧ w.cell? ⟨b, o + k * 6 + 5, none⟩ = some (.int .i64 (stpAt L k).status) := by
  have e : L[k]? = some (stpAt L k) := by simp [stpAt, List.getD, hk]
  obtain ⟨b, o, hA, hm, hb, hc⟩ := flat_cells encStp_len hr k _ e (by omega)
  exact ⟨b, o, hA, hm, hb, hc 0 (by omega), hc 1 (by omega), hc 2 (by omega), hc 3 (by omega), hc 4 (by omega), hc 5 (by omega)⟩
theorem jumps_c (x : Stp) (w : World) : Calls Tryd.prog 39 #[.agg (stpV x)] w fun e w' => e = .returned (.bool (jumpsB x)) ∧ Below w.heap.size w w' := by
  unfold jumpsB
  have HL := hide (below_alloc w (.cells (stpV x) 46))
  cases q2 : (x.what == 2) with
  | true =>
    go_enter Tryd.func39, Tryd.ntmps39
    go_wp2_with fail
    go_ret
    exact ⟨rfl, HL.out⟩
  | false =>
    cases q3 : (x.what == 3) with
    | true =>
      go_enter Tryd.func39, Tryd.ntmps39
      go_wp2_with fail
      go_ret
      exact ⟨rfl, HL.out⟩
    | false =>
      cases q4 : (x.what == 4) with
      | true =>
        go_enter Tryd.func39, Tryd.ntmps39
        go_wp2_with fail
        go_ret
        exact ⟨rfl, HL.out⟩
      | false =>
        cases q7 : (x.what == 7) with
        | true =>
          go_enter Tryd.func39, Tryd.ntmps39
          go_wp2_with fail
          go_ret
          exact ⟨rfl, HL.out⟩
        | false =>
          go_enter Tryd.func39, Tryd.ntmps39
          go_wp2_with fail
          go_ret
          exact ⟨rfl, HL.out⟩
abbrev zeroRowV : Array Value := #[.int .i64 0, .int .i64 0, .int .i64 0, .int .i64 0, .int .i64 0, .int .i64 0, .int .i64 0, .int .i64 0, .int .i64 0, .int .i64 0]
theorem Blk.tenR {w : World} {g : Nat} {t : TypeId} {a b c d e f h i j k : Value} (hb : Blk w g t #[a, b, c, d, e, f, h, i, j, k]) :
    w.cell? ⟨g, 0, none⟩ = some a ∧ w.cell? ⟨g, 1, none⟩ = some b ∧ w.cell? ⟨g, 2, none⟩ = some c ∧ w.cell? ⟨g, 3, none⟩ = some d ∧ w.cell? ⟨g, 4, none⟩ = some e ∧ w.cell? ⟨g, 5, none⟩ = some f ∧ w.cell? ⟨g, 6, none⟩ = some h ∧ w.cell? ⟨g, 7, none⟩ = some i ∧ w.cell? ⟨g, 8, none⟩ = some j ∧ w.cell? ⟨g, 9, none⟩ = some k :=
  ⟨by rw [hb.cell]; rfl, by rw [hb.cell]; rfl, by rw [hb.cell]; rfl, by rw [hb.cell]; rfl, by rw [hb.cell]; rfl, by rw [hb.cell]; rfl, by rw [hb.cell]; rfl, by rw [hb.cell]; rfl, by rw [hb.cell]; rfl, by rw [hb.cell]; rfl⟩
/-- a row under way: its block, and of the others nothing is changed -/
structure RowAt (w0 W wr : World) (R : Nat) (r : RowM) : Prop where
  blk : Blk wr R 23 (rowV r)
  only : Only (· = R) W wr
  bel : Below w0.heap.size w0 wr
theorem RowAt.alloc {w0 W wr : World} {R : Nat} {r : RowM} (h : RowAt w0 W wr R r) (o : Obj) : RowAt w0 W (wr.alloc o) R r := ⟨h.blk.alloc o, h.only.alloc o, h.bel.alloc h.bel.size o⟩
theorem RowAt.call {w0 W wr w' : World} {R : Nat} {r : RowM} (h : RowAt w0 W wr R r) (hb : Below wr.heap.size wr w') : RowAt w0 W w' R r := ⟨h.blk.below hb, h.only.trans (Only.of_below hb _), h.bel.trans (hb.mono h.bel.size)⟩
theorem RowAt.set_ {w0 W wr : World} {R : Nat} {r r' : RowM} (h : RowAt w0 W wr R r) (hR : w0.heap.size ≤ R) (i : Nat) (v : Value) (he : (rowV r).setIfInBounds i v = rowV r') : RowAt w0 W (wr.setCell ⟨R, i, none⟩ v) R r' :=
  ⟨by rw [← he]; exact h.blk.set_ i v, h.only.setCell (Or.inl rfl) v, h.bel.setCell hR v⟩
set_option maxRecDepth 100000 in
set_option maxHeartbeats 6400000 in
theorem ledOf_c (A : Option Addr) (c : Nat) (l : List Ev) (id : Int) (w : World) (hr : Rd w NoBlk A (flat encEv l)) (hn : l.length ≤ 10000) (hx : ∀ x ∈ l, x.s.size ≤ 100) (hlc : l.length ≤ c) :
    Calls Tryd.prog 28 #[.slice A l.length c, .int .i64 id] w fun e w' => e = .returned (.tuple #[.agg (rowV (rowO id (lifeGo id 0 l))), .bool (lifeGo id 0 l).isSome]) ∧ Below w.heap.size w w' := by
  obtain ⟨W, hW⟩ : ∃ W, W = w.alloc (.cells zeroRowV 23) := ⟨_, rfl⟩
  have hL : Below w.heap.size w W := by rw [hW]; exact below_alloc _ _
  have hb0 : Blk W w.heap.size 23 zeroRowV := by rw [hW]; exact Blk.new _ _ _
  have hof := Of_c NoBlk A c l id W (hr.below hL) hn hx hlc (fun k h => h.elim)
  have hsm := lifeO_small (id := id) hx hn
  have hsz : ∀ f, lifeGo id 0 l = some f → f.read.size ≤ 1000000 ∧ f.taken.size ≤ 1000000 := fun f hf => by
    have := life_small2 hf hx
    exact ⟨Nat.le_trans this.read (by omega), Nat.le_trans this.taken (by omega)⟩
  have HO := hide hof
  have HW := hide hW
  have HL := hide hL
  have HB0 := hide hb0
  have HR0 : w.heap.size < W.heap.size := hb0.lt
  clear hof hW hL hb0 hr hx
  go_enter Tryd.func28, Tryd.ntmps28
  go_upto_region 1 with fail
  change Code.wp _ _ _ _ (w.alloc (.cells zeroRowV 23))
  rw [← HW.out]
  go_wp2_with fail
  refine HO.out.mono ?_
  intro e w3 hret
  have hb3 := hret.1
  obtain ⟨y0, y1, y2, y3, y4, y5, y6, y7, y8, y9⟩ := (HB0.out.below hb3).tenR
  have hfz := fun i => (HB0.out.below hb3).frozen i
  have f0 := hfz 0; have f1 := hfz 1; have f2 := hfz 2; have f3 := hfz 3; have f4 := hfz 4; have f5 := hfz 5; have f6 := hfz 6; have f7 := hfz 7; have f8 := hfz 8; have f9 := hfz 9
  have HB3 := hide hb3
  have hlt3 : w.heap.size < w3.heap.size := (HB0.out.below hb3).lt
  have ne1 : ¬ w.heap.size = w3.heap.size := by omega
  have ne2 : ¬ w3.heap.size = w.heap.size := by omega
  clear hfz hb3

  cases ho : lifeGo id 0 l with
  | none =>
    rw [ho] at hret
    obtain ⟨_, r, rfl, rfl⟩ := hret
    have Ho := hide ho
    clear ho hsz hsm
    have HB0' := hide (HB0.out.below HB3.out)
    go_wp2_with fail
    obtain ⟨wz, hz⟩ : ∃ wz, wz = ((((((((((w3.setCell ⟨w.heap.size, 0, none⟩ (.int .i64 0)).setCell ⟨w.heap.size, 1, none⟩ (.int .i64 0)).setCell ⟨w.heap.size, 2, none⟩ (.int .i64 0)).setCell ⟨w.heap.size, 3, none⟩ (.int .i64 0)).setCell ⟨w.heap.size, 4, none⟩ (.int .i64 0)).setCell ⟨w.heap.size, 5, none⟩ (.int .i64 0)).setCell ⟨w.heap.size, 6, none⟩ (.int .i64 0)).setCell ⟨w.heap.size, 7, none⟩ (.int .i64 0)).setCell ⟨w.heap.size, 8, none⟩ (.int .i64 0)).setCell ⟨w.heap.size, 9, none⟩ (.int .i64 0)).alloc (.cells #[.int .i64 0, .int .i64 0, .int .i64 0, .slice none 0 0, .slice none 0 0, .string ⟨#[]⟩, .string ⟨#[]⟩, .bool false, .int .i64 0] 78) := ⟨_, rfl⟩
    have tB : Blk wz w.heap.size 23 zeroRowV := by rw [hz]; exact (HB0'.out.put10 (.int .i64 0) (.int .i64 0) (.int .i64 0) (.int .i64 0) (.int .i64 0) (.int .i64 0) (.int .i64 0) (.int .i64 0) (.int .i64 0) (.int .i64 0)).alloc _
    have lB := hide (show Below w.heap.size w wz from by rw [hz]; exact (below_put10 (HL.out.trans (HB3.out.mono HL.out.size)) (Nat.le_refl _) (.int .i64 0) (.int .i64 0) (.int .i64 0) (.int .i64 0) (.int .i64 0) (.int .i64 0) (.int .i64 0) (.int .i64 0) (.int .i64 0) (.int .i64 0)).alloc (by simp [World.setCell]; omega) _)
    rw [← hz]
    clear hz y0 y1 y2 y3 y4 y5 y6 y7 y8 y9 f0 f1 f2 f3 f4 f5 f6 f7 f8 f9
    obtain ⟨z0, z1, z2, z3, z4, z5, z6, z7, z8, z9⟩ := tB.tenR
    refine bodyPost_ret (v := .tuple #[.agg zeroRowV, .bool false]) (by simp [results, Tryd.results28, go_sem, z0, z1, z2, z3, z4, z5, z6, z7, z8, z9]) rfl ?_
    exact ⟨by rw [Ho.out]; rfl, lB.out⟩
  | some f =>
    rw [ho] at hret
    obtain ⟨_, A3, c3, B3, d3, r, rfl, rfl, _, rs3, _, _⟩ := hret
    have hs1 := (hsz f ho)
    have hs2 := hsm.2
    rw [ho] at hs2
    have hs3 : f.steps.length ≤ 100000 := hs2
    have Ho := hide ho
    clear ho hsz hsm hs2
    have Hrow := hide (fun k => show rowK id f k = ⟨id, f.script, f.start, f.steps.length, looksN (f.steps.take k), jumpsN (f.steps.take k), f.read.size, f.taken.size, f.status, endK f k⟩ from rfl)
    have Hl := hide (fun k => looks_succ f.steps k)
    have Hj := hide (fun k => jumps_succ f.steps k)
    have He := hide (fun k => end_succ f k)
    have Hll := hide (fun k => looks_le f.steps k)
    have Hjl := hide (fun k => jumps_le f.steps k)
    have Hend := hide (show rowO id (some f) = rowK id f f.steps.length from rfl)
    have Hz := hide (show rowK id f 0 = ⟨id, f.script, f.start, f.steps.length, 0, 0, f.read.size, f.taken.size, f.status, 9223372036854775807⟩ from by unfold rowK endK looksN jumpsN; simp)
    obtain ⟨sc, hsc⟩ : ∃ x, x = f.script := ⟨_, rfl⟩
    obtain ⟨st, hstt⟩ : ∃ x, x = f.start := ⟨_, rfl⟩
    obtain ⟨il, hil⟩ : ∃ x, x = f.ins.length := ⟨_, rfl⟩
    obtain ⟨n, hnn⟩ : ∃ x, x = f.steps.length := ⟨_, rfl⟩
    obtain ⟨rd, hrd⟩ : ∃ x, x = f.read := ⟨_, rfl⟩
    obtain ⟨tk, htk⟩ : ∃ x, x = f.taken := ⟨_, rfl⟩
    obtain ⟨eo, heo⟩ : ∃ x, x = f.eof := ⟨_, rfl⟩
    obtain ⟨ss, hss⟩ : ∃ x, x = f.status := ⟨_, rfl⟩
    rw [← hsc, ← hstt, ← hnn, ← hrd, ← htk, ← hss] at Hrow Hz
    rw [← hrd, ← htk] at hs1
    rw [← hnn] at Hll Hjl Hl Hj Hend hs3
    rw [← hss] at He
    rw [← hsc, ← hstt, ← hil, ← hnn, ← hrd, ← htk, ← heo, ← hss]
    clear hsc hstt hil hrd htk heo hss
    obtain ⟨rs, hrs⟩ : ∃ x, x = rd.size := ⟨_, rfl⟩
    obtain ⟨ts, hts⟩ : ∃ x, x = tk.size := ⟨_, rfl⟩
    rw [← hrs, ← hts] at Hrow Hz hs1
    have Hrs := hide hrs.symm
    have Hts := hide hts.symm
    have Hnn := hide hnn
    clear hrs hts hnn
    have HLB := hide (show Blk ((w3.alloc (.cells #[.int .i64 id, .int .i64 sc, .int .i64 st, .slice A3 il c3, .slice B3 n d3, .string rd, .string tk, .bool eo, .int .i64 ss] 78)).alloc (.cells (rowV ⟨id, sc, st, n, 0, 0, rs, ts, ss, 9223372036854775807⟩) 23)) w3.heap.size 78 #[.int .i64 id, .int .i64 sc, .int .i64 st, .slice A3 il c3, .slice B3 n d3, .string rd, .string tk, .bool eo, .int .i64 ss] from (Blk.new _ _ _).alloc _)
    have HRA := hide (show RowAt w ((w3.alloc (.cells #[.int .i64 id, .int .i64 sc, .int .i64 st, .slice A3 il c3, .slice B3 n d3, .string rd, .string tk, .bool eo, .int .i64 ss] 78)).alloc (.cells (rowV ⟨id, sc, st, n, 0, 0, rs, ts, ss, 9223372036854775807⟩) 23)) ((w3.alloc (.cells #[.int .i64 id, .int .i64 sc, .int .i64 st, .slice A3 il c3, .slice B3 n d3, .string rd, .string tk, .bool eo, .int .i64 ss] 78)).alloc (.cells (rowV ⟨id, sc, st, n, 0, 0, rs, ts, ss, 9223372036854775807⟩) 23)) (w3.heap.size + 1) ⟨id, sc, st, n, 0, 0, rs, ts, ss, 9223372036854775807⟩ from
      ⟨Blk.new' (by simp), Only.refl _ _, ((HL.out.trans (HB3.out.mono HL.out.size)).alloc (by omega) _).alloc (by simp; omega) _⟩)
    have HRd := hide (show Rd ((w3.alloc (.cells #[.int .i64 id, .int .i64 sc, .int .i64 st, .slice A3 il c3, .slice B3 n d3, .string rd, .string tk, .bool eo, .int .i64 ss] 78)).alloc (.cells (rowV ⟨id, sc, st, n, 0, 0, rs, ts, ss, 9223372036854775807⟩) 23)) (· = w3.heap.size + 1) B3 (flat encStp f.steps) from by
      rcases rs3 with h | ⟨b, o, hA, hm, hb, hc⟩
      · exact Or.inl h
      · have h2 : Rd w3 (· = w3.heap.size + 1) B3 (flat encStp f.steps) := Or.inr ⟨b, o, hA, by omega, hb, hc⟩
        exact (h2.alloc _).alloc _)
    have HZ0 := hide (((HB0.out.below HB3.out).alloc (.cells #[.int .i64 id, .int .i64 sc, .int .i64 st, .slice A3 il c3, .slice B3 n d3, .string rd, .string tk, .bool eo, .int .i64 ss] 78)).alloc (.cells (rowV ⟨id, sc, st, n, 0, 0, rs, ts, ss, 9223372036854775807⟩) 23))
    have hR : w.heap.size ≤ w3.heap.size + 1 := by omega
    have hrs0 : rs ≤ 1000000 := hs1.1
    have hts0 : ts ≤ 1000000 := hs1.2
    have hrs1 : rd.size = rs := Hrs.out
    have hts1 : tk.size = ts := Hts.out
    clear rs3 hs1 y0 y1 y2 y3 y4 y5 y6 y7 y8 y9 f0 f1 f2 f3 f4 f5 f6 f7 f8 f9 ne1 ne2
    go_upto_region 5 with fail
    change Code.wp _ _ _ _ ((w3.alloc (.cells #[.int .i64 id, .int .i64 sc, .int .i64 st, .slice A3 il c3, .slice B3 n d3, .string rd, .string tk, .bool eo, .int .i64 ss] 78)).alloc (.cells (rowV ⟨id, sc, st, n, 0, 0, rs, ts, ss, 9223372036854775807⟩) 23))
    obtain ⟨W5, hW5⟩ : ∃ W5, W5 = (w3.alloc (.cells #[.int .i64 id, .int .i64 sc, .int .i64 st, .slice A3 il c3, .slice B3 n d3, .string rd, .string tk, .bool eo, .int .i64 ss] 78)).alloc (.cells (rowV ⟨id, sc, st, n, 0, 0, rs, ts, ss, 9223372036854775807⟩) 23) := ⟨_, rfl⟩
    rw [← hW5] at HLB HRA HRd HZ0 ⊢
    clear hW5
    have y4 : W5.cell? ⟨w3.heap.size, 4, none⟩ = some (.slice B3 n d3) := by rw [HLB.out.cell]; rfl
    go_wp2_with fail
    clear y4
    go_loopw [41] (fun i wr => ∃ k : Nat, k ≤ n ∧ i = .int .i64 k ∧ Hid (RowAt w W5 wr (w3.heap.size + 1) (rowK id f k))) (fun i _ => n - (intOf i).toNat)
    case atStart => exact ⟨0, Nat.zero_le _, rfl, hide (by rw [Hz.out]; exact HRA.out)⟩
    case round =>
      obtain ⟨k, hk, rfl, hra⟩ := hrel
      have hlbw := hide (HLB.out.only hra.out.only (by omega))
      have hwrl := hra.out.blk.lt
      have hwr2 : w3.heap.size < wr.heap.size := hlbw.out.lt
      by_cases hlt : k < n
      · obtain ⟨b, o, rfl, hbm, hbl, g0, g1, g2, g3, g4, g5⟩ := stp_cellsR (HRd.out.only hra.out.only (fun _ h => h)) k (by rw [← Hnn.out]; exact hlt)
        have Hl1 := Hl.out k hlt
        have Hj1 := Hj.out k hlt
        have He1 := He.out k
        have Hr1 := Hrow.out (k + 1)
        have hra1 := hra.out
        rw [Hrow.out k] at hra1
        have Hll1 := Hll.out k
        have Hjl1 := Hjl.out k
        obtain ⟨x, hx⟩ : ∃ x, x = stpAt f.steps k := ⟨_, rfl⟩
        rw [← hx] at g0 g1 g2 g3 g4 g5 Hl1 Hj1 He1
        obtain ⟨lk, hlk⟩ : ∃ lk, lk = looksN (f.steps.take k) := ⟨_, rfl⟩
        obtain ⟨jk, hjk⟩ : ∃ jk, jk = jumpsN (f.steps.take k) := ⟨_, rfl⟩
        obtain ⟨ek, hek⟩ : ∃ ek, ek = endK f k := ⟨_, rfl⟩
        rw [← hlk] at hra1 Hl1 Hll1
        rw [← hjk] at hra1 Hj1 Hjl1
        rw [← hek] at hra1 He1
        rw [Hl1, Hj1, He1] at Hr1
        have HR1 := hide Hr1
        have HRA1 := hide hra1
        obtain ⟨y0, y1, y2, y3, y4, y5, y6, y7, y8, y9⟩ := hra1.blk.tenR
        have f4 := hra1.blk.frozen 4
        have l8 : wr.cell? ⟨w3.heap.size, 8, none⟩ = some (.int .i64 ss) := by rw [hlbw.out.cell]; rfl
        have ne1 : ¬ wr.heap.size = w3.heap.size + 1 := by omega
        have ne2 : ¬ w3.heap.size + 1 = wr.heap.size := by omega
        have ne3 : ¬ wr.heap.size = w3.heap.size := by omega
        have ne4 : ¬ w3.heap.size = wr.heap.size := by omega
        have w1 : IntKind.i64.wrap (lk + 1) = lk + 1 := IntWalk.i64_in _ (by omega)
        have w2 : IntKind.i64.wrap (jk + 1) = jk + 1 := IntWalk.i64_in _ (by omega)
        have j1 : (0 : Int) ≤ (k : Int) := by omega
        have j2 : (k : Int) < (n : Int) := by omega
        have j3 : decide ((k : Int) < (n : Int)) = true := by simp; exact hlt
        clear Hl1 Hj1 He1 Hr1 hra1 hlk hjk hek hx Hll1 Hjl1
        cases q1 : (x.what == 1) with
        | true =>
          have Qw := hide (show x.what = 1 by simpa using q1)
          have H2 := hide ((HRA1.out.set_ (r' := ⟨id, sc, st, n, lk + 1, jk, rs, ts, ss, ek⟩) hR 4 (.int .i64 (lk + 1)) rfl).alloc (.cells (stpV x) 46))
          have hsb := hide (show Blk ((wr.setCell ⟨w3.heap.size + 1, 4, none⟩ (.int .i64 (lk + 1))).alloc (.cells (stpV x) 46)) wr.heap.size 46 (stpV x) from Blk.new' (by simp [World.setCell]))
          go_wp2_with fail
          refine (jumps_c x _).mono ?_
          rintro e w5 ⟨rfl, hb5⟩
          have H3 := hide (H2.out.call hb5)
          have HS5 := hide (hsb.out.below hb5)
          have t0 : w5.cell? ⟨wr.heap.size, 0, none⟩ = some (.int .i64 x.tick) := by rw [HS5.out.cell]; rfl
          have l8' : w5.cell? ⟨w3.heap.size, 8, none⟩ = some (.int .i64 ss) := by rw [(HLB.out.only H3.out.only (by omega)).cell]; rfl
          clear hb5 y0 y1 y2 y3 y4 y5 y6 y7 y8 y9 f4 l8 H2 hsb
          obtain ⟨y0, y1, y2, y3, y4, y5, y6, y7, y8, y9⟩ := H3.out.blk.tenR
          have f5 := H3.out.blk.frozen 5
          have f9 := H3.out.blk.frozen 9
          have hs5 := hide (show wr.heap.size < w5.heap.size from HS5.out.lt)
          cases q2 : jumpsB x with
          | true =>
            have H4 := hide (H3.out.set_ (r' := ⟨id, sc, st, n, lk + 1, jk + 1, rs, ts, ss, ek⟩) hR 5 (.int .i64 (jk + 1)) rfl)
            cases q3 : (ss != 0) with
            | true =>
              have qs : ¬ ss = 0 := by simpa using q3
              have H5 := hide (H4.out.set_ (r' := ⟨id, sc, st, n, lk + 1, jk + 1, rs, ts, ss, x.tick⟩) hR 9 (.int .i64 x.tick) rfl)
              have HF := hide (show rowK id f (k + 1) = ⟨id, sc, st, n, lk + 1, jk + 1, rs, ts, ss, x.tick⟩ by rw [HR1.out, if_pos Qw.out, if_pos q2, if_neg qs])
              clear qs HR1 HRA1 H3 H4
              go_wp2_with fail
              go_roundw
              case rel => exact ⟨k + 1, by omega, by go_num, hide (by rw [HF.out]; exact H5.out)⟩
              case measure => simp [intOf]; omega
            | false =>
              have qs : ss = 0 := by simpa using q3
              have H5 := hide (H4.out)
              have HF := hide (show rowK id f (k + 1) = ⟨id, sc, st, n, lk + 1, jk + 1, rs, ts, ss, ek⟩ by rw [HR1.out, if_pos Qw.out, if_pos q2, if_pos qs])
              clear qs HR1 HRA1 H3 H4
              go_wp2_with fail
              go_roundw
              case rel => exact ⟨k + 1, by omega, by go_num, hide (by rw [HF.out]; exact H5.out)⟩
              case measure => simp [intOf]; omega
          | false =>
            have H4 := hide (H3.out)
            cases q3 : (ss != 0) with
            | true =>
              have qs : ¬ ss = 0 := by simpa using q3
              have H5 := hide (H4.out.set_ (r' := ⟨id, sc, st, n, lk + 1, jk, rs, ts, ss, x.tick⟩) hR 9 (.int .i64 x.tick) rfl)
              have HF := hide (show rowK id f (k + 1) = ⟨id, sc, st, n, lk + 1, jk, rs, ts, ss, x.tick⟩ by rw [HR1.out, if_pos Qw.out, if_neg (by rw [q2]; decide), if_neg qs]; simp)
              clear qs HR1 HRA1 H3 H4
              go_wp2_with fail
              go_roundw
              case rel => exact ⟨k + 1, by omega, by go_num, hide (by rw [HF.out]; exact H5.out)⟩
              case measure => simp [intOf]; omega
            | false =>
              have qs : ss = 0 := by simpa using q3
              have H5 := hide (H4.out)
              have HF := hide (show rowK id f (k + 1) = ⟨id, sc, st, n, lk + 1, jk, rs, ts, ss, ek⟩ by rw [HR1.out, if_pos Qw.out, if_neg (by rw [q2]; decide), if_pos qs]; simp)
              clear qs HR1 HRA1 H3 H4
              go_wp2_with fail
              go_roundw
              case rel => exact ⟨k + 1, by omega, by go_num, hide (by rw [HF.out]; exact H5.out)⟩
              case measure => simp [intOf]; omega
        | false =>
          have Qw := hide (show ¬ x.what = 1 by simpa using q1)
          have H2 := hide (HRA1.out.alloc (.cells (stpV x) 46))
          have hsb := hide (show Blk (wr.alloc (.cells (stpV x) 46)) wr.heap.size 46 (stpV x) from Blk.new' (by simp))
          go_wp2_with fail
          refine (jumps_c x _).mono ?_
          rintro e w5 ⟨rfl, hb5⟩
          have H3 := hide (H2.out.call hb5)
          have HS5 := hide (hsb.out.below hb5)
          have t0 : w5.cell? ⟨wr.heap.size, 0, none⟩ = some (.int .i64 x.tick) := by rw [HS5.out.cell]; rfl
          have l8' : w5.cell? ⟨w3.heap.size, 8, none⟩ = some (.int .i64 ss) := by rw [(HLB.out.only H3.out.only (by omega)).cell]; rfl
          clear hb5 y0 y1 y2 y3 y4 y5 y6 y7 y8 y9 f4 l8 H2 hsb
          obtain ⟨y0, y1, y2, y3, y4, y5, y6, y7, y8, y9⟩ := H3.out.blk.tenR
          have f5 := H3.out.blk.frozen 5
          have f9 := H3.out.blk.frozen 9
          have hs5 := hide (show wr.heap.size < w5.heap.size from HS5.out.lt)
          cases q2 : jumpsB x with
          | true =>
            have H4 := hide (H3.out.set_ (r' := ⟨id, sc, st, n, lk, jk + 1, rs, ts, ss, ek⟩) hR 5 (.int .i64 (jk + 1)) rfl)
            cases q3 : (ss != 0) with
            | true =>
              have qs : ¬ ss = 0 := by simpa using q3
              have H5 := hide (H4.out.set_ (r' := ⟨id, sc, st, n, lk, jk + 1, rs, ts, ss, x.tick⟩) hR 9 (.int .i64 x.tick) rfl)
              have HF := hide (show rowK id f (k + 1) = ⟨id, sc, st, n, lk, jk + 1, rs, ts, ss, x.tick⟩ by rw [HR1.out, if_neg Qw.out, if_pos q2, if_neg qs]; simp)
              clear qs HR1 HRA1 H3 H4
              go_wp2_with fail
              go_roundw
              case rel => exact ⟨k + 1, by omega, by go_num, hide (by rw [HF.out]; exact H5.out)⟩
              case measure => simp [intOf]; omega
            | false =>
              have qs : ss = 0 := by simpa using q3
              have H5 := hide (H4.out)
              have HF := hide (show rowK id f (k + 1) = ⟨id, sc, st, n, lk, jk + 1, rs, ts, ss, ek⟩ by rw [HR1.out, if_neg Qw.out, if_pos q2, if_pos qs]; simp)
              clear qs HR1 HRA1 H3 H4
              go_wp2_with fail
              go_roundw
              case rel => exact ⟨k + 1, by omega, by go_num, hide (by rw [HF.out]; exact H5.out)⟩
              case measure => simp [intOf]; omega
          | false =>
            have H4 := hide (H3.out)
            cases q3 : (ss != 0) with
            | true =>
              have qs : ¬ ss = 0 := by simpa using q3
              have H5 := hide (H4.out.set_ (r' := ⟨id, sc, st, n, lk, jk, rs, ts, ss, x.tick⟩) hR 9 (.int .i64 x.tick) rfl)
              have HF := hide (show rowK id f (k + 1) = ⟨id, sc, st, n, lk, jk, rs, ts, ss, x.tick⟩ by rw [HR1.out, if_neg Qw.out, if_neg (by rw [q2]; decide), if_neg qs]; simp)
              clear qs HR1 HRA1 H3 H4
              go_wp2_with fail
              go_roundw
              case rel => exact ⟨k + 1, by omega, by go_num, hide (by rw [HF.out]; exact H5.out)⟩
              case measure => simp [intOf]; omega
            | false =>
              have qs : ss = 0 := by simpa using q3
              have H5 := hide (H4.out)
              have HF := hide (show rowK id f (k + 1) = ⟨id, sc, st, n, lk, jk, rs, ts, ss, ek⟩ by rw [HR1.out, if_neg Qw.out, if_neg (by rw [q2]; decide), if_pos qs]; simp)
              clear qs HR1 HRA1 H3 H4
              go_wp2_with fail
              go_roundw
              case rel => exact ⟨k + 1, by omega, by go_num, hide (by rw [HF.out]; exact H5.out)⟩
              case measure => simp [intOf]; omega
      · have hke : k = n := by omega
        subst hke
        have hd : decide ((k : Int) < (k : Int)) = false := by simp
        have hd2 : decide (k < k) = false := by simp
        have hra1 := hra.out
        have HE := hide (show rowV (rowO id (some f)) = rowV (rowK id f k) from by rw [Hend.out])
        obtain ⟨r, hr⟩ : ∃ r, r = rowK id f k := ⟨_, rfl⟩
        rw [← hr] at hra1 HE
        obtain ⟨a0, a1, a2, a3, a4, a5, a6, a7, a8, a9⟩ := r
        obtain ⟨y0, y1, y2, y3, y4, y5, y6, y7, y8, y9⟩ := hra1.blk.tenR
        have HZw := hide (HZ0.out.only hra1.only (by omega))
        obtain ⟨x0, x1, x2, x3, x4, x5, x6, x7, x8, x9⟩ := HZw.out.tenR
        have hfz := fun i => HZw.out.frozen i
        have f0 := hfz 0; have f1 := hfz 1; have f2 := hfz 2; have f3 := hfz 3; have f4 := hfz 4; have f5 := hfz 5; have f6 := hfz 6; have f7 := hfz 7; have f8 := hfz 8; have f9 := hfz 9
        have HBl := hide hra1.bel
        have ne1 : ¬ w.heap.size = w3.heap.size + 1 := by omega
        have ne2 : ¬ w3.heap.size + 1 = w.heap.size := by omega
        clear hfz hra1 hra hr Hrow Hl Hj He Hll Hjl Hend Hz HRA HRd hlbw
        go_wp2_with fail
        obtain ⟨wz, hz⟩ : ∃ wz, wz = ((((((((((wr.setCell ⟨w.heap.size, 0, none⟩ (.int .i64 a0)).setCell ⟨w.heap.size, 1, none⟩ (.int .i64 a1)).setCell ⟨w.heap.size, 2, none⟩ (.int .i64 a2)).setCell ⟨w.heap.size, 3, none⟩ (.int .i64 a3)).setCell ⟨w.heap.size, 4, none⟩ (.int .i64 a4)).setCell ⟨w.heap.size, 5, none⟩ (.int .i64 a5)).setCell ⟨w.heap.size, 6, none⟩ (.int .i64 a6)).setCell ⟨w.heap.size, 7, none⟩ (.int .i64 a7)).setCell ⟨w.heap.size, 8, none⟩ (.int .i64 a8)).setCell ⟨w.heap.size, 9, none⟩ (.int .i64 a9)) := ⟨_, rfl⟩
        have tB : Blk wz w.heap.size 23 #[.int .i64 a0, .int .i64 a1, .int .i64 a2, .int .i64 a3, .int .i64 a4, .int .i64 a5, .int .i64 a6, .int .i64 a7, .int .i64 a8, .int .i64 a9] := by rw [hz]; exact HZw.out.put10 (.int .i64 a0) (.int .i64 a1) (.int .i64 a2) (.int .i64 a3) (.int .i64 a4) (.int .i64 a5) (.int .i64 a6) (.int .i64 a7) (.int .i64 a8) (.int .i64 a9)
        have lB := hide (show Below w.heap.size w wz from by rw [hz]; exact below_put10 HBl.out (Nat.le_refl _) (.int .i64 a0) (.int .i64 a1) (.int .i64 a2) (.int .i64 a3) (.int .i64 a4) (.int .i64 a5) (.int .i64 a6) (.int .i64 a7) (.int .i64 a8) (.int .i64 a9))
        rw [← hz]
        clear hz y0 y1 y2 y3 y4 y5 y6 y7 y8 y9 x0 x1 x2 x3 x4 x5 x6 x7 x8 x9 f0 f1 f2 f3 f4 f5 f6 f7 f8 f9
        obtain ⟨z0, z1, z2, z3, z4, z5, z6, z7, z8, z9⟩ := tB.tenR
        refine bodyPost_ret (v := .tuple #[.agg #[.int .i64 a0, .int .i64 a1, .int .i64 a2, .int .i64 a3, .int .i64 a4, .int .i64 a5, .int .i64 a6, .int .i64 a7, .int .i64 a8, .int .i64 a9], .bool true]) (by simp [results, Tryd.results28, go_sem, z0, z1, z2, z3, z4, z5, z6, z7, z8, z9]) rfl ?_
        exact ⟨by rw [Ho.out, HE.out]; rfl, lB.out⟩
end Go.Proofs.YthnjebpbokmemaaDoor
