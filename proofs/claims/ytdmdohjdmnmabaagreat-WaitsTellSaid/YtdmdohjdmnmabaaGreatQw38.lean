/- Parts of a chain of lemmas: RefCls1, RefCls2, RefCls3. Conditions: those of each theorem. -/
import Derived.Test.YtdmdohjdmnmabaaGreatQw07
import Derived.Test.YtdmdohjdmnmabaaGreatQw16
import Derived.Test.YtdmdohjdmnmabaaGreatQw06
namespace Go.Proofs.YtdmdohjdmnmabaaGreat
open Go.RowKit
set_option linter.unusedVariables false
set_option linter.unusedSimpArgs false

theorem Tryz.infoBool : (Tryz.prog.info? 4).map (fun i => (i.zero, i.size, i.bytes)) = some (some (.bool false), 1, 1) := by kernel_rfl
def encB (b : Bool) : List Value := [.bool b]
theorem encB_len (b : Bool) : (encB b).length = 1 := rfl
theorem encB_one (b : Bool) : ∀ u ∈ encB b, u.oneCell' = true := by intro u hu; simp [encB] at hu; subst hu; rfl
def bAt (l : List Bool) (k : Nat) : Bool := l.getD k false
theorem flat_b (l : List Bool) : flat encB l = l.map Value.bool := by
 induction l with
 | nil => rfl
 | cons a r ih => rw [flat_cons, ih]; rfl
theorem own_b {w : World} {base n : Nat} {A : Option Addr} {c : Nat} {s : List Bool} (h : w.ownsRow base 4 1 (.slice A n c) n (flat encB s)) (j : Nat) (hj : j < n) : ∃ g, A = some ⟨g, 0, none⟩ ∧ base ≤ g ∧ g < w.heap.size ∧ w.cell? ⟨g, j, none⟩ = some (.bool (bAt s j)) ∧ w.frozen? ⟨g, j, none⟩ = false := by
 obtain ⟨hl, h2⟩ := h
 rcases h2 with ⟨hv, hn⟩ | ⟨g, cap, cur, hv, hb, hh, hnc, hcm, hsz, htk⟩
 ·omega
 ·injection hv with hv _ _
  have hB : Blk w g 4 cur := hh
  refine ⟨g, hv, hb, hB.lt, ?_, hB.frozen j⟩
  rw [hB.cell j]
  have e : cur[j]? = (cur.toList.take (n * 1))[j]? := by rw [List.getElem?_take, if_pos (by omega)]; simp
  rw [e, htk, flat_b]
  rw [flat_b] at hl
  have hjl : j < s.length := by simp at hl; omega
  simp [bAt, List.getD, hjl]
set_option maxRecDepth 100000 in
set_option maxHeartbeats 1600000 in
theorem refHas_c (a b c d : Int) (x : Nat) (w : World) (hx : x < 256) : Calls Tryz.prog 187 #[.agg (setA a b c d), .int .i64 x] w fun e w' => ∃ v, e = .returned (.bool v) ∧ Below w.heap.size w w' := by
 unfold setA
 have hr1 : Int.tmod (x : Int) 64 = ((x % 64 : Nat) : Int) := by rw [Int.tmod_eq_emod_of_nonneg (by omega)]; omega
 have hr2 : (x : Int) % 64 = ((x % 64 : Nat) : Int) := by omega
 have hr3 : x % 64 < 64 := Nat.mod_lt _ (by omega)
 have h4 : x / 64 = 0 ∨ x / 64 = 1 ∨ x / 64 = 2 ∨ x / 64 = 3 := by omega
 rcases h4 with h4 | h4 | h4 | h4
 all_goals
  have hq1 : Int.tdiv (x : Int) 64 = ((x / 64 : Nat) : Int) := by rw [Int.tdiv_eq_ediv_of_nonneg (by omega)]; omega
  have hq2 : (x : Int) / 64 = ((x / 64 : Nat) : Int) := by omega
  have hw1 : IntKind.i64.wrap ((x / 64 : Nat) : Int) = ((x / 64 : Nat) : Int) := IntWalk.i64_in _ (by omega)
  have hw2 : IntKind.i64.wrap ((x % 64 : Nat) : Int) = ((x % 64 : Nat) : Int) := IntWalk.i64_in _ (by omega)
  rw [h4] at hq1 hq2 hw1
  clear h4
  obtain ⟨r, hr⟩ : ∃ r, r = x % 64 := ⟨_, rfl⟩
  rw [← hr] at hr1 hr2 hr3 hw2
  clear hr
  go_enter Tryz.func187, Tryz.ntmps187
  go_wp2_with fail
  go_loopw [5, 6] (fun n i wr => ∃ (k : Nat) (v : Int), k < 64 ∧ i = .int .i64 k ∧ n = .int .u64 v ∧ Hid (Below w.heap.size w wr)) (fun _ i _ => (intOf i).toNat)
  case atStart => exact ⟨r, _, by omega, by go_num, rfl, hide (below_alloc _ _)⟩
  case round =>
   obtain ⟨k, v, hk, rfl, rfl, hbel⟩ := hrel
   by_cases h0 : 0 < k
   ·have d1 : decide ((0 : Int) < (k : Int)) = true := by simp; omega
    have d2 : decide (0 < k) = true := by simp; omega
    go_wp2_with fail
    go_roundw
    case rel => exact ⟨k - 1, _, by omega, by go_num, rfl, hbel⟩
    case measure => simp [intOf]; omega
   ·have d1 : decide ((0 : Int) < (k : Int)) = false := by simp; omega
    have d2 : decide (0 < k) = false := by simp; omega
    go_wp2_with fail
    go_ret
    exact ⟨_, rfl, hbel.out⟩
set_option maxRecDepth 100000 in
set_option maxHeartbeats 1600000 in
theorem refFlags_c (a b c d : Int) (w : World) : Calls Tryz.prog 179 #[.agg (setA a b c d)] w fun e w' => ∃ v s, e = .returned v ∧ w'.ownsRow w.heap.size 4 1 v 256 (flat encB s) ∧ Below w.heap.size w w' := by
 obtain ⟨i0, hi, hz0, hz1, hz2⟩ := info_parts Tryz.infoBool
 go_enter Tryz.func179, Tryz.ntmps179
 go_wp2_with fail
 unfold setA
 go_loopw [3, 4] (fun v i wr => ∃ (k : Nat) (s : List Bool), k ≤ 256 ∧ i = .int .i64 k ∧ Hid (wr.ownsRow w.heap.size 4 1 v k (flat encB s)) ∧ Hid (Below w.heap.size w wr) ∧ Hid (Blk wr w.heap.size 217 (setA a b c d))) (fun _ i _ => 256 - (intOf i).toNat)
 case atStart => exact ⟨0, [], by omega, rfl, hide (own_empty' (by simp) (by simp)), hide ((below_alloc _ _).alloc (by simp) _), hide ((Blk.new _ _ _).alloc _)⟩
 case round =>
  obtain ⟨k, s, hk, rfl, hown, hbel, hB⟩ := hrel
  obtain ⟨A1, c1, rfl, hcap⟩ := own_cap hown.out
  obtain ⟨⟨g0, g1, g2, g3⟩, _⟩ := hB.out.four
  by_cases hlt : k < 256
  ·have HH := hide (show Calls Tryz.prog 187 #[.agg #[.int .u64 a, .int .u64 b, .int .u64 c, .int .u64 d], .int .i64 k] wr _ from refHas_c a b c d k wr hlt)
   go_wp2_with (first
    | (go_at_call 187
       refine HH.out.mono ?_
       rintro e w2 ⟨v, rfl, hb2⟩
       have HO2 := hide (own_only hown.out (Only.of_below hb2 NoBlk) (fun _ _ h => h.elim))
       have HL2 := hide (hbel.out.trans (hb2.mono hbel.out.size))
       have HB2 := hide (hB.out.below hb2)
       have Hrd := hide (show Rd (w2.alloc (.cells (encB v).toArray 4)) NoBlk (some ⟨w2.heap.size, 0, none⟩) (encB v) from rd_blkN (Blk.new _ _ _) (fun h => h))
       have Hone := hide (encB_one v)
       clear hb2 g0 g1 g2 g3)
    | (at_builtin; refine wpList_append_rd _ rfl (.tmp 10) (.tmp 14) _ rfl w.heap.size 4 i0 _ 1 1 Tryz.underlying232 hi hz0 hz1 hz2 rfl (by omega) _ k _ rfl (HO2.out.alloc _) NoBlk (some ⟨w2.heap.size, 0, none⟩) 1 1 (encB v) rfl Hrd.out rfl Hone.out (by simp only [maxLen]; omega) (by omega) (by have := HL2.out.size; simp; omega) ?_; intro v2 w3 hown2 hgr _; have Own2 := hide hown2; have Gr := hide hgr; clear hown2 hgr))
   have HL3 := hide ((HL2.out.alloc HL2.out.size _).grown Gr.out (by have := HL2.out.size; simp; omega) (fun j hj => by have := own_ge HO2.out j hj; omega))
   go_roundw
   case rel =>
    refine ⟨k + 1, s ++ [v], by omega, by go_num, ?_, HL3, hide (Blk.grown (HB2.out.alloc _) (HO2.out.alloc _) (by decide) Gr.out)⟩
    rw [flat_append]
    exact hide (by simpa [flat] using Own2.out)
   case measure => simp [intOf]; omega
  ·obtain rfl : k = 256 := by omega
   go_wp2_with fail
   go_ret
   exact ⟨_, s, rfl, hown.out, hbel.out⟩
set_option maxRecDepth 100000 in
set_option maxHeartbeats 1600000 in
theorem refNone_c (w : World) : Calls Tryz.prog 169 #[] w fun e w' => ∃ v s, e = .returned v ∧ w'.ownsRow w.heap.size 4 1 v 256 (flat encB s) ∧ Below w.heap.size w w' := by
 have HF := hide (show Calls Tryz.prog 179 #[.agg #[.int .u64 0, .int .u64 0, .int .u64 0, .int .u64 0]] w _ from refFlags_c 0 0 0 0 w)
 go_enter Tryz.func169, Tryz.ntmps169
 go_wp2_with fail
 refine HF.out.mono ?_
 rintro e w2 ⟨v, s, rfl, ho, hb⟩
 go_wp2_with fail
 go_ret
 exact ⟨v, s, rfl, ho, hb⟩
def SetB (w : World) (g : Nat) : Prop := ∃ a b c d : Int, Blk w g 217 (setA a b c d)
theorem setB_at {w : World} {g k : Nat} (h : SetB w g) (hk : k < 4) : ∃ v : Int, w.cell? ⟨g, k, none⟩ = some (.int .u64 v) ∧ w.frozen? ⟨g, k, none⟩ = false ∧ ∀ u : Int, SetB (w.setCell ⟨g, k, none⟩ (.int .u64 u)) g := by
 obtain ⟨a, b, c, d, h⟩ := h
 have h4 : k = 0 ∨ k = 1 ∨ k = 2 ∨ k = 3 := by omega
 rcases h4 with rfl | rfl | rfl | rfl
 ·exact ⟨a, by rw [h.cell]; rfl, h.frozen _, fun u => ⟨u, b, c, d, h.set_ 0 _⟩⟩
 ·exact ⟨b, by rw [h.cell]; rfl, h.frozen _, fun u => ⟨a, u, c, d, h.set_ 1 _⟩⟩
 ·exact ⟨c, by rw [h.cell]; rfl, h.frozen _, fun u => ⟨a, b, u, d, h.set_ 2 _⟩⟩
 ·exact ⟨d, by rw [h.cell]; rfl, h.frozen _, fun u => ⟨a, b, c, u, h.set_ 3 _⟩⟩
set_option maxRecDepth 100000 in
set_option maxHeartbeats 3200000 in
theorem refMake_c (base : Nat) (A : Option Addr) (c : Nat) (s : List Bool) (w : World) (h : w.ownsRow base 4 1 (.slice A 256 c) 256 (flat encB s)) : Calls Tryz.prog 172 #[.slice A 256 c] w (RetSet w) := by
 have H := hide h
 go_enter Tryz.func172, Tryz.ntmps172
 go_wp2_with fail
 go_loopw [4] (fun i wr => ∃ k : Nat, k ≤ 4 ∧ i = .int .i64 k ∧ Hid (∃ a b c d, Blk wr (w.heap.size + 1) 217 (setA a b c d)) ∧ Hid (Blk wr w.heap.size 217 (setA 0 0 0 0)) ∧ Hid (Below w.heap.size w wr)) (fun i _ => 4 - (intOf i).toNat)
 case atStart => exact ⟨0, by omega, rfl, hide ⟨0, 0, 0, 0, Blk.new' (by simp)⟩, hide ((Blk.new _ _ _).alloc _), hide ((below_alloc _ _).alloc (by simp) _)⟩
 case round =>
  obtain ⟨k, hk, rfl, hb, hz, hbel⟩ := hrel
  by_cases hle : k < 4
  ·have d1 : decide ((k : Int) < 4) = true := by simp; omega
   have d2 : decide (k < 4) = true := by simp; omega
   go_wp2_with fail
   go_loopw [5] (fun i w2 => ∃ j : Nat, j ≤ 64 ∧ i = .int .i64 ((j : Int) - 1) ∧ Hid (∃ a b c d, Blk w2 (w.heap.size + 1) 217 (setA a b c d)) ∧ Hid (Blk w2 w.heap.size 217 (setA 0 0 0 0)) ∧ Hid (Below w.heap.size w w2)) (fun i _ => (intOf i + 1).toNat)
   case atStart => exact ⟨64, by omega, by simp, hb, hz, hbel⟩
   case round =>
    obtain ⟨j, hj, rfl, hb2, hz2, hbel2⟩ := hrel
    obtain ⟨a, b, c', d, hb2⟩ := hb2.out
    have HB := hide hb2
    by_cases hj0 : 0 < j
    ·obtain ⟨q, rfl⟩ : ∃ q, j = q + 1 := ⟨j - 1, by omega⟩
     rw [show (((q + 1 : Nat) : Int) - 1) = (q : Int) by omega]
     have e1 : decide ((0 : Int) ≤ (q : Int)) = true := by simp
     have w1 : IntKind.i64.wrap (64 * (k : Int)) = 64 * (k : Int) := IntWalk.i64_in _ (by omega)
     have w2' : IntKind.i64.wrap (64 * (k : Int) + (q : Int)) = 64 * (k : Int) + (q : Int) := IntWalk.i64_in _ (by omega)
     have hA : ∃ g, A = some ⟨g, 0, none⟩ ∧ g < w.heap.size ∧ ∀ i, i < 256 → w.cell? ⟨g, i, none⟩ = some (.bool (bAt s i)) := by
      obtain ⟨g, hg, _, hgl, _⟩ := own_b H.out 0 (by omega)
      refine ⟨g, hg, hgl, fun i hi => ?_⟩
      obtain ⟨g', hg', _, _, hc, _⟩ := own_b H.out i hi
      rw [hg] at hg'
      injection hg' with hg'
      injection hg' with hg'
      subst hg'
      exact hc
     obtain ⟨g, rfl, hgl, hcell⟩ := hA
     have hgi : wr.cell? ⟨g, 64 * k + q, none⟩ = some (.bool (bAt s (64 * k + q))) := bkeepL hbel2.out hgl (hcell _ (by omega))
     have j1 : (0 : Int) ≤ 64 * (k : Int) + (q : Int) := by omega
     have j2 : 64 * (k : Int) + (q : Int) < 256 := by omega
     have j3 : (64 * (k : Int) + (q : Int)).toNat = 64 * k + q := by omega
     have hne : ¬ g = w.heap.size + 1 := by omega
     have hne2 : ¬ w.heap.size + 1 = g := by omega
     obtain ⟨bv, hbv⟩ : ∃ bv, bv = bAt s (64 * k + q) := ⟨_, rfl⟩
     rw [← hbv] at hgi
     obtain ⟨v0, g0, f0, hset⟩ := setB_at ⟨a, b, c', d, hb2⟩ hle
     have HS := hide hset
     have k1 : (0 : Int) ≤ (k : Int) := by omega
     have k2 : (k : Int) < 4 := by omega
     clear hb hb2 hcell hbv hset
     cases bv
     ·go_wp2_with fail
      go_roundw
      case rel => exact ⟨q, by omega, rfl, hide (HS.out _), hide (hz2.out.far (by simp) _), hide (hbel2.out.setCell (by simp) _)⟩
      case measure => simp [intOf]
     ·go_wp2_with fail
      go_roundw
      case rel =>
       refine ⟨q, by omega, rfl, hide ?_, hide ((hz2.out.far (by simp) _).far (by simp) _), hide ((hbel2.out.setCell (by simp) _).setCell (by simp) _)⟩
       obtain ⟨v1, _, _, hs2⟩ := setB_at (HS.out _) hle
       exact hs2 _
      case measure => simp [intOf]
    ·obtain rfl : j = 0 := by omega
     have e1 : decide ((0 : Int) ≤ (((0 : Nat) : Int) - 1)) = false := by decide
     go_wp2_with fail
     go_roundw
     case rel => exact ⟨k + 1, by omega, by go_num, hide ⟨a, b, c', d, HB.out⟩, hz2, hbel2⟩
     case measure => simp [intOf]; omega
  ·obtain rfl : k = 4 := by omega
   obtain ⟨a, b, c', d, hb⟩ := hb.out
   obtain ⟨⟨g0, g1, g2, g3⟩, _⟩ := hb.four
   obtain ⟨⟨z0, z1, z2, z3⟩, e0, e1, e2, e3⟩ := hz.out.four
   clear hb
   go_wp2_with fail
   rw [put4]
   have r2 := hz.out.put [.int .u64 a, .int .u64 b, .int .u64 c', .int .u64 d] rfl
   have r3 := below_put [.int .u64 a, .int .u64 b, .int .u64 c', .int .u64 d] 0 hbel.out (Nat.le_refl _)
   obtain ⟨wz, hz⟩ : ∃ wz, wz = putFrom wr w.heap.size 0 [.int .u64 a, .int .u64 b, .int .u64 c', .int .u64 d] := ⟨_, rfl⟩
   rw [← hz] at r2 r3 ⊢
   obtain ⟨⟨g0, g1, g2, g3⟩, _⟩ := r2.four
   refine bodyPost_ret (v := .agg #[.int .u64 a, .int .u64 b, .int .u64 c', .int .u64 d]) (by simp [results, Tryz.results172, go_sem, g0, g1, g2, g3]) rfl ?_
   exact ⟨a, b, c', d, rfl, r3⟩
end Go.Proofs.YtdmdohjdmnmabaaGreat
namespace Go.Proofs.YtdmdohjdmnmabaaGreat
open Go.RowKit
set_option linter.unusedVariables false
set_option linter.unusedSimpArgs false

/-- a row of 256 that is the call's own -/
def OwnB (w : World) (base : Nat) (v : Value) : Prop := ∃ s, w.ownsRow base 4 1 v 256 (flat encB s)
theorem ownB_form {w : World} {base : Nat} {v : Value} (h : OwnB w base v) : ∃ g c, v = .slice (some ⟨g, 0, none⟩) 256 c ∧ base ≤ g ∧ g < w.heap.size ∧ ∀ k, k < 256 → (∃ b, w.cell? ⟨g, k, none⟩ = some (.bool b)) ∧ w.frozen? ⟨g, k, none⟩ = false := by
 obtain ⟨s, h⟩ := h
 obtain ⟨A, c, rfl⟩ := own_form h
 obtain ⟨g, rfl, hb, hl, _, _⟩ := own_b h 0 (by omega)
 refine ⟨g, c, rfl, hb, hl, fun k hk => ?_⟩
 obtain ⟨g2, e2, _, _, hc2, hf2⟩ := own_b h k hk
 injection e2 with e2
 injection e2 with e2
 subst e2
 exact ⟨⟨_, hc2⟩, hf2⟩
theorem ownB_set {w : World} {base g c : Nat} (h : OwnB w base (.slice (some ⟨g, 0, none⟩) 256 c)) (k : Nat) (hk : k < 256) (b : Bool) : OwnB (w.setCell ⟨g, k, none⟩ (.bool b)) base (.slice (some ⟨g, 0, none⟩) 256 c) := by
 obtain ⟨s, hl, h2⟩ := h
 rcases h2 with ⟨hv, hn⟩ | ⟨g1, cap, cur, hv, hb, hh, hnc, hcm, hsz, htk⟩
 ·omega
 ·injection hv with e1 _ e3
  injection e1 with e1
  injection e1 with e1
  subst e1 e3
  have hB : Blk w g 4 cur := hh
  have hB2 := hB.set_ k (.bool b)
  refine ⟨s.set k b, ?_, Or.inr ⟨g, c, cur.setIfInBounds k (.bool b), rfl, hb, hB2, hnc, hcm, by simpa using hsz, ?_⟩⟩
  ·rw [flat_b] at hl ⊢
   simpa using hl
  ·rw [flat_b] at htk ⊢
   rw [List.map_set, ← htk, Array.toList_setIfInBounds, List.take_set]
theorem ownB_same {S : Nat → Prop} {w w' : World} {base : Nat} {v : Value} (h : OwnB w base v) (k : Only S w w') (hS : ∀ g cs, S g → ¬ Blk w g 4 cs) : OwnB w' base v := by
 obtain ⟨s, h⟩ := h
 exact ⟨s, own_only h k hS⟩
theorem refMakeB_c (base : Nat) (g c : Nat) (w : World) (h : OwnB w base (.slice (some ⟨g, 0, none⟩) 256 c)) : Calls Tryz.prog 172 #[.slice (some ⟨g, 0, none⟩) 256 c] w (RetSet w) := by
 obtain ⟨s, h⟩ := h
 exact refMake_c base _ c s w h
set_option maxRecDepth 100000 in
set_option maxHeartbeats 3200000 in
theorem refSpan_c (x y : Nat) (w : World) (hx : x < 256) (hy : y < 256) : Calls Tryz.prog 160 #[.int .i64 x, .int .i64 y] w (RetSet w) := by
 have HN := hide (fun w => refNone_c w)
 go_enter Tryz.func160, Tryz.ntmps160
 go_wp2_with fail
 refine (HN.out _).mono ?_
 rintro e w2 ⟨v, s, rfl, ho, hb⟩
 have HO2 := hide (show OwnB w2 (w.heap.size + 1) v from ⟨s, by simpa using ho⟩)
 have HL2 := hide ((below_alloc w _).trans (hb.mono (by simp)))
 have HZ2 := hide ((Blk.new w 217 (setA 0 0 0 0)).below hb)
 obtain ⟨g, c, rfl, hgb, hgl, _⟩ := ownB_form HO2.out
 have hne : ¬ g = w.heap.size := by omega
 have hne2 : ¬ w.heap.size = g := by omega
 clear ho hb hgl
 go_wp2_with fail
 go_loopw [6] (fun i wr => ∃ k : Nat, k ≤ 256 ∧ i = .int .i64 k ∧ Hid (OwnB wr (w.heap.size + 1) (.slice (some ⟨g, 0, none⟩) 256 c)) ∧ Hid (Blk wr w.heap.size 217 (setA 0 0 0 0)) ∧ Hid (Below w.heap.size w wr)) (fun i _ => 256 - (intOf i).toNat)
 case atStart => exact ⟨x, by omega, rfl, HO2, HZ2, HL2⟩
 case round =>
  obtain ⟨k, hk, rfl, ho, hz, hbel⟩ := hrel
  by_cases hle : k ≤ y
  ·have d1 : decide ((k : Int) ≤ (y : Int)) = true := by simp; omega
   have d2 : decide (k ≤ y) = true := by simp; omega
   obtain ⟨g', c', e', _, hgl, hcell⟩ := ownB_form ho.out
   injection e' with e' _ _
   injection e' with e'
   injection e' with e'
   subst e'
   obtain ⟨⟨b0, g0⟩, f0⟩ := hcell k (by omega)
   have k1 : (0 : Int) ≤ (k : Int) := by omega
   have k2 : (k : Int) < 256 := by omega
   clear hcell
   go_wp2_with fail
   go_roundw
   case rel => exact ⟨k + 1, by omega, by go_num, hide (ownB_set ho.out k (by omega) true), hide (hz.out.far (by simp; omega) _), hide (hbel.out.setCell (by simp; omega) _)⟩
   case measure => simp [intOf]; omega
  ·have d1 : decide ((k : Int) ≤ (y : Int)) = false := by simp; omega
   have d2 : decide (k ≤ y) = false := by simp; omega
   have HM := hide (refMakeB_c _ g c wr ho.out)
   go_wp2_with fail
   refine HM.out.mono ?_
   rintro e w4 ⟨a, b, c', d, rfl, hb4⟩
   unfold setA
   have HZ4 := hide (hz.out.below hb4)
   have HL4 := hide (hbel.out.trans (hb4.mono hbel.out.size))
   clear hb4
   obtain ⟨⟨z0, z1, z2, z3⟩, e0, e1, e2, e3⟩ := HZ4.out.four
   go_wp2_with fail
   rw [put4]
   have r2 := HZ4.out.put [.int .u64 a, .int .u64 b, .int .u64 c', .int .u64 d] rfl
   have r3 := below_put [.int .u64 a, .int .u64 b, .int .u64 c', .int .u64 d] 0 HL4.out (Nat.le_refl _)
   obtain ⟨wz, hz⟩ : ∃ wz, wz = putFrom w4 w.heap.size 0 [.int .u64 a, .int .u64 b, .int .u64 c', .int .u64 d] := ⟨_, rfl⟩
   rw [← hz] at r2 r3 ⊢
   obtain ⟨⟨g0, g1, g2, g3⟩, _⟩ := r2.four
   refine bodyPost_ret (v := .agg #[.int .u64 a, .int .u64 b, .int .u64 c', .int .u64 d]) (by simp [results, Tryz.results160, go_sem, g0, g1, g2, g3]) rfl ?_
   exact ⟨a, b, c', d, rfl, r3⟩
set_option maxRecDepth 100000 in
set_option maxHeartbeats 3200000 in
theorem refNot_c (a b c d : Int) (w : World) : Calls Tryz.prog 173 #[.agg (setA a b c d)] w (RetSet w) := by
 have HN := hide (fun w => show Calls Tryz.prog 179 #[.agg #[.int .u64 a, .int .u64 b, .int .u64 c, .int .u64 d]] w _ from refFlags_c a b c d w)
 unfold setA
 go_enter Tryz.func173, Tryz.ntmps173
 go_wp2_with fail
 refine (HN.out _).mono ?_
 rintro e w2 ⟨v, s, rfl, ho, hb⟩
 have HO2 := hide (show OwnB w2 (w.heap.size + 2) v from ⟨s, by simpa using ho⟩)
 have HL2 := hide (((below_alloc w _).alloc (by simp) _).trans (hb.mono (by simp; omega)))
 have HZ2 := hide (((Blk.new' (w := w.alloc (.cells (setA a b c d) 217)) (t := 217) (cs := setA 0 0 0 0) (g := w.heap.size + 1) (by simp)).below hb))
 obtain ⟨g, cc, rfl, hgb, hgl, _⟩ := ownB_form HO2.out
 have hne : ¬ g = w.heap.size + 1 := by omega
 have hne2 : ¬ w.heap.size + 1 = g := by omega
 clear ho hb hgl
 go_wp2_with fail
 go_loopw [4] (fun i wr => ∃ k : Nat, k ≤ 256 ∧ i = .int .i64 k ∧ Hid (OwnB wr (w.heap.size + 2) (.slice (some ⟨g, 0, none⟩) 256 cc)) ∧ Hid (Blk wr (w.heap.size + 1) 217 (setA 0 0 0 0)) ∧ Hid (Below w.heap.size w wr)) (fun i _ => 256 - (intOf i).toNat)
 case atStart => exact ⟨0, by omega, rfl, HO2, HZ2, HL2⟩
 case round =>
  obtain ⟨k, hk, rfl, ho, hz, hbel⟩ := hrel
  by_cases hle : k < 256
  ·have d1 : decide ((k : Int) < 256) = true := by simp; omega
   have d2 : decide (k < 256) = true := by simp; omega
   obtain ⟨g', c', e', _, hgl, hcell⟩ := ownB_form ho.out
   injection e' with e' _ _
   injection e' with e'
   injection e' with e'
   subst e'
   obtain ⟨⟨b0, g0⟩, f0⟩ := hcell k (by omega)
   have k1 : (0 : Int) ≤ (k : Int) := by omega
   have k2 : (k : Int) < 256 := by omega
   clear hcell
   go_wp2_with fail
   go_roundw
   case rel => exact ⟨k + 1, by omega, by go_num, hide (ownB_set ho.out k (by omega) _), hide (hz.out.far (by simp; omega) _), hide (hbel.out.setCell (by simp; omega) _)⟩
   case measure => simp [intOf]; omega
  ·obtain rfl : k = 256 := by omega
   have HM := hide (refMakeB_c _ g cc wr ho.out)
   go_wp2_with fail
   refine HM.out.mono ?_
   rintro e w4 ⟨a', b', c', d', rfl, hb4⟩
   unfold setA
   have HZ4 := hide (hz.out.below hb4)
   have HL4 := hide (hbel.out.trans (hb4.mono hbel.out.size))
   clear hb4
   obtain ⟨⟨z0, z1, z2, z3⟩, e0, e1, e2, e3⟩ := HZ4.out.four
   go_wp2_with fail
   rw [put4]
   have r2 := HZ4.out.put [.int .u64 a', .int .u64 b', .int .u64 c', .int .u64 d'] rfl
   have r3 := below_put [.int .u64 a', .int .u64 b', .int .u64 c', .int .u64 d'] 0 HL4.out (show w.heap.size ≤ w.heap.size + 1 by omega)
   obtain ⟨wz, hz⟩ : ∃ wz, wz = putFrom w4 (w.heap.size + 1) 0 [.int .u64 a', .int .u64 b', .int .u64 c', .int .u64 d'] := ⟨_, rfl⟩
   rw [← hz] at r2 r3 ⊢
   obtain ⟨⟨g0, g1, g2, g3⟩, _⟩ := r2.four
   refine bodyPost_ret (v := .agg #[.int .u64 a', .int .u64 b', .int .u64 c', .int .u64 d']) (by simp [results, Tryz.results173, go_sem, g0, g1, g2, g3]) rfl ?_
   exact ⟨a', b', c', d', rfl, r3⟩
end Go.Proofs.YtdmdohjdmnmabaaGreat
namespace Go.Proofs.YtdmdohjdmnmabaaGreat
open Go.RowKit
set_option linter.unusedVariables false
set_option linter.unusedSimpArgs false

theorem bl_nil {s : ByteArray} (h : s.size = 0) : s.data.toList = [] := List.eq_nil_of_length_eq_zero (by rw [ba_size]; exact h)
theorem bl_cons {s : ByteArray} (h : 0 < s.size) : s.data.toList = s[0] :: s.data.toList.drop 1 := by
 have := suf_cons h
 unfold suf at this
 simpa using this
theorem bl_cons2 {s : ByteArray} (h : 1 < s.size) : s.data.toList = s[0] :: s[1] :: s.data.toList.drop 2 := by
 have h1 := suf_cons (s := s) (a := 0) (by omega)
 have h2 := suf_cons (s := s) (a := 1) h
 unfold suf at h1 h2
 rw [List.drop_zero] at h1
 exact h1.trans (congrArg _ h2)
theorem u8x_ne {a : UInt8} {n : Nat} (h : ¬ a = UInt8.ofNat n) (hn : n < 256) : ((a.toNat : Int) == (n : Int)) = false := by
 have : ¬ a.toNat = n := fun e => h (by rw [← e]; simp)
 simp
 omega
theorem u8x_is {a : UInt8} {n : Nat} (h : a = UInt8.ofNat n) (hn : n < 256) : a.toNat = n := by
 subst h
 rw [UInt8.toNat_ofNat_of_lt' (show n < UInt8.size from hn)]
set_option maxRecDepth 100000 in
set_option maxHeartbeats 3200000 in
theorem refOne_c (s : ByteArray) (w : World) (hs : s.size ≤ 9223372036854775807) : Calls Tryz.prog 171 #[.string s] w fun e w' =>
 e = .returned (.tuple #[.int .i64 (signS s.data.toList).2.1.toNat, .int .i64 (signS s.data.toList).1, .bool (decide ((signS s.data.toList).2.2 = 0))]) ∧ w' = w := by
 by_cases h0 : s.size = 0
 ·have HR := hide (show signS s.data.toList = (0, 0, 3) by rw [bl_nil h0]; rfl)
  have e1 := ba_nil h0
  have e2 : s.toList.isEmpty = true := by rw [e1]; rfl
  clear h0
  go_enter Tryz.func171, Tryz.ntmps171
  go_wp2_with fail
  refine bodyPost_ret (v := .tuple #[.int .i64 0, .int .i64 0, .bool false]) (by simp [results, Tryz.results171, go_sem]) rfl ?_
  rw [HR.out]
  exact ⟨rfl, rfl⟩
 ·have e2 := ba_some h0
  have hp : 0 < s.size := by omega
  have hp2 : (0 : Int) < (s.size : Int) := by omega
  by_cases h93 : s[0] = 93
  ·have HR := hide (show signS s.data.toList = (0, 0, 2) by rw [bl_cons hp, h93]; rfl)
   have b1 : ((s[0].toNat : Int) == 93) = true := by rw [h93]; rfl
   clear h93
   go_enter Tryz.func171, Tryz.ntmps171
   go_wp2_with fail
   refine bodyPost_ret (v := .tuple #[.int .i64 0, .int .i64 0, .bool false]) (by simp [results, Tryz.results171, go_sem]) rfl ?_
   rw [HR.out]
   exact ⟨rfl, rfl⟩
  have b1 : ((s[0].toNat : Int) == 93) = false := u8x_ne (n := 93) h93 (by omega)
  by_cases h45 : s[0] = 45
  ·have HR := hide (show signS s.data.toList = (0, 0, 2) by rw [bl_cons hp, h45]; rfl)
   have b2 : ((s[0].toNat : Int) == 45) = true := by rw [h45]; rfl
   clear h45 h93
   go_enter Tryz.func171, Tryz.ntmps171
   go_wp2_with fail
   refine bodyPost_ret (v := .tuple #[.int .i64 0, .int .i64 0, .bool false]) (by simp [results, Tryz.results171, go_sem]) rfl ?_
   rw [HR.out]
   exact ⟨rfl, rfl⟩
  have b2 : ((s[0].toNat : Int) == 45) = false := u8x_ne (n := 45) h45 (by omega)
  have hb : s[0].toNat < 256 := UInt8.toNat_lt _
  by_cases h37 : s[0] = 37
  ·have b3 : ((s[0].toNat : Int) != 37) = false := by rw [h37]; rfl
   have b3' : ((s[0].toNat : Int) == 37) = true := by rw [h37]; rfl
   by_cases h1 : s.size = 1
   ·have HR := hide (show signS s.data.toList = (1, 0, 3) by rw [bl_cons hp, h37, List.drop_eq_nil_of_le (by rw [ba_size]; omega)]; rfl)
    have d1 : ((s.size : Int) == 1) = true := by rw [h1]; rfl
    clear h37 h93 h45
    go_enter Tryz.func171, Tryz.ntmps171
    go_wp2_with fail
    refine bodyPost_ret (v := .tuple #[.int .i64 0, .int .i64 1, .bool false]) (by simp [results, Tryz.results171, go_sem]) rfl ?_
    rw [HR.out]
    exact ⟨rfl, rfl⟩
   ·have hp3 : 1 < s.size := by omega
    have hp4 : (1 : Int) < (s.size : Int) := by omega
    have HR := hide (show signS s.data.toList = (2, s[1], 0) by rw [bl_cons2 hp3, h37]; rfl)
    have d1 : ((s.size : Int) == 1) = false := by simp; omega
    have hb2 : s[1].toNat < 256 := UInt8.toNat_lt _
    have w1 : IntKind.i64.wrap (s[1].toNat : Int) = (s[1].toNat : Int) := IntWalk.i64_in _ (by omega)
    clear h37 h93 h45
    go_enter Tryz.func171, Tryz.ntmps171
    go_wp2_with fail
    refine bodyPost_ret (v := .tuple #[.int .i64 s[1].toNat, .int .i64 2, .bool true]) (by simp [results, Tryz.results171, go_sem]) rfl ?_
    rw [HR.out]
    exact ⟨rfl, rfl⟩
  ·have b3' : ((s[0].toNat : Int) == 37) = false := u8x_ne (n := 37) h37 (by omega)
   have b3 : ((s[0].toNat : Int) != 37) = true := by simp [bne, b3']
   have HR := hide (show signS s.data.toList = (1, s[0], 0) by rw [bl_cons hp]; simp [signS, h37, h93, h45])
   have w1 : IntKind.i64.wrap (s[0].toNat : Int) = (s[0].toNat : Int) := IntWalk.i64_in _ (by omega)
   clear h37 h93 h45
   go_enter Tryz.func171, Tryz.ntmps171
   go_wp2_with fail
   refine bodyPost_ret (v := .tuple #[.int .i64 s[0].toNat, .int .i64 1, .bool true]) (by simp [results, Tryz.results171, go_sem]) rfl ?_
   rw [HR.out]
   exact ⟨rfl, rfl⟩
set_option maxRecDepth 100000 in
set_option maxHeartbeats 3200000 in
theorem refStop_c (s : ByteArray) (k : Nat) (w : World) (hs : s.size ≤ 9223372036854775807) : Calls Tryz.prog 170 #[.string s, .int .i64 k] w fun e w' =>
 e = .returned (.tuple #[.agg (setA 0 0 0 0), .int .i64 k, .int .i64 ((if k = s.size then 3 else 2 : Nat) : Int)]) ∧ Below w.heap.size w w' := by
 unfold setA
 by_cases h : k = s.size
 ·subst h
  have d1 : ((s.size : Int) == (s.size : Int)) = true := by simp
  rw [if_pos rfl]
  go_enter Tryz.func170, Tryz.ntmps170
  go_wp2_with fail
  refine bodyPost_ret (v := .tuple #[.agg #[.int .u64 0, .int .u64 0, .int .u64 0, .int .u64 0], .int .i64 s.size, .int .i64 3]) (by simp [results, Tryz.results170, go_sem]) rfl ?_
  exact ⟨rfl, below_alloc _ _⟩
 ·have d1 : ((k : Int) == (s.size : Int)) = false := by simp; omega
  rw [if_neg h]
  clear h
  go_enter Tryz.func170, Tryz.ntmps170
  go_wp2_with fail
  refine bodyPost_ret (v := .tuple #[.agg #[.int .u64 0, .int .u64 0, .int .u64 0, .int .u64 0], .int .i64 k, .int .i64 2]) (by simp [results, Tryz.results170, go_sem]) rfl ?_
  exact ⟨rfl, below_alloc _ _⟩
/-- where a sign is wrong, it is so for lack of bytes just at the end -/
theorem sign_end {s : ByteArray} {a : Nat} (ha : a ≤ s.size) (h : (signS (suf s a)).2.2 ≠ 0) : (signS (suf s a)).2.2 = if a + (signS (suf s a)).1 = s.size then 3 else 2 := by
 rcases Nat.lt_or_ge a s.size with hlt | hge
 ·rw [suf_cons hlt] at h ⊢
  by_cases h37 : s[a] = 37
  ·rcases Nat.lt_or_ge (a + 1) s.size with hl2 | hg2
   ·rw [suf_cons hl2, h37] at h
    simp [signS] at h
   ·rw [suf_nil hg2, h37]
    have : a + 1 = s.size := by omega
    simp [signS, this]
  ·by_cases h9 : s[a] = 93 ∨ s[a] = 45
   ·have : ¬ a = s.size := by omega
    simp [signS, h37, h9, this]
   ·simp [signS, h37, h9] at h
 ·rw [suf_nil hge]
  have : a = s.size := by omega
  simp [signS, this]
end Go.Proofs.YtdmdohjdmnmabaaGreat
