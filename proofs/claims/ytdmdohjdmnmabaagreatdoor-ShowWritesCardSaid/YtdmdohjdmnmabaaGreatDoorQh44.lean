/- Parts of a chain of lemmas: Live15, RefCls1. Conditions: those of each theorem. -/
import Derived.Test.YtdmdohjdmnmabaaGreatDoorQh43
import Derived.Test.YtdmdohjdmnmabaaGreatDoorQh38
import Derived.Test.YtdmdohjdmnmabaaGreatDoorQh15
import Derived.Test.YtdmdohjdmnmabaaGreatDoorQh05
namespace Go.Proofs.YtdmdohjdmnmabaaGreatDoor
open Go.RowKit Go.Sort
set_option linter.unusedVariables false
set_option linter.unusedSimpArgs false

def op15 : OpM := ⟨2, ⟨#[]⟩, 5, 0, [⟨⟨#[97]⟩, 1⟩], -1, -1⟩
def text15 : List UInt8 := [115, 99, 114, 105, 112, 116, 32, 120, 32, 110, 101, 118, 101, 114, 32, 48, 10, 101, 120, 112, 101, 99, 116, 32, 53, 10, 111, 110, 32, 34, 97, 34, 32, 108, 49, 10, 108, 97, 98, 101, 108, 32, 108, 49, 10]
theorem itoa_one {u : Nat} (h : u < 10) : Lib.itoa (u : Int) = [digB u] := by
 rw [itoa_nn (by omega), Int.toNat_natCast, dec_one h]
theorem good15 (A B : Option Addr) (c : Nat) : goodM (progM ⟨#[120]⟩ 9223372036854775807 0 [⟨op15, A, c⟩]) = true := by
 show goodM ⟨⟨#[120]⟩, 9223372036854775807, 0, [op15]⟩ = true
 rfl
theorem text15_eq (A : Option Addr) (c : Nat) : progT (progM ⟨#[120]⟩ 9223372036854775807 0 [⟨op15, A, c⟩]) = text15 := by
 show progT ⟨⟨#[120]⟩, 9223372036854775807, 0, [op15]⟩ = text15
 have t5 : tkT 5 = [53] := by
  show Lib.itoa ((5 : Nat) : Int) = _
  rw [itoa_one (by omega)]; rfl
 have l1 : labelT 1 = [108, 49] := by
  show 108 :: Lib.itoa ((1 : Nat) : Int) = _
  rw [itoa_one (by omega)]; rfl
 have i0 : Lib.itoa 0 = [48] := by
  show Lib.itoa ((0 : Nat) : Int) = _
  rw [itoa_one (by omega)]; rfl
 have tg : tgts [op15] = [1] := by rw [← tgts_ins]; rfl
 have ho : opT op15 = lineT [wordT 2, tkT 5] ++ lineT [[111, 110], quoteT [97], labelT 1] ++ [] ++ [] := by
  unfold opT
  rw [if_neg (by decide), if_pos (by decide)]
  unfold expectT
  rw [if_neg (by decide), if_neg (by decide)]
  have ha : op15.arms.flatMap armT = lineT [[111, 110], quoteT [97], labelT 1] := by
   simp only [op15, List.flatMap_cons, List.flatMap_nil, List.append_nil]
   rfl
  rw [ha]
  rfl
 have hb : progT ⟨⟨#[120]⟩, 9223372036854775807, 0, [op15]⟩ = lineT [[115, 99, 114, 105, 112, 116], [120], tkT 9223372036854775807, Lib.itoa 0] ++ bodyT opT (tgts [op15]) [op15] 2 := rfl
 rw [hb, tg, i0]
 have hs : bodyT opT [1] [op15] 2 = ([] ++ ([] ++ opT op15)) ++ (lineT [[108, 97, 98, 101, 108], labelT 1] ++ []) := rfl
 rw [hs, ho, t5, l1]
 rfl
set_option maxRecDepth 100000 in
set_option maxHeartbeats 6400000 in
theorem lives15_c (w : World) (ht : Tab w) : Calls Tryz.prog 13 #[] w fun e w' => e = .returned (.bool true) ∧ Only NoBlk w w' := by
 obtain ⟨W1, hW1⟩ : ∃ W1, W1 = w.alloc (.cells #[.string ⟨#[97]⟩, .int .i64 1] 65) := ⟨_, rfl⟩
 obtain ⟨g1, hg1⟩ : ∃ g1, g1 = w.heap.size := ⟨_, rfl⟩
 obtain ⟨W2, hW2⟩ : ∃ W2, W2 = W1.alloc (.cells #[.int .i64 2, .string ⟨#[]⟩, .int .i64 5, .int .i64 0, .slice (some ⟨g1, 0, none⟩) 1 1, .int .i64 (-1), .int .i64 (-1)] 37) := ⟨_, rfl⟩
 obtain ⟨g2, hg2⟩ : ∃ g2, g2 = W1.heap.size := ⟨_, rfl⟩
 have HA1 : Blk W1 g1 65 #[.string ⟨#[97]⟩, .int .i64 1] := by rw [hW1, hg1]; exact Blk.new _ _ _
 have HA2 : Blk W2 g1 65 #[.string ⟨#[97]⟩, .int .i64 1] := by rw [hW2]; exact HA1.alloc _
 have HO2 : Blk W2 g2 37 #[.int .i64 2, .string ⟨#[]⟩, .int .i64 5, .int .i64 0, .slice (some ⟨g1, 0, none⟩) 1 1, .int .i64 (-1), .int .i64 (-1)] := by rw [hW2, hg2]; exact Blk.new _ _ _
 have HN := hide (show Only NoBlk w W2 by rw [hW2, hW1]; exact ((Only.refl _ w).alloc _).alloc _)
 have HP := sProg_c ⟨#[120]⟩ 9223372036854775807 0 (some ⟨g2, 0, none⟩) 1 [⟨op15, some ⟨g1, 0, none⟩, 1⟩] W2 ⟨rd_blkN HO2 (fun h => h), fun v hv => by
  rw [List.mem_singleton.1 hv]
  exact rd_blkN HA2 (fun h => h)⟩ (by simp [maxLen]) (by decide) (fun v hv => by
  rw [List.mem_singleton.1 hv]
  exact ⟨show op15.text.size ≤ 9223372036854775807 by decide, by simp [op15, maxLen], show ∀ a ∈ op15.arms, a.pat.size ≤ 9223372036854775807 by decide⟩) (ht.only HN.out)
 rw [good15 _ none, text15_eq, if_pos rfl, if_pos rfl] at HP
 have HPr := hide HP
 have HW1 := hide hW1
 have Hg1 := hide hg1
 have HW2 := hide hW2
 have Hg2 := hide (show g2 = g1 + 1 by rw [hg2, hW1, hg1]; simp)
 clear HP HA1 HA2 HO2 hW1 hg1 hW2 hg2 ht
 go_enter Tryz.func13, Tryz.ntmps13
 go_wp2_with fail
 rw [← HW1.out, ← Hg1.out, ← HW2.out, ← Hg2.out]
 refine HPr.out.mono ?_
 rintro e w3 ⟨rfl, ho3⟩
 have HO3 := hide (HN.out.trans ho3)
 clear ho3
 go_wp2_with fail
 go_ret
 exact ⟨rfl, HO3.out⟩
end Go.Proofs.YtdmdohjdmnmabaaGreatDoor
namespace Go.Proofs.YtdmdohjdmnmabaaGreatDoor
open Go.RowKit
set_option linter.unusedVariables false
set_option linter.unusedSimpArgs false

theorem Tryz.infoBool : (Tryz.prog.info? 4).map (fun i => (i.zero, i.size, i.bytes)) = some (some (.bool false), 1, 1) := by kernel_rfl
def encB (b : Bool) : List Value := [.bool b]
theorem encB_len (b : Bool) : (encB b).length = 1 := rfl
theorem encB_one (b : Bool) : ∀ u ∈ encB b, u.oneCell' = true := by intro u hu; simp [encB] at hu; subst hu; rfl
def bAt (l : List Bool) (k : Nat) : Bool := l.getD k false
theorem flat_b (l : List Bool) : flat encB l = l.map Value.bool := by
 induction l with
 | nil => rfl
 | cons a r ih => rw [flat_cons, ih]; rfl
theorem own_b {w : World} {base n : Nat} {A : Option Addr} {c : Nat} {s : List Bool} (h : w.ownsRow base 4 1 (.slice A n c) n (flat encB s)) (j : Nat) (hj : j < n) : ∃ g, A = some ⟨g, 0, none⟩ ∧ base ≤ g ∧ g < w.heap.size ∧ w.cell? ⟨g, j, none⟩ = some (.bool (bAt s j)) ∧ w.frozen? ⟨g, j, none⟩ = false := by
 obtain ⟨hl, h2⟩ := h
 rcases h2 with ⟨hv, hn⟩ | ⟨g, cap, cur, hv, hb, hh, hnc, hcm, hsz, htk⟩
 ·omega
 ·injection hv with hv _ _
  have hB : Blk w g 4 cur := hh
  refine ⟨g, hv, hb, hB.lt, ?_, hB.frozen j⟩
  rw [hB.cell j]
  have e : cur[j]? = (cur.toList.take (n * 1))[j]? := by rw [List.getElem?_take, if_pos (by omega)]; simp
  rw [e, htk, flat_b]
  rw [flat_b] at hl
  have hjl : j < s.length := by simp at hl; omega
  simp [bAt, List.getD, hjl]
set_option maxRecDepth 100000 in
set_option maxHeartbeats 1600000 in
theorem refHas_c (a b c d : Int) (x : Nat) (w : World) (hx : x < 256) : Calls Tryz.prog 205 #[.agg (setA a b c d), .int .i64 x] w fun e w' => ∃ v, e = .returned (.bool v) ∧ Below w.heap.size w w' := by
 unfold setA
 have hr1 : Int.tmod (x : Int) 64 = ((x % 64 : Nat) : Int) := by rw [Int.tmod_eq_emod_of_nonneg (by omega)]; omega
 have hr2 : (x : Int) % 64 = ((x % 64 : Nat) : Int) := by omega
 have hr3 : x % 64 < 64 := Nat.mod_lt _ (by omega)
 have h4 : x / 64 = 0 ∨ x / 64 = 1 ∨ x / 64 = 2 ∨ x / 64 = 3 := by omega
 rcases h4 with h4 | h4 | h4 | h4
 all_goals
  have hq1 : Int.tdiv (x : Int) 64 = ((x / 64 : Nat) : Int) := by rw [Int.tdiv_eq_ediv_of_nonneg (by omega)]; omega
  have hq2 : (x : Int) / 64 = ((x / 64 : Nat) : Int) := by omega
  have hw1 : IntKind.i64.wrap ((x / 64 : Nat) : Int) = ((x / 64 : Nat) : Int) := IntWalk.i64_in _ (by omega)
  have hw2 : IntKind.i64.wrap ((x % 64 : Nat) : Int) = ((x % 64 : Nat) : Int) := IntWalk.i64_in _ (by omega)
  rw [h4] at hq1 hq2 hw1
  clear h4
  obtain ⟨r, hr⟩ : ∃ r, r = x % 64 := ⟨_, rfl⟩
  rw [← hr] at hr1 hr2 hr3 hw2
  clear hr
  go_enter Tryz.func205, Tryz.ntmps205
  go_wp2_with fail
  go_loopw [5, 6] (fun n i wr => ∃ (k : Nat) (v : Int), k < 64 ∧ i = .int .i64 k ∧ n = .int .u64 v ∧ Hid (Below w.heap.size w wr)) (fun _ i _ => (intOf i).toNat)
  case atStart => exact ⟨r, _, by omega, by go_num, rfl, hide (below_alloc _ _)⟩
  case round =>
   obtain ⟨k, v, hk, rfl, rfl, hbel⟩ := hrel
   by_cases h0 : 0 < k
   ·have d1 : decide ((0 : Int) < (k : Int)) = true := by simp; omega
    have d2 : decide (0 < k) = true := by simp; omega
    go_wp2_with fail
    go_roundw
    case rel => exact ⟨k - 1, _, by omega, by go_num, rfl, hbel⟩
    case measure => simp [intOf]; omega
   ·have d1 : decide ((0 : Int) < (k : Int)) = false := by simp; omega
    have d2 : decide (0 < k) = false := by simp; omega
    go_wp2_with fail
    go_ret
    exact ⟨_, rfl, hbel.out⟩
set_option maxRecDepth 100000 in
set_option maxHeartbeats 1600000 in
theorem refFlags_c (a b c d : Int) (w : World) : Calls Tryz.prog 192 #[.agg (setA a b c d)] w fun e w' => ∃ v s, e = .returned v ∧ w'.ownsRow w.heap.size 4 1 v 256 (flat encB s) ∧ Below w.heap.size w w' := by
 obtain ⟨i0, hi, hz0, hz1, hz2⟩ := info_parts Tryz.infoBool
 go_enter Tryz.func192, Tryz.ntmps192
 go_wp2_with fail
 unfold setA
 go_loopw [3, 4] (fun v i wr => ∃ (k : Nat) (s : List Bool), k ≤ 256 ∧ i = .int .i64 k ∧ Hid (wr.ownsRow w.heap.size 4 1 v k (flat encB s)) ∧ Hid (Below w.heap.size w wr) ∧ Hid (Blk wr w.heap.size 197 (setA a b c d))) (fun _ i _ => 256 - (intOf i).toNat)
 case atStart => exact ⟨0, [], by omega, rfl, hide (own_empty' (by simp) (by simp)), hide ((below_alloc _ _).alloc (by simp) _), hide ((Blk.new _ _ _).alloc _)⟩
 case round =>
  obtain ⟨k, s, hk, rfl, hown, hbel, hB⟩ := hrel
  obtain ⟨A1, c1, rfl, hcap⟩ := own_cap hown.out
  obtain ⟨⟨g0, g1, g2, g3⟩, _⟩ := hB.out.four
  by_cases hlt : k < 256
  ·have HH := hide (show Calls Tryz.prog 205 #[.agg #[.int .u64 a, .int .u64 b, .int .u64 c, .int .u64 d], .int .i64 k] wr _ from refHas_c a b c d k wr hlt)
   go_wp2_with (first
    | (go_at_call 205
       refine HH.out.mono ?_
       rintro e w2 ⟨v, rfl, hb2⟩
       have HO2 := hide (own_only hown.out (Only.of_below hb2 NoBlk) (fun _ _ h => h.elim))
       have HL2 := hide (hbel.out.trans (hb2.mono hbel.out.size))
       have HB2 := hide (hB.out.below hb2)
       have Hrd := hide (show Rd (w2.alloc (.cells (encB v).toArray 4)) NoBlk (some ⟨w2.heap.size, 0, none⟩) (encB v) from rd_blkN (Blk.new _ _ _) (fun h => h))
       have Hone := hide (encB_one v)
       clear hb2 g0 g1 g2 g3)
    | (at_builtin; refine wpList_append_rd _ rfl (.tmp 10) (.tmp 14) _ rfl w.heap.size 4 i0 _ 1 1 Tryz.underlying213 hi hz0 hz1 hz2 rfl (by omega) _ k _ rfl (HO2.out.alloc _) NoBlk (some ⟨w2.heap.size, 0, none⟩) 1 1 (encB v) rfl Hrd.out rfl Hone.out (by simp only [maxLen]; omega) (by omega) (by have := HL2.out.size; simp; omega) ?_; intro v2 w3 hown2 hgr _; have Own2 := hide hown2; have Gr := hide hgr; clear hown2 hgr))
   have HL3 := hide ((HL2.out.alloc HL2.out.size _).grown Gr.out (by have := HL2.out.size; simp; omega) (fun j hj => by have := own_ge HO2.out j hj; omega))
   go_roundw
   case rel =>
    refine ⟨k + 1, s ++ [v], by omega, by go_num, ?_, HL3, hide (Blk.grown (HB2.out.alloc _) (HO2.out.alloc _) (by decide) Gr.out)⟩
    rw [flat_append]
    exact hide (by simpa [flat] using Own2.out)
   case measure => simp [intOf]; omega
  ·obtain rfl : k = 256 := by omega
   go_wp2_with fail
   go_ret
   exact ⟨_, s, rfl, hown.out, hbel.out⟩
set_option maxRecDepth 100000 in
set_option maxHeartbeats 1600000 in
theorem refNone_c (w : World) : Calls Tryz.prog 179 #[] w fun e w' => ∃ v s, e = .returned v ∧ w'.ownsRow w.heap.size 4 1 v 256 (flat encB s) ∧ Below w.heap.size w w' := by
 have HF := hide (show Calls Tryz.prog 192 #[.agg #[.int .u64 0, .int .u64 0, .int .u64 0, .int .u64 0]] w _ from refFlags_c 0 0 0 0 w)
 go_enter Tryz.func179, Tryz.ntmps179
 go_wp2_with fail
 refine HF.out.mono ?_
 rintro e w2 ⟨v, s, rfl, ho, hb⟩
 go_wp2_with fail
 go_ret
 exact ⟨v, s, rfl, ho, hb⟩
def SetB (w : World) (g : Nat) : Prop := ∃ a b c d : Int, Blk w g 197 (setA a b c d)
theorem setB_at {w : World} {g k : Nat} (h : SetB w g) (hk : k < 4) : ∃ v : Int, w.cell? ⟨g, k, none⟩ = some (.int .u64 v) ∧ w.frozen? ⟨g, k, none⟩ = false ∧ ∀ u : Int, SetB (w.setCell ⟨g, k, none⟩ (.int .u64 u)) g := by
 obtain ⟨a, b, c, d, h⟩ := h
 have h4 : k = 0 ∨ k = 1 ∨ k = 2 ∨ k = 3 := by omega
 rcases h4 with rfl | rfl | rfl | rfl
 ·exact ⟨a, by rw [h.cell]; rfl, h.frozen _, fun u => ⟨u, b, c, d, h.set_ 0 _⟩⟩
 ·exact ⟨b, by rw [h.cell]; rfl, h.frozen _, fun u => ⟨a, u, c, d, h.set_ 1 _⟩⟩
 ·exact ⟨c, by rw [h.cell]; rfl, h.frozen _, fun u => ⟨a, b, u, d, h.set_ 2 _⟩⟩
 ·exact ⟨d, by rw [h.cell]; rfl, h.frozen _, fun u => ⟨a, b, c, u, h.set_ 3 _⟩⟩
set_option maxRecDepth 100000 in
set_option maxHeartbeats 3200000 in
theorem refMake_c (base : Nat) (A : Option Addr) (c : Nat) (s : List Bool) (w : World) (h : w.ownsRow base 4 1 (.slice A 256 c) 256 (flat encB s)) : Calls Tryz.prog 182 #[.slice A 256 c] w (RetSet w) := by
 have H := hide h
 go_enter Tryz.func182, Tryz.ntmps182
 go_wp2_with fail
 go_loopw [4] (fun i wr => ∃ k : Nat, k ≤ 4 ∧ i = .int .i64 k ∧ Hid (∃ a b c d, Blk wr (w.heap.size + 1) 197 (setA a b c d)) ∧ Hid (Blk wr w.heap.size 197 (setA 0 0 0 0)) ∧ Hid (Below w.heap.size w wr)) (fun i _ => 4 - (intOf i).toNat)
 case atStart => exact ⟨0, by omega, rfl, hide ⟨0, 0, 0, 0, Blk.new' (by simp)⟩, hide ((Blk.new _ _ _).alloc _), hide ((below_alloc _ _).alloc (by simp) _)⟩
 case round =>
  obtain ⟨k, hk, rfl, hb, hz, hbel⟩ := hrel
  by_cases hle : k < 4
  ·have d1 : decide ((k : Int) < 4) = true := by simp; omega
   have d2 : decide (k < 4) = true := by simp; omega
   go_wp2_with fail
   go_loopw [5] (fun i w2 => ∃ j : Nat, j ≤ 64 ∧ i = .int .i64 ((j : Int) - 1) ∧ Hid (∃ a b c d, Blk w2 (w.heap.size + 1) 197 (setA a b c d)) ∧ Hid (Blk w2 w.heap.size 197 (setA 0 0 0 0)) ∧ Hid (Below w.heap.size w w2)) (fun i _ => (intOf i + 1).toNat)
   case atStart => exact ⟨64, by omega, by simp, hb, hz, hbel⟩
   case round =>
    obtain ⟨j, hj, rfl, hb2, hz2, hbel2⟩ := hrel
    obtain ⟨a, b, c', d, hb2⟩ := hb2.out
    have HB := hide hb2
    by_cases hj0 : 0 < j
    ·obtain ⟨q, rfl⟩ : ∃ q, j = q + 1 := ⟨j - 1, by omega⟩
     rw [show (((q + 1 : Nat) : Int) - 1) = (q : Int) by omega]
     have e1 : decide ((0 : Int) ≤ (q : Int)) = true := by simp
     have w1 : IntKind.i64.wrap (64 * (k : Int)) = 64 * (k : Int) := IntWalk.i64_in _ (by omega)
     have w2' : IntKind.i64.wrap (64 * (k : Int) + (q : Int)) = 64 * (k : Int) + (q : Int) := IntWalk.i64_in _ (by omega)
     have hA : ∃ g, A = some ⟨g, 0, none⟩ ∧ g < w.heap.size ∧ ∀ i, i < 256 → w.cell? ⟨g, i, none⟩ = some (.bool (bAt s i)) := by
      obtain ⟨g, hg, _, hgl, _⟩ := own_b H.out 0 (by omega)
      refine ⟨g, hg, hgl, fun i hi => ?_⟩
      obtain ⟨g', hg', _, _, hc, _⟩ := own_b H.out i hi
      rw [hg] at hg'
      injection hg' with hg'
      injection hg' with hg'
      subst hg'
      exact hc
     obtain ⟨g, rfl, hgl, hcell⟩ := hA
     have hgi : wr.cell? ⟨g, 64 * k + q, none⟩ = some (.bool (bAt s (64 * k + q))) := bkeepL hbel2.out hgl (hcell _ (by omega))
     have j1 : (0 : Int) ≤ 64 * (k : Int) + (q : Int) := by omega
     have j2 : 64 * (k : Int) + (q : Int) < 256 := by omega
     have j3 : (64 * (k : Int) + (q : Int)).toNat = 64 * k + q := by omega
     have hne : ¬ g = w.heap.size + 1 := by omega
     have hne2 : ¬ w.heap.size + 1 = g := by omega
     obtain ⟨bv, hbv⟩ : ∃ bv, bv = bAt s (64 * k + q) := ⟨_, rfl⟩
     rw [← hbv] at hgi
     obtain ⟨v0, g0, f0, hset⟩ := setB_at ⟨a, b, c', d, hb2⟩ hle
     have HS := hide hset
     have k1 : (0 : Int) ≤ (k : Int) := by omega
     have k2 : (k : Int) < 4 := by omega
     clear hb hb2 hcell hbv hset
     cases bv
     ·go_wp2_with fail
      go_roundw
      case rel => exact ⟨q, by omega, rfl, hide (HS.out _), hide (hz2.out.far (by simp) _), hide (hbel2.out.setCell (by simp) _)⟩
      case measure => simp [intOf]
     ·go_wp2_with fail
      go_roundw
      case rel =>
       refine ⟨q, by omega, rfl, hide ?_, hide ((hz2.out.far (by simp) _).far (by simp) _), hide ((hbel2.out.setCell (by simp) _).setCell (by simp) _)⟩
       obtain ⟨v1, _, _, hs2⟩ := setB_at (HS.out _) hle
       exact hs2 _
      case measure => simp [intOf]
    ·obtain rfl : j = 0 := by omega
     have e1 : decide ((0 : Int) ≤ (((0 : Nat) : Int) - 1)) = false := by decide
     go_wp2_with fail
     go_roundw
     case rel => exact ⟨k + 1, by omega, by go_num, hide ⟨a, b, c', d, HB.out⟩, hz2, hbel2⟩
     case measure => simp [intOf]; omega
  ·obtain rfl : k = 4 := by omega
   obtain ⟨a, b, c', d, hb⟩ := hb.out
   obtain ⟨⟨g0, g1, g2, g3⟩, _⟩ := hb.four
   obtain ⟨⟨z0, z1, z2, z3⟩, e0, e1, e2, e3⟩ := hz.out.four
   clear hb
   go_wp2_with fail
   rw [put4]
   have r2 := hz.out.put [.int .u64 a, .int .u64 b, .int .u64 c', .int .u64 d] rfl
   have r3 := below_put [.int .u64 a, .int .u64 b, .int .u64 c', .int .u64 d] 0 hbel.out (Nat.le_refl _)
   obtain ⟨wz, hz⟩ : ∃ wz, wz = putFrom wr w.heap.size 0 [.int .u64 a, .int .u64 b, .int .u64 c', .int .u64 d] := ⟨_, rfl⟩
   rw [← hz] at r2 r3 ⊢
   obtain ⟨⟨g0, g1, g2, g3⟩, _⟩ := r2.four
   refine bodyPost_ret (v := .agg #[.int .u64 a, .int .u64 b, .int .u64 c', .int .u64 d]) (by simp [results, Tryz.results182, go_sem, g0, g1, g2, g3]) rfl ?_
   exact ⟨a, b, c', d, rfl, r3⟩
end Go.Proofs.YtdmdohjdmnmabaaGreatDoor
