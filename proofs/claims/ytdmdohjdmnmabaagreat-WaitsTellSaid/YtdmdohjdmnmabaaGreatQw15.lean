/- To which op a step leads, by the program. Conditions: those of each theorem. -/
import Derived.Test.YtdmdohjdmnmabaaGreatQw14
import Derived.Deep.RegionHeld3
namespace Go.Proofs.YtdmdohjdmnmabaaGreat
open Go.RowKit
set_option linter.unusedVariables false
set_option linter.unusedSimpArgs false

/-- where an op leads by what was done -/
def leadsM (o : OpM) (x : Stp) : Int :=
 if (o.kind = 1 ∧ x.what = 6) ∨ (o.kind = 4 ∧ x.what = 8) then x.at_ + 1 else if o.kind = 3 ∧ x.what = 7 then o.to else if o.kind ≠ 2 then -1
 else if x.what = 2 then (if 0 ≤ x.arm ∧ x.arm < o.arms.length then (armAt o.arms x.arm.toNat).to else -1) else if x.what = 3 then o.onT else if x.what = 4 then o.onE else -1
def opM0 : OpM := ⟨0, ⟨#[]⟩, 0, 0, [], 0, 0⟩
def nextM (p : ProgM) (x : Stp) : Int := if x.status ≠ 0 ∨ x.at_ < 0 ∨ (p.ops.length : Int) ≤ x.at_ then -1 else leadsM (p.ops.getD x.at_.toNat opM0) x
def NextM (p : ProgM) (x : Stp) : Int := if goodM p = true then nextM p x else -1
theorem Blk.six {w : World} {g : Nat} {t : TypeId} {a b c d e f : Value} (hb : Blk w g t #[a, b, c, d, e, f]) :
 w.cell? ⟨g, 0, none⟩ = some a ∧ w.cell? ⟨g, 1, none⟩ = some b ∧ w.cell? ⟨g, 2, none⟩ = some c ∧ w.cell? ⟨g, 3, none⟩ = some d ∧ w.cell? ⟨g, 4, none⟩ = some e ∧ w.cell? ⟨g, 5, none⟩ = some f := by
 refine ⟨?_, ?_, ?_, ?_, ?_, ?_⟩ <;> (rw [hb.cell]; rfl)
set_option maxRecDepth 100000 in
set_option maxHeartbeats 6400000 in
theorem leads_c (k : Int) (t : ByteArray) (n gt : Int) (A : Option Addr) (l : List ArmM) (c : Nat) (x y : Int) (st sa sw sr sn ss : Int) (w : World) (hr : Rd w NoBlk A (flat encArm l)) (hn : l.length ≤ maxLen) (ha : -9223372036854775808 ≤ sa ∧ sa < 9223372036854775807) :
 Calls Tryz.prog 78 #[.agg #[.int .i64 k, .string t, .int .i64 n, .int .i64 gt, .slice A l.length c, .int .i64 x, .int .i64 y], .agg #[.int .i64 st, .int .i64 sa, .int .i64 sw, .int .i64 sr, .int .i64 sn, .int .i64 ss]] w fun e w' => e = .returned (.int .i64 (leadsM ⟨k, t, n, gt, l, x, y⟩ ⟨st, sa, sw, sr, sn, ss⟩)) ∧ Below w.heap.size w w' := by
 have hn' : l.length ≤ 9223372036854775807 := hn
 have w1 : IntKind.i64.wrap (sa + 1) = sa + 1 := IntWalk.i64_in _ (by omega)
 have HL := hide (show leadsM ⟨k, t, n, gt, l, x, y⟩ ⟨st, sa, sw, sr, sn, ss⟩ = if (k = 1 ∧ sw = 6) ∨ (k = 4 ∧ sw = 8) then sa + 1 else if k = 3 ∧ sw = 7 then gt else if k ≠ 2 then -1
  else if sw = 2 then (if 0 ≤ sr ∧ sr < l.length then (armAt l sr.toNat).to else -1) else if sw = 3 then x else if sw = 4 then y else -1 from rfl)
 have HB := hide (show Below w.heap.size w ((w.alloc (.cells #[.int .i64 k, .string t, .int .i64 n, .int .i64 gt, .slice A l.length c, .int .i64 x, .int .i64 y] 75)).alloc (.cells #[.int .i64 st, .int .i64 sa, .int .i64 sw, .int .i64 sr, .int .i64 sn, .int .i64 ss] 26)) from (below_alloc _ _).alloc (by simp) _)
 have HR := hide (fun (i : Nat) (hi : i < l.length) => arm_cells (hr.below HB.out) i hi)
 obtain ⟨m, hm⟩ : ∃ m, m = l.length := ⟨_, rfl⟩
 rw [← hm] at hn' HL HB HR ⊢
 clear hr hn ha hm
 by_cases hk1 : k = 1
 ·have b : (k == 1) = true := by simp [hk1]
  have b2 : (k == 2) = false := by simp [hk1]
  have b3 : (k == 3) = false := by simp [hk1]
  have b4 : (k == 4) = false := by simp [hk1]
  have bn : (k != 2) = true := by simp [bne, b2]
  by_cases hw : sw = 6
  ·have c1 : (sw == 6) = true := by simp [hw]
   have HQ := hide (show leadsM ⟨k, t, n, gt, l, x, y⟩ ⟨st, sa, sw, sr, sn, ss⟩ = sa + 1 from by rw [HL.out]; simp [hk1, hw])
   clear hw hk1
   go_enter Tryz.func78, Tryz.ntmps78
   go_wp2_with fail
   go_ret
   exact ⟨by rw [HQ.out]; rfl, HB.out⟩
  ·have c1 : (sw == 6) = false := by simp [hw]
   have HQ := hide (show leadsM ⟨k, t, n, gt, l, x, y⟩ ⟨st, sa, sw, sr, sn, ss⟩ = -1 from by rw [HL.out]; simp [hk1, hw])
   clear hw hk1
   go_enter Tryz.func78, Tryz.ntmps78
   go_wp2_with fail
   go_ret
   exact ⟨by rw [HQ.out]; rfl, HB.out⟩
 by_cases hk4 : k = 4
 ·have b : (k == 4) = true := by simp [hk4]
  have b1 : (k == 1) = false := by simp [hk4]
  have b2 : (k == 2) = false := by simp [hk4]
  have b3 : (k == 3) = false := by simp [hk4]
  have bn : (k != 2) = true := by simp [bne, b2]
  by_cases hw : sw = 8
  ·have c1 : (sw == 8) = true := by simp [hw]
   have HQ := hide (show leadsM ⟨k, t, n, gt, l, x, y⟩ ⟨st, sa, sw, sr, sn, ss⟩ = sa + 1 from by rw [HL.out]; simp [hk4, hw])
   clear hw hk4
   go_enter Tryz.func78, Tryz.ntmps78
   go_wp2_with fail
   go_ret
   exact ⟨by rw [HQ.out]; rfl, HB.out⟩
  ·have c1 : (sw == 8) = false := by simp [hw]
   have HQ := hide (show leadsM ⟨k, t, n, gt, l, x, y⟩ ⟨st, sa, sw, sr, sn, ss⟩ = -1 from by rw [HL.out]; simp [hk4, hw])
   clear hw hk4
   go_enter Tryz.func78, Tryz.ntmps78
   go_wp2_with fail
   go_ret
   exact ⟨by rw [HQ.out]; rfl, HB.out⟩
 by_cases hk3 : k = 3
 ·have b : (k == 3) = true := by simp [hk3]
  have b1 : (k == 1) = false := by simp [hk3]
  have b2 : (k == 2) = false := by simp [hk3]
  have b4 : (k == 4) = false := by simp [hk3]
  have bn : (k != 2) = true := by simp [bne, b2]
  by_cases hw : sw = 7
  ·have c1 : (sw == 7) = true := by simp [hw]
   have HQ := hide (show leadsM ⟨k, t, n, gt, l, x, y⟩ ⟨st, sa, sw, sr, sn, ss⟩ = gt from by rw [HL.out]; simp [hk3, hw])
   clear hw hk3
   go_enter Tryz.func78, Tryz.ntmps78
   go_wp2_with fail
   go_ret
   exact ⟨by rw [HQ.out]; rfl, HB.out⟩
  ·have c1 : (sw == 7) = false := by simp [hw]
   have HQ := hide (show leadsM ⟨k, t, n, gt, l, x, y⟩ ⟨st, sa, sw, sr, sn, ss⟩ = -1 from by rw [HL.out]; simp [hk3, hw])
   clear hw hk3
   go_enter Tryz.func78, Tryz.ntmps78
   go_wp2_with fail
   go_ret
   exact ⟨by rw [HQ.out]; rfl, HB.out⟩
 have b1 : (k == 1) = false := by simp [hk1]
 have b4 : (k == 4) = false := by simp [hk4]
 have b3 : (k == 3) = false := by simp [hk3]
 by_cases hk2 : k = 2
 ·have bn : (k != 2) = false := by simp [hk2]
  by_cases hw2 : sw = 2
  ·have c2 : (sw == 2) = true := by simp [hw2]
   by_cases hr0 : 0 ≤ sr
   ·have r0 : decide (0 ≤ sr) = true := by simp [hr0]
    by_cases hr1 : sr < (m : Int)
    ·have r1 : decide (sr < (m : Int)) = true := by simp [hr1]
     obtain ⟨q, hq⟩ : ∃ q : Nat, sr = q := ⟨sr.toNat, by omega⟩
     subst hq
     obtain ⟨b, o, rfl, hb, g0, g1⟩ := HR.out q (by omega)
     have HQ := hide (show leadsM ⟨k, t, n, gt, l, x, y⟩ ⟨st, sa, sw, q, sn, ss⟩ = (armAt l q).to from by rw [HL.out]; simp [hk2, hw2]; omega)
     have j2 : (q : Int) < (m : Int) := by omega
     clear HR HL hk1 hk4 hk3 hk2 hw2
     go_enter Tryz.func78, Tryz.ntmps78
     go_wp2_with fail
     go_ret
     exact ⟨by rw [HQ.out]; rfl, HB.out⟩
    ·have r1 : decide (sr < (m : Int)) = false := by simp; omega
     have HQ := hide (show leadsM ⟨k, t, n, gt, l, x, y⟩ ⟨st, sa, sw, sr, sn, ss⟩ = -1 from by rw [HL.out]; simp [hk2, hw2]; omega)
     clear hk1 hk4 hk3 hk2 hw2
     go_enter Tryz.func78, Tryz.ntmps78
     go_wp2_with fail
     go_ret
     exact ⟨by rw [HQ.out]; rfl, HB.out⟩
   ·have r0 : decide (0 ≤ sr) = false := by simp; omega
    have HQ := hide (show leadsM ⟨k, t, n, gt, l, x, y⟩ ⟨st, sa, sw, sr, sn, ss⟩ = -1 from by rw [HL.out]; simp [hk2, hw2]; omega)
    clear hk1 hk4 hk3 hk2 hw2
    go_enter Tryz.func78, Tryz.ntmps78
    go_wp2_with fail
    go_ret
    exact ⟨by rw [HQ.out]; rfl, HB.out⟩
  ·have c2 : (sw == 2) = false := by simp [hw2]
   by_cases hw3 : sw = 3
   ·have c3 : (sw == 3) = true := by simp [hw3]
    have HQ := hide (show leadsM ⟨k, t, n, gt, l, x, y⟩ ⟨st, sa, sw, sr, sn, ss⟩ = x from by rw [HL.out]; simp [hk2, hw3])
    clear hk1 hk4 hk3 hk2 hw2 hw3
    go_enter Tryz.func78, Tryz.ntmps78
    go_wp2_with fail
    go_ret
    exact ⟨by rw [HQ.out]; rfl, HB.out⟩
   ·have c3 : (sw == 3) = false := by simp [hw3]
    by_cases hw4 : sw = 4
    ·have c4 : (sw == 4) = true := by simp [hw4]
     have HQ := hide (show leadsM ⟨k, t, n, gt, l, x, y⟩ ⟨st, sa, sw, sr, sn, ss⟩ = y from by rw [HL.out]; simp [hk2, hw4])
     clear hk1 hk4 hk3 hk2 hw2 hw3 hw4
     go_enter Tryz.func78, Tryz.ntmps78
     go_wp2_with fail
     go_ret
     exact ⟨by rw [HQ.out]; rfl, HB.out⟩
    ·have c4 : (sw == 4) = false := by simp [hw4]
     have HQ := hide (show leadsM ⟨k, t, n, gt, l, x, y⟩ ⟨st, sa, sw, sr, sn, ss⟩ = -1 from by rw [HL.out]; simp [hk2, hw2, hw3, hw4])
     clear hk1 hk4 hk3 hk2 hw2 hw3 hw4
     go_enter Tryz.func78, Tryz.ntmps78
     go_wp2_with fail
     go_ret
     exact ⟨by rw [HQ.out]; rfl, HB.out⟩
 ·have bn : (k != 2) = true := by simpa using hk2
  have HQ := hide (show leadsM ⟨k, t, n, gt, l, x, y⟩ ⟨st, sa, sw, sr, sn, ss⟩ = -1 from by rw [HL.out]; simp [hk1, hk2, hk3, hk4])
  clear hk1 hk4 hk3 hk2
  go_enter Tryz.func78, Tryz.ntmps78
  go_wp2_with fail
  go_ret
  exact ⟨by rw [HQ.out]; rfl, HB.out⟩
set_option maxRecDepth 100000 in
set_option maxHeartbeats 6400000 in
theorem next_c (s : ByteArray) (d j : Int) (PA : Option Addr) (pc : Nat) (L : List OpV) (st sa sw sr sn ss : Int) (w : World) (hr : OpsRd w NoBlk PA L) (hn : L.length ≤ maxLen) (hsz : ∀ v ∈ L, OpSz v) :
 Calls Tryz.prog 41 #[.agg #[.string s, .int .i64 d, .int .i64 j, .slice PA L.length pc], .agg #[.int .i64 st, .int .i64 sa, .int .i64 sw, .int .i64 sr, .int .i64 sn, .int .i64 ss]] w fun e w' => e = .returned (.int .i64 (nextM (progM s d j L) ⟨st, sa, sw, sr, sn, ss⟩)) ∧ Below w.heap.size w w' := by
 have hn' : L.length ≤ 9223372036854775807 := hn
 have HL := hide (show nextM (progM s d j L) ⟨st, sa, sw, sr, sn, ss⟩ = if ss ≠ 0 ∨ sa < 0 ∨ (L.length : Int) ≤ sa then -1 else leadsM ((L.map (·.o)).getD sa.toNat opM0) ⟨st, sa, sw, sr, sn, ss⟩ from by unfold nextM progM; simp only [List.length_map])
 obtain ⟨W, hW⟩ : ∃ W, W = (w.alloc (.cells #[.string s, .int .i64 d, .int .i64 j, .slice PA L.length pc] 24)).alloc (.cells #[.int .i64 st, .int .i64 sa, .int .i64 sw, .int .i64 sr, .int .i64 sn, .int .i64 ss] 26) := ⟨_, rfl⟩
 have HB := hide (show Below w.heap.size w W by rw [hW]; exact (below_alloc _ _).alloc (by simp) _)
 have HP := hide (show Blk W w.heap.size 24 #[.string s, .int .i64 d, .int .i64 j, .slice PA L.length pc] by rw [hW]; exact (Blk.new w 24 _).alloc _)
 have HS := hide (show Blk W (w.heap.size + 1) 26 #[.int .i64 st, .int .i64 sa, .int .i64 sw, .int .i64 sr, .int .i64 sn, .int .i64 ss] by rw [hW]; exact Blk.new' (by simp))
 have HR := hide (fun (i : Nat) (hi : i < L.length) => op_cells (hr.1.below HB.out) i hi)
 have HLd := hide (fun (i : Nat) (hi : i < L.length) (w' : World) (h : Only NoBlk w w') (ha : -9223372036854775808 ≤ sa ∧ sa < 9223372036854775807) => leads_c (opAt L i).o.kind (opAt L i).o.text (opAt L i).o.n (opAt L i).o.to (opAt L i).A (opAt L i).o.arms (opAt L i).c (opAt L i).o.onT (opAt L i).o.onE st sa sw sr sn ss w' ((hr.2 _ (opAt_mem hi)).only h (fun _ h => h)) (hsz _ (opAt_mem hi)).2.1 ha)
 have HG := hide (fun (i : Nat) (hi : i < L.length) => show (L.map (·.o)).getD i opM0 = (opAt L i).o from by simp [List.getD, opAt, hi])
 have HW := hide hW
 obtain ⟨m, hm⟩ : ∃ m, m = L.length := ⟨_, rfl⟩
 rw [← hm] at hn' HL HP HR HLd HW HG ⊢
 clear hr hn hsz hm hW
 go_enter Tryz.func41, Tryz.ntmps41
 go_upto_region 1 with fail
 change Code.wp _ _ _ _ ((w.alloc (.cells #[.string s, .int .i64 d, .int .i64 j, .slice PA m pc] 24)).alloc (.cells #[.int .i64 st, .int .i64 sa, .int .i64 sw, .int .i64 sr, .int .i64 sn, .int .i64 ss] 26))
 rw [← HW.out]
 obtain ⟨⟨g0, g1, g2, g3⟩, _⟩ := HP.out.four
 obtain ⟨s0, s1, s2, s3, s4, s5⟩ := HS.out.six
 by_cases h0 : ss = 0
 ·have b0 : (ss != 0) = false := by simp [h0]
  by_cases h1 : sa < 0
  ·have b1 : decide (sa < 0) = true := by simp [h1]
   have HQ := hide (HL.out.trans (if_pos (Or.inr (Or.inl h1))))
   clear h0 h1
   go_wp2_with fail
   go_ret
   exact ⟨by rw [HQ.out]; rfl, HB.out⟩
  ·have b1 : decide (sa < 0) = false := by simp; omega
   by_cases h2 : (m : Int) ≤ sa
   ·have b2 : decide ((m : Int) ≤ sa) = true := by simp [h2]
    have HQ := hide (HL.out.trans (if_pos (Or.inr (Or.inr h2))))
    clear h0 h1 h2
    go_wp2_with fail
    go_ret
    exact ⟨by rw [HQ.out]; rfl, HB.out⟩
   ·have b2 : decide ((m : Int) ≤ sa) = false := by simp; omega
    obtain ⟨q, hq⟩ : ∃ q : Nat, sa = q := ⟨sa.toNat, by omega⟩
    have HQ := hide (HL.out.trans (if_neg (by rintro (h | h | h); exact h h0; exact h1 h; exact h2 h)))
    subst hq
    have hlt : q < m := by omega
    have hg := HG.out q hlt
    rw [show ((q : Int).toNat) = q by omega, hg] at HQ
    have HLq := hide (fun (w' : World) (h : Only NoBlk w w') => HLd.out q hlt w' h (by omega))
    obtain ⟨b, o, rfl, hb, r0, r1, r2, r3, r4, r5, r6⟩ := HR.out q hlt
    obtain ⟨v, hv⟩ : ∃ v, v = opAt L q := ⟨_, rfl⟩
    rw [← hv] at r0 r1 r2 r3 r4 r5 r6 HLq HQ
    clear hv hg h0 h1 h2 HG HLd HL
    obtain ⟨⟨k, t, n, gt, al, x, y⟩, vA, vc⟩ := v
    simp only at r0 r1 r2 r3 r4 r5 r6 HLq HQ
    obtain ⟨am, ham⟩ : ∃ am, am = al.length := ⟨_, rfl⟩
    rw [← ham] at r4 HLq
    clear ham
    obtain ⟨E, hE⟩ : ∃ E, E = leadsM ⟨k, t, n, gt, al, x, y⟩ ⟨st, q, sw, sr, sn, ss⟩ := ⟨_, rfl⟩
    rw [← hE] at HLq HQ
    clear hE
    have j1 : (0 : Int) ≤ (q : Int) := by omega
    have j2 : (q : Int) < (m : Int) := by omega
    go_upto_region 3 with fail
    go_region_held3 (fun w' => w'.cell? ⟨w.heap.size, 3, none⟩ = some (.slice (some ⟨b, o, none⟩) m pc) ∧ w'.cell? ⟨w.heap.size + 1, 0, none⟩ = some (.int .i64 st) ∧ w'.cell? ⟨w.heap.size + 1, 1, none⟩ = some (.int .i64 q) ∧ w'.cell? ⟨w.heap.size + 1, 2, none⟩ = some (.int .i64 sw) ∧ w'.cell? ⟨w.heap.size + 1, 3, none⟩ = some (.int .i64 sr) ∧ w'.cell? ⟨w.heap.size + 1, 4, none⟩ = some (.int .i64 sn) ∧ w'.cell? ⟨w.heap.size + 1, 5, none⟩ = some (.int .i64 ss)
     ∧ w'.cell? ⟨b, o + q * 7, none⟩ = some (.int .i64 k) ∧ w'.cell? ⟨b, o + q * 7 + 1, none⟩ = some (.string t) ∧ w'.cell? ⟨b, o + q * 7 + 2, none⟩ = some (.int .i64 n) ∧ w'.cell? ⟨b, o + q * 7 + 3, none⟩ = some (.int .i64 gt) ∧ w'.cell? ⟨b, o + q * 7 + 4, none⟩ = some (.slice vA am vc) ∧ w'.cell? ⟨b, o + q * 7 + 5, none⟩ = some (.int .i64 x) ∧ w'.cell? ⟨b, o + q * 7 + 6, none⟩ = some (.int .i64 y)) (go_keep)
     (first
       | (go_at_call 78
          refine (HLq.out _ ((Only.of_below HB.out NoBlk).drew)).mono ?_
          rintro e w2 ⟨rfl, hb2⟩
          have HB2 := hide ((below_dr HB.out).trans (hb2.mono HB.out.size))
          replace g3 := bkeepL hb2 (by have := HP.out.lt; exact this) g3
          replace s0 := bkeepL hb2 HS.out.lt s0
          replace s1 := bkeepL hb2 HS.out.lt s1
          replace s2 := bkeepL hb2 HS.out.lt s2
          replace s3 := bkeepL hb2 HS.out.lt s3
          replace s4 := bkeepL hb2 HS.out.lt s4
          replace s5 := bkeepL hb2 HS.out.lt s5
          replace r0 := bkeepL hb2 hb r0
          replace r1 := bkeepL hb2 hb r1
          replace r2 := bkeepL hb2 hb r2
          replace r3 := bkeepL hb2 hb r3
          replace r4 := bkeepL hb2 hb r4
          replace r5 := bkeepL hb2 hb r5
          replace r6 := bkeepL hb2 hb r6
          clear hb2))
    all_goals
     go_wp2_with fail
     go_ret
     exact ⟨by rw [HQ.out]; rfl, HB2.out⟩
 ·have b0 : (ss != 0) = true := by simpa using h0
  have HQ := hide (HL.out.trans (if_pos (Or.inl h0)))
  clear h0
  go_wp2_with fail
  go_ret
  exact ⟨by rw [HQ.out]; rfl, HB.out⟩
set_option maxRecDepth 100000 in
set_option maxHeartbeats 6400000 in
theorem Next_c (s : ByteArray) (d j : Int) (PA : Option Addr) (pc : Nat) (L : List OpV) (st sa sw sr sn ss : Int) (w : World) (hr : OpsRd w NoBlk PA L) (hn : L.length ≤ maxLen) (hs : s.size ≤ 9223372036854775807) (hsz : ∀ v ∈ L, OpSz v) :
 Calls Tryz.prog 9 #[.agg #[.string s, .int .i64 d, .int .i64 j, .slice PA L.length pc], .agg #[.int .i64 st, .int .i64 sa, .int .i64 sw, .int .i64 sr, .int .i64 sn, .int .i64 ss]] w fun e w' => e = .returned (.int .i64 (NextM (progM s d j L) ⟨st, sa, sw, sr, sn, ss⟩)) ∧ Only NoBlk w w' := by
 have HG := hide (fun (w' : World) (h : Only NoBlk w w') => pGood_c s d j PA pc L w' (hr.only h (fun _ h => h)) hn hs hsz)
 have HN := hide (fun (w' : World) (h : Only NoBlk w w') => next_c s d j PA pc L st sa sw sr sn ss w' (hr.only h (fun _ h => h)) hn hsz)
 have HL := hide (show NextM (progM s d j L) ⟨st, sa, sw, sr, sn, ss⟩ = if goodM (progM s d j L) = true then nextM (progM s d j L) ⟨st, sa, sw, sr, sn, ss⟩ else -1 from rfl)
 obtain ⟨W, hW⟩ : ∃ W, W = (w.alloc (.cells #[.string s, .int .i64 d, .int .i64 j, .slice PA L.length pc] 24)).alloc (.cells #[.int .i64 st, .int .i64 sa, .int .i64 sw, .int .i64 sr, .int .i64 sn, .int .i64 ss] 26) := ⟨_, rfl⟩
 have HO := hide (show Only NoBlk w W by rw [hW]; exact ((Only.refl _ w).alloc _).alloc _)
 have HP := hide (show Blk W w.heap.size 24 #[.string s, .int .i64 d, .int .i64 j, .slice PA L.length pc] by rw [hW]; exact (Blk.new w 24 _).alloc _)
 have HS := hide (show Blk W (w.heap.size + 1) 26 #[.int .i64 st, .int .i64 sa, .int .i64 sw, .int .i64 sr, .int .i64 sn, .int .i64 ss] by rw [hW]; exact Blk.new' (by simp))
 have HW := hide hW
 obtain ⟨m, hm⟩ : ∃ m, m = L.length := ⟨_, rfl⟩
 rw [← hm] at HG HN HP HW ⊢
 clear hr hn hs hsz hm hW
 go_enter Tryz.func9, Tryz.ntmps9
 go_upto_region 1 with fail
 change Code.wp _ _ _ _ ((w.alloc (.cells #[.string s, .int .i64 d, .int .i64 j, .slice PA m pc] 24)).alloc (.cells #[.int .i64 st, .int .i64 sa, .int .i64 sw, .int .i64 sr, .int .i64 sn, .int .i64 ss] 26))
 rw [← HW.out]
 obtain ⟨⟨g0, g1, g2, g3⟩, _⟩ := HP.out.four
 cases hg : goodM (progM s d j L) with
 | true =>
  rw [hg] at HG
  have HQ := hide (HL.out.trans (if_pos hg))
  clear hg HL
  go_wp2_with fail
  refine (HG.out _ HO.out).mono ?_
  rintro e w2 ⟨rfl, ho2⟩
  have HO2 := hide (HO.out.trans ho2)
  have HP2 := hide (HP.out.only ho2 (fun h => h))
  have HS2 := hide (HS.out.only ho2 (fun h => h))
  clear ho2 g0 g1 g2 g3
  obtain ⟨⟨g0, g1, g2, g3⟩, _⟩ := HP2.out.four
  obtain ⟨s0, s1, s2, s3, s4, s5⟩ := HS2.out.six
  go_wp2_with fail
  refine (HN.out _ HO2.out).mono ?_
  rintro e w3 ⟨rfl, hb3⟩
  go_wp2_with fail
  go_ret
  exact ⟨by rw [HQ.out]; rfl, onlyBox HO2.out hb3⟩
 | false =>
  rw [hg] at HG
  have HQ := hide (HL.out.trans (if_neg (by rw [hg]; simp)))
  clear hg HL
  go_wp2_with fail
  refine (HG.out _ HO.out).mono ?_
  rintro e w2 ⟨rfl, ho2⟩
  go_wp2_with fail
  go_ret
  exact ⟨by rw [HQ.out]; rfl, HO.out.trans ho2⟩
end Go.Proofs.YtdmdohjdmnmabaaGreat
