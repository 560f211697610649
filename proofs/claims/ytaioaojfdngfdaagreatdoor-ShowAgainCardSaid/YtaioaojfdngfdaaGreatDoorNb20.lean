/- Parts of a chain of lemmas: Prg5, Prg6. Conditions: those of each theorem. -/
import Derived.Test.YtaioaojfdngfdaaGreatDoorNb19
import Derived.Deep.RegionWith
import Derived.Test.YtaioaojfdngfdaaGreatDoorNb09
set_option linter.unusedVariables false
set_option linter.unusedSimpArgs false
namespace Go.Proofs.YtaioaojfdngfdaaGreatDoor
open Go.RowKit
set_option maxRecDepth 100000 in
set_option maxHeartbeats 6400000 in
theorem op_c (s : ByteArray) (d j : Int) (PA : Option Addr) (pn pc : Nat) (k : Int) (t : ByteArray) (n gt : Int) (A : Option Addr) (l : List ArmM) (c : Nat) (x y : Int) (w : World)
 (hr : Rd w NoBlk A (flat encArm l)) (hn : l.length ≤ maxLen) (ht : t.size ≤ 9223372036854775807) (hsz : ∀ a ∈ l, a.pat.size ≤ 9223372036854775807) :
 Calls Tryz.prog 135 #[.agg #[.string s, .int .i64 d, .int .i64 j, .slice PA pn pc], .agg #[.int .i64 k, .string t, .int .i64 n, .int .i64 gt, .slice A l.length c, .int .i64 x, .int .i64 y]] w fun e w' => e = .returned (.int .i64 (opE pn ⟨k, t, n, gt, l, x, y⟩)) ∧ Only NoBlk w w' := by
 have HE := hide (show opE pn ⟨k, t, n, gt, l, x, y⟩ = if k < 1 ∨ 6 < k then 11 else if bareB ⟨k, t, n, gt, l, x, y⟩ = false then 2 else if k = 1 then (if t.size = 0 then 9 else if 256 < t.size then 4 else 0)
  else if k = 2 then expectE pn ⟨k, t, n, gt, l, x, y⟩ else if k = 3 then (if comesB pn gt = true then 0 else 13) else if k = 4 then (if tickB 0 n = true then 0 else 12) else 0 from rfl)
 have HX := hide (fun (w' : World) (h : Only NoBlk w w') => expect_c s d j PA pn pc k t n gt A l c x y w' (hr.only h (fun _ h => h)) hn hsz)
 have HC := hide (fun (w' : World) => comes_c s d j PA pn pc gt w')
 have HSm := hide (fun (w' : World) (h : Only NoBlk w w') => sameOp_c k t n gt A l c x y w' (hr.only h (fun _ h => h)) hn)
 have HBr := hide (fun (w' : World) => bare_c k t n gt A l.length c x y w')
 obtain ⟨B, hB0⟩ : ∃ B, B = bareV k t n gt A l.length c x y := ⟨_, rfl⟩
 obtain ⟨m, hm⟩ : ∃ m, m = l.length := ⟨_, rfl⟩
 rw [← hB0] at HSm HBr
 rw [← hm] at HX HSm HBr ⊢
 obtain ⟨W, hW⟩ : ∃ W, W = (w.alloc (.cells #[.string s, .int .i64 d, .int .i64 j, .slice PA pn pc] 25)).alloc (.cells #[.int .i64 k, .string t, .int .i64 n, .int .i64 gt, .slice A m c, .int .i64 x, .int .i64 y] 92) := ⟨_, rfl⟩
 have hB : Below w.heap.size w W := by rw [hW]; exact (below_alloc _ _).alloc (by simp) _
 have HO := hide (Only.of_below hB NoBlk)
 have HP := hide (show Blk W w.heap.size 25 #[.string s, .int .i64 d, .int .i64 j, .slice PA pn pc] by rw [hW]; exact (Blk.new w 25 _).alloc _)
 have HV := hide (show Blk W (w.heap.size + 1) 92 #[.int .i64 k, .string t, .int .i64 n, .int .i64 gt, .slice A m c, .int .i64 x, .int .i64 y] by rw [hW]; exact Blk.new' (by simp))
 have HW := hide hW
 clear hB hW hr hn hsz hm hB0
 go_enter Tryz.func135, Tryz.ntmps135
 go_upto_region 1 with fail
 change Code.wp _ _ _ _ ((w.alloc (.cells #[.string s, .int .i64 d, .int .i64 j, .slice PA pn pc] 25)).alloc (.cells #[.int .i64 k, .string t, .int .i64 n, .int .i64 gt, .slice A m c, .int .i64 x, .int .i64 y] 92))
 rw [← HW.out]
 obtain ⟨v0, v1, v2, v3, v4, v5, v6⟩ := HV.out.seven
 by_cases hk1 : k < 1
 ·have d1 : decide (k < 1) = true := by simp [hk1]
  have HQ := hide (HE.out.trans (if_pos (Or.inl hk1)))
  clear hk1
  go_wp2_with fail
  go_ret
  exact ⟨by rw [HQ.out]; rfl, HO.out⟩
 ·have d1 : decide (k < 1) = false := by simp; omega
  by_cases hk6 : 6 < k
  ·have d2 : decide (6 < k) = true := by simp [hk6]
   have HQ := hide (HE.out.trans (if_pos (Or.inr hk6)))
   clear hk1 hk6
   go_wp2_with fail
   go_ret
   exact ⟨by rw [HQ.out]; rfl, HO.out⟩
  ·have d2 : decide (6 < k) = false := by simp; omega
   replace HE := hide (HE.out.trans (if_neg (by omega)))
   clear hk1 hk6
   go_upto_region 3 with fail
   go_cut [14] from 15 to 19 (fun v wx => v = .bool (!bareB ⟨k, t, n, gt, l, x, y⟩) ∧ Hid (Only NoBlk w wx) ∧ Hid (Blk wx w.heap.size 25 #[.string s, .int .i64 d, .int .i64 j, .slice PA pn pc]) ∧ Hid (Blk wx (w.heap.size + 1) 92 #[.int .i64 k, .string t, .int .i64 n, .int .i64 gt, .slice A m c, .int .i64 x, .int .i64 y]))
   case first =>
    go_region_with (first
     | (go_at_call 160
        refine (HBr.out _).mono ?_
        rintro e w2 ⟨rfl, hb2⟩
        have HO2 := hide (onlyBox HO.out.drew hb2)
        have HP2 := hide (HP.out.drew.below hb2)
        have HV2 := hide (HV.out.drew.below hb2)
        clear hb2
        obtain ⟨z0, z1, z2, z3, z4, z5, z6⟩ := HV2.out.seven)
     | (go_at_call 159
        refine (HSm.out _ HO2.out).mono ?_
        rintro e w3 ⟨rfl, hb3⟩
        have HO3 := hide (onlyBox HO2.out hb3)
        have HP3 := hide (HP2.out.below hb3)
        have HV3 := hide (HV2.out.below hb3)
        clear hb3))
    all_goals
     go_wp2_with fail
     go_meet
     exact ⟨rfl, HO3, HP3, HV3⟩
   case rest =>
    obtain ⟨rfl, HOc, HPc, HVc⟩ := hcut
    clear HO HP HV v0 v1 v2 v3 v4 v5 v6 d1 d2
    obtain ⟨v0, v1, v2, v3, v4, v5, v6⟩ := HVc.out.seven
    obtain ⟨⟨g0, g1, g2, g3⟩, _⟩ := HPc.out.four
    obtain ⟨z, hz⟩ : ∃ z, z = !bareB ⟨k, t, n, gt, l, x, y⟩ := ⟨_, rfl⟩
    rw [← hz]
    cases z with
    | true =>
     have HQ := hide (HE.out.trans (if_pos (by simpa using hz.symm)))
     clear hz
     go_wp2_with fail
     go_ret
     exact ⟨by rw [HQ.out]; rfl, HOc.out⟩
    | false =>
     replace HE := hide (HE.out.trans (if_neg (by intro h; rw [h] at hz; cases hz)))
     clear hz
     by_cases h1 : k = 1
     ·subst h1
      replace HE := hide (HE.out.trans (if_pos rfl))
      by_cases ht0 : t.size = 0
      ·have HQ := hide (HE.out.trans (if_pos ht0))
       obtain rfl := str_nil ht0
       clear ht0 ht
       go_wp2_with fail
       go_ret
       exact ⟨by rw [HQ.out]; rfl, HOc.out⟩
      ·have q1 := str_some ht0
       replace HE := hide (HE.out.trans (if_neg ht0))
       by_cases h256 : 256 < t.size
       ·have e1 : decide ((t.size : Int) > 256) = true := by simp; omega
        have e2 : decide (256 < t.size) = true := by simp; exact h256
        have HQ := hide (HE.out.trans (if_pos h256))
        clear ht0 h256
        go_wp2_with fail
        go_ret
        exact ⟨by rw [HQ.out]; rfl, HOc.out⟩
       ·have e1 : decide ((t.size : Int) > 256) = false := by simp; omega
        have e2 : decide (256 < t.size) = false := by simp; omega
        have HQ := hide (HE.out.trans (if_neg h256))
        clear ht0 h256
        go_wp2_with fail
        go_ret
        exact ⟨by rw [HQ.out]; rfl, HOc.out⟩
     ·have b1 : (k == 1) = false := by simp [h1]
      replace HE := hide (HE.out.trans (if_neg h1))
      clear h1
      by_cases h2 : k = 2
      ·subst h2
       have HQ := hide (HE.out.trans (if_pos rfl))
       go_wp2_with fail
       refine (HX.out _ HOc.out).mono ?_
       rintro e w5 ⟨rfl, ho5⟩
       go_wp2_with fail
       go_ret
       exact ⟨by rw [HQ.out]; rfl, HOc.out.trans ho5⟩
      ·have b2 : (k == 2) = false := by simp [h2]
       replace HE := hide (HE.out.trans (if_neg h2))
       clear h2
       by_cases h3 : k = 3
       ·subst h3
        replace HE := hide (HE.out.trans (if_pos rfl))
        cases hc : comesB pn gt with
        | true =>
         rw [hc] at HC
         have HQ := hide (HE.out.trans (if_pos hc))
         clear hc
         go_wp2_with fail
         refine (HC.out _).mono ?_
         rintro e w5 ⟨rfl, hb5⟩
         go_wp2_with fail
         go_ret
         exact ⟨by rw [HQ.out]; rfl, onlyBox HOc.out hb5⟩
        | false =>
         rw [hc] at HC
         have HQ := hide (HE.out.trans (if_neg (by rw [hc]; simp)))
         clear hc
         go_wp2_with fail
         refine (HC.out _).mono ?_
         rintro e w5 ⟨rfl, hb5⟩
         go_wp2_with fail
         go_ret
         exact ⟨by rw [HQ.out]; rfl, onlyBox HOc.out hb5⟩
       ·have b3 : (k == 3) = false := by simp [h3]
        replace HE := hide (HE.out.trans (if_neg h3))
        clear h3
        by_cases h4 : k = 4
        ·subst h4
         replace HE := hide (HE.out.trans (if_pos rfl))
         have HI := hide (fun (w' : World) => in64_c n 0 1000000000000 w')
         have HTk := hide (show tickB 0 n = (decide (0 ≤ n) && decide (n ≤ 1000000000000)) from rfl)
         obtain ⟨z, hz⟩ : ∃ z, z = (decide (0 ≤ n) && decide (n ≤ 1000000000000)) := ⟨_, rfl⟩
         rw [← hz] at HI HTk
         clear hz
         cases z with
         | true =>
          have HQ := hide (HE.out.trans (if_pos HTk.out))
          go_wp2_with fail
          refine (HI.out _).mono ?_
          rintro e w5 ⟨rfl, rfl⟩
          go_wp2_with fail
          go_ret
          exact ⟨by rw [HQ.out]; rfl, HOc.out⟩
         | false =>
          have HQ := hide (HE.out.trans (if_neg (by rw [HTk.out]; simp)))
          go_wp2_with fail
          refine (HI.out _).mono ?_
          rintro e w5 ⟨rfl, rfl⟩
          go_wp2_with fail
          go_ret
          exact ⟨by rw [HQ.out]; rfl, HOc.out⟩
        ·have b4 : (k == 4) = false := by simp [h4]
         have HQ := hide (HE.out.trans (if_neg h4))
         clear h4
         go_wp2_with fail
         go_ret
         exact ⟨by rw [HQ.out]; rfl, HOc.out⟩
/-- a script's ops in memory -/
def OpsRd (w : World) (M : Nat → Prop) (A : Option Addr) (L : List OpV) : Prop := Rd w M A (flat encOp L) ∧ ∀ v ∈ L, Rd w M v.A (flat encArm v.o.arms)
theorem OpsRd.only {S M : Nat → Prop} {w w' : World} {A : Option Addr} {L : List OpV} (h : OpsRd w M A L) (k : Only S w w') (hs : ∀ b, S b → M b) : OpsRd w' M A L := ⟨h.1.only k hs, fun v hv => (h.2 v hv).only k hs⟩
def OpSz (v : OpV) : Prop := v.o.text.size ≤ 9223372036854775807 ∧ v.o.arms.length ≤ maxLen ∧ ∀ a ∈ v.o.arms, a.pat.size ≤ 9223372036854775807
def opAt (l : List OpV) (k : Nat) : OpV := l.getD k ⟨⟨0, ⟨#[]⟩, 0, 0, [], 0, 0⟩, none, 0⟩
theorem opAt_some {l : List OpV} {k : Nat} (hk : k < l.length) : l[k]? = some (opAt l k) := by simp [opAt, List.getD, hk]
theorem opAt_mem {l : List OpV} {k : Nat} (hk : k < l.length) : opAt l k ∈ l := List.mem_of_getElem? (opAt_some hk)
theorem op_cells {w : World} {M : Nat → Prop} {A : Option Addr} {l : List OpV} (hr : Rd w M A (flat encOp l)) (k : Nat) (hk : k < l.length) : ∃ b o, A = some ⟨b, o, none⟩ ∧ b < w.heap.size ∧
 w.cell? ⟨b, o + k * 7, none⟩ = some (.int .i64 (opAt l k).o.kind) ∧ w.cell? ⟨b, o + k * 7 + 1, none⟩ = some (.string (opAt l k).o.text) ∧ w.cell? ⟨b, o + k * 7 + 2, none⟩ = some (.int .i64 (opAt l k).o.n) ∧
 w.cell? ⟨b, o + k * 7 + 3, none⟩ = some (.int .i64 (opAt l k).o.to) ∧ w.cell? ⟨b, o + k * 7 + 4, none⟩ = some (.slice (opAt l k).A (opAt l k).o.arms.length (opAt l k).c) ∧
 w.cell? ⟨b, o + k * 7 + 5, none⟩ = some (.int .i64 (opAt l k).o.onT) ∧ w.cell? ⟨b, o + k * 7 + 6, none⟩ = some (.int .i64 (opAt l k).o.onE) := by
 obtain ⟨b, o, hA, _, hb, hc⟩ := flat_cells encOp_len hr k _ (opAt_some hk) (by omega)
 exact ⟨b, o, hA, hb, hc 0 (by omega), hc 1 (by omega), hc 2 (by omega), hc 3 (by omega), hc 4 (by omega), hc 5 (by omega), hc 6 (by omega)⟩
/-- a script, of its ops in memory -/
def progM (s : ByteArray) (d j : Int) (L : List OpV) : ProgM := ⟨s, d, j, L.map (·.o)⟩
theorem wrong_head {p : ProgM} {e : Int} (h : headE p = e) (he : e ≠ 0) : wrongM p = (-1, e) := by unfold wrongM; rw [h, if_pos he]
set_option maxRecDepth 100000 in
set_option maxHeartbeats 6400000 in
theorem wrong_c (s : ByteArray) (d j : Int) (PA : Option Addr) (pc : Nat) (L : List OpV) (w : World) (hr : OpsRd w NoBlk PA L) (hn : L.length ≤ maxLen) (hs : s.size ≤ 9223372036854775807) (hsz : ∀ v ∈ L, OpSz v) :
 Calls Tryz.prog 93 #[.agg #[.string s, .int .i64 d, .int .i64 j, .slice PA L.length pc]] w fun e w' => e = .returned (.tuple #[.int .i64 (wrongM (progM s d j L)).1, .int .i64 (wrongM (progM s d j L)).2]) ∧ Only NoBlk w w' := by
 have hn' : L.length ≤ 9223372036854775807 := hn
 have HH := hide (show headE (progM s d j L) = if nameB s = false then 10 else if ((nevB d || tickB 1 d) && decide (0 ≤ j) && decide (j ≤ 1000)) = false then 12 else if 200 < L.length then 4 else 0 by unfold headE progM; simp only [List.length_map])
 have HN := hide (fun (w' : World) => Name_c s w' hs)
 have HOp := hide (fun (i : Nat) (hi : i < L.length) (w' : World) (h : Only NoBlk w w') => op_c s d j PA L.length pc (opAt L i).o.kind (opAt L i).o.text (opAt L i).o.n (opAt L i).o.to (opAt L i).A (opAt L i).o.arms (opAt L i).c (opAt L i).o.onT (opAt L i).o.onE w' ((hr.2 _ (opAt_mem hi)).only h (fun _ h => h)) (hsz _ (opAt_mem hi)).2.1 (hsz _ (opAt_mem hi)).1 (hsz _ (opAt_mem hi)).2.2)
 have hmap : ∀ i, i < L.length → ((L.map (·.o)).map (opE L.length)).getD i 0 = opE L.length (opAt L i).o := by
  intro i hi
  rw [List.map_map]
  exact map_getD _ L _ i hi
 have HF1 := hide (fun (h0 : headE (progM s d j L) = 0) (i : Nat) (hi : i < L.length) (h : ∀ q, q < i → opE L.length (opAt L q).o = 0) (hne : opE L.length (opAt L i).o ≠ 0) => (show wrongM (progM s d j L) = ((i : Int), opE L.length (opAt L i).o) from by
  unfold wrongM
  rw [h0, if_neg (by simp)]
  unfold progM
  simp only [List.length_map]
  rw [firstAt_take (k := i) (fun q hq => by rw [hmap q (by omega)]; exact h q hq) (by simpa using hi) (by rw [hmap i hi]; exact hne), hmap i hi]
  simp))
 have HF2 := hide (fun (h0 : headE (progM s d j L) = 0) (h : ∀ q, q < L.length → opE L.length (opAt L q).o = 0) => (show wrongM (progM s d j L) = (0, 0) from by
  unfold wrongM
  rw [h0, if_neg (by simp)]
  unfold progM
  simp only [List.length_map]
  exact firstAt_zero (fun q hq => by rw [hmap q (by simpa using hq)]; exact h q (by simpa using hq))))
 have HR := hide (fun (w' : World) (h : Only NoBlk w w') (i : Nat) (hi : i < L.length) => op_cells (hr.1.only h (fun _ h => h)) i hi)
 obtain ⟨n, hm⟩ : ∃ n, n = L.length := ⟨_, rfl⟩
 rw [← hm] at hn' HH HOp HF1 HF2 HR ⊢
 have HM := hide hm
 obtain ⟨W, hW⟩ : ∃ W, W = w.alloc (.cells #[.string s, .int .i64 d, .int .i64 j, .slice PA n pc] 25) := ⟨_, rfl⟩
 have HO := hide (show Only NoBlk w W by rw [hW]; exact (Only.refl _ w).alloc _)
 have HP := hide (show Blk W w.heap.size 25 #[.string s, .int .i64 d, .int .i64 j, .slice PA n pc] by rw [hW]; exact Blk.new w 25 _)
 have HW := hide hW
 clear hW hr hn hsz hm hs hmap
 go_enter Tryz.func93, Tryz.ntmps93
 go_upto_region 1 with fail
 change Code.wp _ _ _ _ (w.alloc (.cells #[.string s, .int .i64 d, .int .i64 j, .slice PA n pc] 25))
 rw [← HW.out]
 obtain ⟨⟨g0, g1, g2, g3⟩, _⟩ := HP.out.four
 cases hnm : nameB s with
 | false =>
  rw [hnm] at HN
  have HQ := hide (wrong_head (HH.out.trans (if_pos hnm)) (by decide))
  clear hnm
  go_wp2_with fail
  refine (HN.out _).mono ?_
  rintro e w2 ⟨rfl, rfl⟩
  go_wp2_with fail
  refine bodyPost_ret (v := .tuple #[.int .i64 (-1), .int .i64 10]) (by simp [results, Tryz.results93, go_sem]) rfl ?_
  exact ⟨by rw [HQ.out], HO.out⟩
 | true =>
  rw [hnm] at HN
  replace HH := hide (HH.out.trans (if_neg (by rw [hnm]; simp)))
  clear hnm
  go_wp2_with fail
  refine (HN.out _).mono ?_
  rintro e w2 ⟨rfl, rfl⟩
  go_upto_region 3 with fail
  go_cut [12] from 13 to 21 (fun v wx => v = .bool (!(nevB d || tickB 1 d)) ∧ wx = W)
  case first =>
   by_cases hnv : d = 9223372036854775807
   ·subst hnv
    go_wp2_with fail
    go_meet
    exact ⟨rfl, rfl⟩
   ·have hnb : (d != 9223372036854775807) = true := by simpa using hnv
    have HT := hide (show (!(nevB d || tickB 1 d)) = !(decide (1 ≤ d) && decide (d ≤ 1000000000000)) by unfold nevB tickB; rw [decide_eq_false hnv]; rfl)
    clear hnv
    go_wp2_with fail
    refine (in64_c d 1 1000000000000 _).mono ?_
    rintro e w2 ⟨rfl, rfl⟩
    go_wp2_with fail
    go_meet
    exact ⟨by rw [HT.out]; simp, rfl⟩
  case rest =>
   obtain ⟨rfl, rfl⟩ := hcut
   obtain ⟨z, hz⟩ : ∃ z, z = !(nevB d || tickB 1 d) := ⟨_, rfl⟩
   rw [← hz]
   cases z with
   | true =>
    have hz' : (nevB d || tickB 1 d) = false := by simpa using hz.symm
    have HQ := hide (wrong_head (HH.out.trans (if_pos (by rw [hz']; rfl))) (by decide))
    clear hz hz'
    go_wp2_with fail
    refine bodyPost_ret (v := .tuple #[.int .i64 (-1), .int .i64 12]) (by simp [results, Tryz.results93, go_sem]) rfl ?_
    exact ⟨by rw [HQ.out], HO.out⟩
   | false =>
    have hz' : (nevB d || tickB 1 d) = true := by
     cases hh : (nevB d || tickB 1 d) with
     | true => rfl
     | false => rw [hh] at hz; cases hz
    rw [hz'] at HH
    have HI := hide (fun (w' : World) => pin_c j 0 1000 w')
    obtain ⟨y, hy⟩ : ∃ y, y = (decide (0 ≤ j) && decide (j ≤ 1000)) := ⟨_, rfl⟩
    rw [← hy] at HI
    rw [Bool.true_and, ← hy] at HH
    clear hz hz' hy
    cases y with
    | false =>
     have HQ := hide (wrong_head (HH.out.trans (if_pos rfl)) (by decide))
     go_wp2_with fail
     refine (HI.out _).mono ?_
     rintro e w2 ⟨rfl, rfl⟩
     go_wp2_with fail
     refine bodyPost_ret (v := .tuple #[.int .i64 (-1), .int .i64 12]) (by simp [results, Tryz.results93, go_sem]) rfl ?_
     exact ⟨by rw [HQ.out], HO.out⟩
    | true =>
     replace HH := hide (HH.out.trans (if_neg (by simp)))
     by_cases h2 : 200 < n
     ·have HQ := hide (wrong_head (HH.out.trans (if_pos h2)) (by decide))
      have d1 : decide ((n : Int) > 200) = true := by simp; omega
      have d2 : decide (200 < n) = true := by simp; exact h2
      go_wp2_with fail
      refine (HI.out _).mono ?_
      rintro e w2 ⟨rfl, rfl⟩
      go_wp2_with fail
      refine bodyPost_ret (v := .tuple #[.int .i64 (-1), .int .i64 4]) (by simp [results, Tryz.results93, go_sem]) rfl ?_
      exact ⟨by rw [HQ.out], HO.out⟩
     ·have h0 := HH.out.trans (if_neg h2)
      replace HF1 := hide (HF1.out h0)
      replace HF2 := hide (HF2.out h0)
      have d1 : decide ((n : Int) > 200) = false := by simp; omega
      have d2 : decide (200 < n) = false := by simp; omega
      clear h0 HH
      go_wp2_with fail
      refine (HI.out _).mono ?_
      rintro e w2 ⟨rfl, rfl⟩
      go_wp2_with fail
      go_loopw [34] (fun i wr => ∃ q : Nat, q ≤ n ∧ i = .int .i64 q ∧ Hid (∀ i, i < q → opE n (opAt L i).o = 0) ∧ Hid (Only NoBlk w wr) ∧ Hid (Blk wr w.heap.size 25 #[.string s, .int .i64 d, .int .i64 j, .slice PA n pc])) (fun i _ => n - (intOf i).toNat)
      case atStart => exact ⟨0, Nat.zero_le _, rfl, hide (fun i h => by omega), HO, HP⟩
      case round =>
       clear HO HP g0 g1 g2 g3 d1 d2 HW
       obtain ⟨q, hq, rfl, HZ, HO, HP⟩ := hrel
       obtain ⟨⟨g0, g1, g2, g3⟩, _⟩ := HP.out.four
       by_cases hlt : q < n
       ·obtain ⟨b, o, rfl, hb, r0, r1, r2, r3, r4, r5, r6⟩ := HR.out wr HO.out q hlt
        have HOq := hide (HOp.out q hlt)
        have HF1q := hide (HF1.out q hlt HZ.out)
        have HZq := hide (fun (h : opE n (opAt L q).o = 0) (i : Nat) (hi : i < q + 1) => (show opE n (opAt L i).o = 0 from by
         by_cases e : i = q
         ·rw [e]; exact h
         ·exact HZ.out i (by omega)))
        obtain ⟨v, hv⟩ : ∃ v, v = opAt L q := ⟨_, rfl⟩
        rw [← hv] at r0 r1 r2 r3 r4 r5 r6 HOq HF1q HZq
        clear hv
        obtain ⟨⟨k, t, m, gt, al, x, y⟩, vA, vc⟩ := v
        simp only at r0 r1 r2 r3 r4 r5 r6 HOq HF1q HZq
        obtain ⟨am, ham⟩ : ∃ am, am = al.length := ⟨_, rfl⟩
        rw [← ham] at r4 HOq
        obtain ⟨E, hE⟩ : ∃ E, E = opE n ⟨k, t, m, gt, al, x, y⟩ := ⟨_, rfl⟩
        rw [← hE] at HOq HF1q HZq
        clear hE ham
        have j1 : (0 : Int) ≤ (q : Int) := by omega
        have j2 : (q : Int) < (n : Int) := by omega
        have d1 : decide ((q : Int) < (n : Int)) = true := by simp; exact hlt
        have d2 : decide (q < n) = true := by simp; exact hlt
        have w1 : IntKind.i64.wrap ((q : Int) + 1) = (q : Int) + 1 := IntWalk.i64_in _ (by omega)
        have hpl := HP.out.lt
        have hne1 : ¬ w.heap.size = wr.heap.size := by omega
        have hne2 : ¬ wr.heap.size = w.heap.size := by omega
        have HOa := hide (HO.out.alloc (.cells #[.int .i64 k, .string t, .int .i64 m, .int .i64 gt, .slice vA am vc, .int .i64 x, .int .i64 y] 92))
        have HPa := hide (HP.out.alloc (.cells #[.int .i64 k, .string t, .int .i64 m, .int .i64 gt, .slice vA am vc, .int .i64 x, .int .i64 y] 92))
        go_wp2_with fail
        refine (HOq.out _ HOa.out).mono ?_
        rintro e w2 ⟨rfl, ho2⟩
        have HO2 := hide (HOa.out.trans ho2)
        have HP2 := hide (HPa.out.only ho2 (fun h => h))
        clear ho2 HO HP HOa HPa g0 g1 g2 g3
        by_cases he : E = 0
        ·have hZ := hide (HZq.out he)
         subst he
         go_wp2_with fail
         go_roundw
         case rel => exact ⟨q + 1, by omega, by go_num, hZ, HO2, HP2⟩
         case measure => simp [intOf]; omega
        ·have hbe : (E != 0) = true := by simpa using he
         have HQ := hide (HF1q.out he)
         clear he
         go_wp2_with fail
         refine bodyPost_ret (v := .tuple #[.int .i64 q, .int .i64 E]) (by simp [results, Tryz.results93, go_sem]) rfl ?_
         exact ⟨by rw [HQ.out], HO2.out⟩
       ·obtain rfl : q = n := by omega
        have d1 : decide ((q : Int) < (q : Int)) = false := by simp
        have d2 : decide (q < q) = false := by simp
        have HQ := hide (HF2.out HZ.out)
        go_wp2_with fail
        refine bodyPost_ret (v := .tuple #[.int .i64 0, .int .i64 0]) (by simp [results, Tryz.results93, go_sem]) rfl ?_
        exact ⟨by rw [HQ.out], HO.out⟩
set_option maxRecDepth 100000 in
set_option maxHeartbeats 3200000 in
theorem pGood_c (s : ByteArray) (d j : Int) (PA : Option Addr) (pc : Nat) (L : List OpV) (w : World) (hr : OpsRd w NoBlk PA L) (hn : L.length ≤ maxLen) (hs : s.size ≤ 9223372036854775807) (hsz : ∀ v ∈ L, OpSz v) :
 Calls Tryz.prog 59 #[.agg #[.string s, .int .i64 d, .int .i64 j, .slice PA L.length pc]] w fun e w' => e = .returned (.bool (goodM (progM s d j L))) ∧ Only NoBlk w w' := by
 have HWr := hide (fun (w' : World) (h : Only NoBlk w w') => wrong_c s d j PA pc L w' (hr.only h (fun _ h => h)) hn hs hsz)
 obtain ⟨n, hm⟩ : ∃ n, n = L.length := ⟨_, rfl⟩
 rw [← hm] at HWr ⊢
 obtain ⟨a0, e0, h3⟩ : ∃ a0 e0, wrongM (progM s d j L) = (a0, e0) := ⟨_, _, rfl⟩
 rw [h3] at HWr
 have HG := hide (show goodM (progM s d j L) = decide (e0 = 0) by unfold goodM; rw [h3])
 have HO := hide (show Only NoBlk w (w.alloc (.cells #[.string s, .int .i64 d, .int .i64 j, .slice PA n pc] 25)) from (Only.refl _ w).alloc _)
 clear hr hn hs hsz hm h3
 by_cases he : e0 = 0
 ·subst he
  replace HG := hide (HG.out.trans (decide_eq_true rfl))
  go_enter Tryz.func59, Tryz.ntmps59
  go_wp2_with fail
  refine (HWr.out _ HO.out).mono ?_
  rintro e w2 ⟨rfl, ho2⟩
  go_wp2_with fail
  go_ret
  exact ⟨by rw [HG.out]; rfl, HO.out.trans ho2⟩
 ·have hbe : (e0 == 0) = false := by simp [he]
  replace HG := hide (HG.out.trans (decide_eq_false he))
  clear he
  go_enter Tryz.func59, Tryz.ntmps59
  go_wp2_with fail
  refine (HWr.out _ HO.out).mono ?_
  rintro e w2 ⟨rfl, ho2⟩
  go_wp2_with fail
  go_ret
  exact ⟨by rw [HG.out]; rfl, HO.out.trans ho2⟩
end Go.Proofs.YtaioaojfdngfdaaGreatDoor
