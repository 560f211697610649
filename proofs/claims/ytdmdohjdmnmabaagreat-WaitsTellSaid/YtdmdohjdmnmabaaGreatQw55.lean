/- The walk of WaitsTell: all waits, the last tick, and the late ones, are as the page says. Conditions: those of each theorem. -/
import Derived.Test.YtdmdohjdmnmabaaGreatQw46
import Derived.Test.YtdmdohjdmnmabaaGreatQw48
import Derived.Test.YtdmdohjdmnmabaaGreatQw52
import Derived.Test.YtdmdohjdmnmabaaGreatQw54
import Derived.Test.YtdmdohjdmnmabaaGreatQw23
namespace Go.Proofs.YtdmdohjdmnmabaaGreat
open Go.RowKit
set_option linter.unusedVariables false
set_option linter.unusedSimpArgs false

def NnM (m : ProgM) : Prop := ∀ o ∈ m.ops, o.n ≤ 9223372036854775807
theorem nn_prM {v : PrV} : NnM (prM v) ↔ PrNn v := by
 unfold NnM PrNn prM progM
 simp
theorem scrM_nn {Ps : List PrV} (h : ∀ v ∈ Ps, PrNn v) : ∀ m ∈ scrM (Ps.map prM), NnM m := by
 intro m hm
 unfold scrM at hm
 obtain ⟨m2, h2, rfl⟩ := List.mem_map.1 hm
 obtain ⟨v, hv, rfl⟩ := List.mem_map.1 (List.mem_of_mem_take h2)
 intro o ho
 obtain ⟨o2, h3, rfl⟩ := List.mem_map.1 ho
 exact nn_prM.2 (h v hv) o2 (List.mem_of_mem_take h3)
theorem nn_of {Qs : List PrV} {X : List ProgM} (h : Qs.map prM = X) (hX : ∀ m ∈ X, NnM m) : ∀ v ∈ Qs, PrNn v := fun v hv => nn_prM.1 (hX _ (h ▸ List.mem_map.2 ⟨v, hv, rfl⟩))
theorem fewL_tk (l : List Ev) (m : Nat) (h : TkOk l) : TkOk (fewL l m) := by
 intro x hx
 unfold fewL at hx
 obtain ⟨y, hy, rfl⟩ := List.mem_map.1 hx
 exact h y (List.mem_of_mem_take hy)
theorem waitsM_congr {Ps Qs : List PrV} (h : Ps.map prM = Qs.map prM) (l : List Ev) : waitsM Ps l = waitsM Qs l := perM_congr h l (fun p id => lifeW p (whoL id (lifeGo id 0 l)) (lifeO (lifeGo id 0 l)).start (lifeO (lifeGo id 0 l)).steps) (idsL l)
theorem lateWt_congr {Ps Qs : List PrV} (h : Ps.map prM = Qs.map prM) (s : SetM) (l : List Ev) (each : Int) : lateWt s Ps l each = lateWt s Qs l each := by
 unfold lateWt
 rw [waitsM_congr h]
set_option maxRecDepth 100000 in
set_option maxHeartbeats 25600000 in
theorem WaitsTell_walk (s : SetM) (SA : Option Addr) (Ps : List PrV) (sc : Nat) (RA : Option Addr) (rn rc : Nat) (A : Option Addr) (c : Nat) (l : List Ev) (each : Int) (w : World) (hs : PrsRd w NoBlk SA Ps) (hsn : Ps.length ≤ maxLen) (hsz : ∀ v ∈ Ps, PrSz v) (hr : Rd w NoBlk A (flat encEv l)) (hn : l.length ≤ maxLen) (hnn : ∀ v ∈ Ps, PrNn v) (htk : TkOk l) (hea : each ≤ 9223372036854775807) :
 Calls Tryz.prog 5 #[.agg (worldV s SA Ps.length sc RA rn rc), .slice A l.length c, .int .i64 each] w fun e w' => e = .returned (.bool true) ∧ Only NoBlk w w' := by
 have HFew0 := hide (fun (w' : World) (k : Only NoBlk w w') => Few_c NoBlk A c l 16 w' (hr.only k (fun _ h => h)) hn (by omega) (fun k h => h.elim))
 have HScr0 := hide (fun (w' : World) (k : Only NoBlk w w') => Scripts_c SA sc Ps w' (hs.only k (fun _ h => h)) hsn hsz)
 have hle := few_le l 16
 have htx := few_texts l 16
 have hid := fewL_idem l 16
 have HTk := hide (fewL_tk l 16 htk)
 obtain ⟨FL, hFL⟩ : ∃ FL, FL = fewL l 16 := ⟨_, rfl⟩
 rw [← hFL] at HFew0 hle htx hid HTk
 obtain ⟨X, hX⟩ : ∃ X, X = scrM (Ps.map prM) := ⟨_, rfl⟩
 have HXX := hide (show scrM X = X by rw [hX]; exact scrM_idem _)
 have HXl := hide (show X.length ≤ 4 by rw [hX]; exact scrM_len _)
 have HXn := hide (show ∀ m ∈ X, NnM m by rw [hX]; exact scrM_nn hnn)
 rw [← hX] at HScr0
 have HTx := hide htx
 have HId := hide hid
 obtain ⟨np, hnp⟩ : ∃ np, np = Ps.length := ⟨_, rfl⟩
 rw [← hnp] at HScr0 ⊢
 obtain ⟨n0, hn0⟩ : ∃ n0, n0 = l.length := ⟨_, rfl⟩
 rw [← hn0] at HFew0 ⊢
 have H16 : ((16 : Nat) : Int) = 16 := rfl
 obtain ⟨W, hW⟩ : ∃ W, W = w.alloc (.cells #[.int .i64 s.live, .int .i64 s.ring, .int .i64 s.win, .int .i64 s.out, .int .i64 s.quantum, .int .i64 s.visits, .slice SA np sc, .slice RA rn rc] 37) := ⟨_, rfl⟩
 have HO := hide (show Only NoBlk w W by rw [hW]; exact (Only.refl _ _).alloc _)
 have HBw := hide (show Blk W w.heap.size 37 #[.int .i64 s.live, .int .i64 s.ring, .int .i64 s.win, .int .i64 s.out, .int .i64 s.quantum, .int .i64 s.visits, .slice SA np sc, .slice RA rn rc] by rw [hW]; exact Blk.new _ _ _)
 have HW := hide hW
 clear hs hsn hsz hr hn hnn htk hFL hX hnp hn0 htx hid hW H16
 go_enter Tryz.func5, Tryz.ntmps5
 go_upto_region 1 with fail
 change Code.wp _ _ _ _ (w.alloc (.cells #[.int .i64 s.live, .int .i64 s.ring, .int .i64 s.win, .int .i64 s.out, .int .i64 s.quantum, .int .i64 s.visits, .slice SA np sc, .slice RA rn rc] 37))
 rw [← HW.out]
 go_wp2_with fail
 refine (HFew0.out _ HO.out).mono ?_
 rintro e w1 ⟨A1, c1, rfl, rd1, hb1, hcap⟩
 have HR1 := hide rd1
 have HO1 := hide (HO.out.trans (Only.of_below hb1 NoBlk))
 have HBw1 := hide (HBw.out.below hb1)
 have HCap := hide hcap
 clear rd1 hb1 hcap
 obtain ⟨a0, a1, a2, a3, a4, a5, a6, a7⟩ := HBw1.out.eight8
 go_wp2_with fail
 refine (HScr0.out _ HO1.out).mono ?_
 rintro e w2 ⟨⟨B2, c2, Qs, rfl, hQM, hQr, hQz, hQc⟩, hb2⟩
 have HQM := hide hQM
 have HQr := hide (hQr.mono (M' := NoBlk) (fun _ h => h.elim))
 have HQz := hide hQz
 have HQl := hide (show Qs.length ≤ 4 by have h1 := HXl.out; rw [← hQM, List.length_map] at h1; exact h1)
 have HO2 := hide (HO1.out.trans (Only.of_below hb2 NoBlk))
 have HR2 := hide (HR1.out.below hb2)
 have HBw2 := hide (HBw1.out.below hb2)
 clear hQM hQr hQz hQc hb2 a0 a1 a2 a3 a4 a5 a6 a7
 have hQl4 := HQl.out
 have HScr := hide (fun (w' : World) (k : Only NoBlk w2 w') => show Calls Tryz.prog 14 #[.slice B2 Qs.length c2] w' fun e w'' => (∃ B c3 Rs, e = .returned (.slice B (List.length Rs) c3) ∧ Rs.map prM = Qs.map prM ∧ PrsRd w'' (· < w'.heap.size) B Rs ∧ (∀ v ∈ Rs, PrSz v) ∧ Rs.length ≤ c3) ∧ Below w'.heap.size w' w'' from by
  have h := Scripts_c B2 c2 Qs w' (HQr.out.only k (fun _ h => h)) (by simp only [maxLen]; omega) HQz.out
  rw [HQM.out, HXX.out] at h
  rw [HQM.out]
  exact h)
 have HFew := hide (fun (w' : World) (k : Only NoBlk w2 w') => show Calls Tryz.prog 13 #[.slice A1 FL.length c1, .int .i64 (16 : Nat)] w' (RetEvs NoBlk FL w') from by
  have h := Few_c NoBlk A1 c1 FL 16 w' (HR2.out.only k (fun _ h => h)) (by unfold maxLen; omega) (by omega) (fun k h => h.elim)
  rw [HId.out] at h
  exact h)
 have HQn := hide (nn_of HQM.out HXn.out)
 obtain ⟨PL, hPL⟩ : ∃ PL, PL = waitsM Qs FL := ⟨_, rfl⟩
 obtain ⟨LP, hLP⟩ : ∃ LP, LP = lateWt s Qs FL each := ⟨_, rfl⟩
 have HTx2 := hide (show ∀ x ∈ FL, x.s.size ≤ 100 from fun x hx => Nat.le_trans (HTx.out x hx) (by omega))
 have HPLl := hide (show PL.length ≤ 1000000 by rw [hPL]; exact waitsM_len Qs FL HTx2.out (by omega))
 have HLPl := hide (show LP.length ≤ 1000000 by
  rw [hLP]
  unfold lateWt
  split
  ·have h1 := keep_le (waitOk s each (clockOf 0 FL)) (waitsM Qs FL)
   have h2 := HPLl.out
   rw [hPL] at h2
   omega
  ·simp)
 have HRef := hide (fun (w' : World) (k : Only NoBlk w2 w') => refOf35_c B2 c2 Qs A1 c1 FL w' (HQr.out.only k (fun _ h => h)) (by simp only [maxLen]; omega) HQz.out HQn.out (HR2.out.only k (fun _ h => h)) (by omega) HTx2.out HTk.out)
 have HRefL := hide (fun (w' : World) (k : Only NoBlk w2 w') => refLate35_c refOf35_c s B2 c2 Qs A1 c1 FL each w' hea (HQr.out.only k (fun _ h => h)) (by simp only [maxLen]; omega) HQz.out HQn.out (HR2.out.only k (fun _ h => h)) (by omega) HTx2.out HTk.out)
 have HLs1 := hide (fun (w' : World) (k : Only NoBlk w2 w') => Last_c NoBlk A1 c1 FL w' (HR2.out.only k (fun _ h => h)) (by omega))
 have HLs2 := hide (fun (w' : World) (k : Only NoBlk w2 w') => refLast_c NoBlk A1 c1 FL w' (HR2.out.only k (fun _ h => h)) (by omega))
 have HPOf := hide (fun (Rs : List PrV) (B : Option Addr) (c3 : Nat) (A4 : Option Addr) (c4 : Nat) (w' : World) (hM : Rs.map prM = Qs.map prM) (h1 : PrsRd w' NoBlk B Rs) (h2 : ∀ v ∈ Rs, PrSz v) (h3 : Rd w' NoBlk A4 (flat encEv FL)) (h4 : FL.length ≤ c4) => show Calls Tryz.prog 24 #[.slice B Rs.length c3, .slice A4 FL.length c4] w' fun e w'' => (∃ A5 c5, e = .returned (.slice A5 PL.length c5) ∧ Rd w'' NoBlk A5 (flat encWt PL)) ∧ Only NoBlk w' w'' from by
  have hl : Rs.length = Qs.length := by have := congrArg List.length hM; simpa using this
  have h := WaitsOf_c B c3 Rs A4 c4 FL w' h1 (by simp only [maxLen]; omega) h2 (nn_of (hM.trans HQM.out) HXn.out) h3 (by omega) HTx2.out HTk.out h4
  rw [waitsM_congr hM, ← hPL] at h
  exact h)
 have HPLa := hide (fun (Rs : List PrV) (B : Option Addr) (c3 : Nat) (A4 : Option Addr) (c4 : Nat) (w' : World) (hM : Rs.map prM = Qs.map prM) (h1 : PrsRd w' NoBlk B Rs) (h2 : ∀ v ∈ Rs, PrSz v) (h3 : Rd w' NoBlk A4 (flat encEv FL)) (h4 : FL.length ≤ c4) => show Calls Tryz.prog 28 #[.agg (setV s), .slice B Rs.length c3, .slice A4 FL.length c4, .int .i64 each] w' fun e w'' => (∃ A5 c5, e = .returned (.slice A5 LP.length c5) ∧ Rd w'' NoBlk A5 (flat encWt LP)) ∧ Only NoBlk w' w'' from by
  have hl : Rs.length = Qs.length := by have := congrArg List.length hM; simpa using this
  have h := wLate_c s B c3 Rs A4 c4 FL each w' hea h1 (by simp only [maxLen]; omega) h2 (nn_of (hM.trans HQM.out) HXn.out) h3 (by omega) HTx2.out HTk.out h4
  rw [lateWt_congr hM, ← hLP] at h
  exact h)
 rw [← hPL] at HRef
 rw [← hLP] at HRefL
 have HLives := hide (fun w' => lives35_c w')
 obtain ⟨cl, hcl⟩ : ∃ cl, cl = clockOf 0 FL := ⟨_, rfl⟩
 rw [← hcl] at HLs1 HLs2
 obtain ⟨N, hN⟩ : ∃ N, N = PL.length := ⟨_, rfl⟩
 have HNN := hide hN
 rw [← hN] at HRef HPOf HPLl
 obtain ⟨fn, hfn⟩ : ∃ fn, fn = FL.length := ⟨_, rfl⟩
 rw [← hfn] at HFew HRef HRefL HPOf HPLa HCap hle HLs1 HLs2
 rw [← hfn]
 obtain ⟨qn, hqn⟩ : ∃ qn, qn = Qs.length := ⟨_, rfl⟩
 rw [← hqn] at HScr HRef HRefL hQl4
 rw [← hqn]
 have HFn := hide hfn
 have HO4 := hide (Only.refl NoBlk w2)
 have HBw4 := hide HBw2.out
 have ecl : (cl != cl) = false := by simp
 clear hPL hLP hN hfn hqn hcl hea
 go_wp2_with fail
 refine (HScr.out _ HO4.out).mono ?_
 rintro e ws5 ⟨⟨B5, bc5, Rs5, rfl, hM5, hr5, hz5, _⟩, hb5⟩
 have HM5 := hide hM5
 have HZ5 := hide hz5
 have HOa5 := hide (HO4.out.trans (Only.of_below hb5 NoBlk))
 have HPs5 := hide (hr5.mono (M' := NoBlk) (fun _ h => h.elim))
 have HBwa5 := hide (HBw4.out.below hb5)
 clear hM5 hr5 hz5 hb5
 go_wp2_with fail
 refine (HFew.out _ HOa5.out).mono ?_
 rintro e wf5 ⟨A5, ac5, he5, rf5, hbf5, hcf5⟩
 rw [← HFn.out] at he5 hcf5
 subst he5
 have HRf5 := hide rf5
 have HCf5 := hide hcf5
 have HOb5 := hide (HOa5.out.trans (Only.of_below hbf5 NoBlk))
 have HPb5 := hide (HPs5.out.below hbf5)
 have HBwb5 := hide (HBwa5.out.below hbf5)
 clear rf5 hbf5 hcf5
 go_wp2_with fail
 refine (HPOf.out Rs5 B5 bc5 A5 ac5 _ HM5.out HPb5.out HZ5.out HRf5.out HCf5.out).mono ?_
 rintro e w6 ⟨⟨A6, c6, rfl, hr6⟩, ho6⟩
 have HR6 := hide hr6
 have HO6 := hide (HOb5.out.trans ho6)
 have HBw6 := hide (HBwb5.out.only ho6 (fun h => h))
 clear hr6 ho6
 go_wp2_with fail
 refine (HRef.out _ HO6.out).mono ?_
 rintro e w7 ⟨⟨v7, rfl, hown7⟩, hb7⟩
 obtain ⟨VA, vc, rfl, _⟩ := own_cap hown7
 have HSame := hide (sameWt_c NoBlk NoBlk A6 VA c6 vc PL w7 (HR6.out.below hb7) (Rd.of_own (M := NoBlk) hown7 (fun _ h => h.elim)) (by rw [← HNN.out]; have := HPLl.out; omega))
 rw [← HNN.out] at HSame
 have HO7 := hide (HO6.out.trans (Only.of_below hb7 NoBlk))
 have HBw7 := hide (HBw6.out.below hb7)
 clear hown7 hb7
 go_wp2_with fail
 refine HSame.out.mono ?_
 rintro e w9 ⟨rfl, hb9⟩
 have HO9 := hide (HO7.out.trans (Only.of_below hb9 NoBlk))
 have HBw9 := hide (HBw7.out.below hb9)
 clear hb9
 go_wp2_with fail
 refine (HLs1.out _ HO9.out).mono ?_
 rintro e wl1 ⟨rfl, hbl1⟩
 have HOl1 := hide (HO9.out.trans (Only.of_below hbl1 NoBlk))
 have HBl1 := hide (HBw9.out.below hbl1)
 clear hbl1
 go_wp2_with fail
 refine (HLs2.out _ HOl1.out).mono ?_
 rintro e wl2 ⟨rfl, hbl2⟩
 have HOl2 := hide (HOl1.out.trans (Only.of_below hbl2 NoBlk))
 have HBl2 := hide (HBl1.out.below hbl2)
 clear hbl2
 go_upto_region 5 with fail
 obtain ⟨V0, hV0⟩ : ∃ V9, V9 = wl2.drew := ⟨_, rfl⟩
 have HOv0 := hide (show Only NoBlk w2 V0 by rw [hV0]; exact HOl2.out.drew)
 have HBv0 := hide (show Blk V0 w.heap.size 37 #[.int .i64 s.live, .int .i64 s.ring, .int .i64 s.win, .int .i64 s.out, .int .i64 s.quantum, .int .i64 s.visits, .slice SA np sc, .slice RA rn rc] by rw [hV0]; exact HBl2.out.drew)
 refine wp_region_held (S := fun w' => w'.cell? ⟨w.heap.size, 0, none⟩ = some (.int .i64 s.live) ∧ w'.cell? ⟨w.heap.size, 1, none⟩ = some (.int .i64 s.ring) ∧ w'.cell? ⟨w.heap.size, 2, none⟩ = some (.int .i64 s.win) ∧ w'.cell? ⟨w.heap.size, 3, none⟩ = some (.int .i64 s.out) ∧ w'.cell? ⟨w.heap.size, 4, none⟩ = some (.int .i64 s.quantum) ∧ w'.cell? ⟨w.heap.size, 5, none⟩ = some (.int .i64 s.visits) ∧ w'.cell? ⟨w.heap.size, 6, none⟩ = some (.slice SA np sc) ∧ w'.cell? ⟨w.heap.size, 7, none⟩ = some (.slice RA rn rc)) (by kernel_rfl) ?_
 change wpAnyH _ _ _ _ _ _ _ _ wl2.drew
 have hHeld : (fun w' => w'.cell? ⟨w.heap.size, 0, none⟩ = some (.int .i64 s.live) ∧ w'.cell? ⟨w.heap.size, 1, none⟩ = some (.int .i64 s.ring) ∧ w'.cell? ⟨w.heap.size, 2, none⟩ = some (.int .i64 s.win) ∧ w'.cell? ⟨w.heap.size, 3, none⟩ = some (.int .i64 s.out) ∧ w'.cell? ⟨w.heap.size, 4, none⟩ = some (.int .i64 s.quantum) ∧ w'.cell? ⟨w.heap.size, 5, none⟩ = some (.int .i64 s.visits) ∧ w'.cell? ⟨w.heap.size, 6, none⟩ = some (.slice SA np sc) ∧ w'.cell? ⟨w.heap.size, 7, none⟩ = some (.slice RA rn rc)) wl2.drew := by rw [← hV0]; exact (HBv0.out).eight8
 rw [← hV0] at hHeld ⊢
 simp only [List.size_toArray, List.length_cons, List.length_nil, Nat.zero_add, Nat.reduceAdd]
 clear hV0
 refine wpAnyH_take (i := 0) (v := ?_) rfl (by kernel_rfl) (by kernel_rfl) (by kernel_rfl) (fun _ _ _ h => h) (Or.inl ⟨by rfl, ?_⟩) (by assumption) ?_
 rotate_left
 ·(intro w9 hS9; (try simp only [List.getElem_toArray, List.getElem_cons_zero, List.getElem_cons_succ]); go_simp <;> rfl)
 try simp only [Act.put, List.setIfInBounds_toArray, List.set_cons_zero, List.set_cons_succ, List.getElem_toArray, List.getElem_cons_zero, List.getElem_cons_succ]
 refine wpAnyH_take (i := 1) (v := ?_) rfl (by kernel_rfl) (by kernel_rfl) (by kernel_rfl) (fun _ _ _ h => h) (Or.inl ⟨by rfl, ?_⟩) (by assumption) ?_
 rotate_left
 ·(intro w9 hS9; (try simp only [List.getElem_toArray, List.getElem_cons_zero, List.getElem_cons_succ]); go_simp <;> rfl)
 try simp only [Act.put, List.setIfInBounds_toArray, List.set_cons_zero, List.set_cons_succ, List.getElem_toArray, List.getElem_cons_zero, List.getElem_cons_succ]
 refine wpAnyH_take (i := 2) (v := ?_) rfl (by kernel_rfl) (by kernel_rfl) (by kernel_rfl) (fun _ _ _ h => h) (Or.inl ⟨by rfl, ?_⟩) (by assumption) ?_
 rotate_left
 ·(intro w9 hS9; (try simp only [List.getElem_toArray, List.getElem_cons_zero, List.getElem_cons_succ]); go_simp <;> rfl)
 try simp only [Act.put, List.setIfInBounds_toArray, List.set_cons_zero, List.set_cons_succ, List.getElem_toArray, List.getElem_cons_zero, List.getElem_cons_succ]
 refine wpAnyH_take (i := 4) (v := ?_) rfl (by kernel_rfl) (by kernel_rfl) (by kernel_rfl) (fun _ _ _ h => h) (Or.inl ⟨by rfl, ?_⟩) (by assumption) ?_
 rotate_left
 ·(intro w9 hS9; (try simp only [List.getElem_toArray, List.getElem_cons_zero, List.getElem_cons_succ]); go_simp <;> rfl)
 try simp only [Act.put, List.setIfInBounds_toArray, List.set_cons_zero, List.set_cons_succ, List.getElem_toArray, List.getElem_cons_zero, List.getElem_cons_succ]
 refine wpAnyH_take (i := 6) (v := ?_) rfl (by kernel_rfl) (by kernel_rfl) (by kernel_rfl) (fun _ _ _ h => h) (Or.inl ⟨by rfl, ?_⟩) (by assumption) ?_
 rotate_left
 ·(intro w9 hS9; (try simp only [List.getElem_toArray, List.getElem_cons_zero, List.getElem_cons_succ]); go_simp <;> rfl)
 try simp only [Act.put, List.setIfInBounds_toArray, List.set_cons_zero, List.set_cons_succ, List.getElem_toArray, List.getElem_cons_zero, List.getElem_cons_succ]
 refine wpAnyH_take (i := 8) (v := ?_) rfl (by kernel_rfl) (by kernel_rfl) (by kernel_rfl) (fun _ _ _ h => h) (Or.inl ⟨by rfl, ?_⟩) (by assumption) ?_
 rotate_left
 ·(intro w9 hS9; (try simp only [List.getElem_toArray, List.getElem_cons_zero, List.getElem_cons_succ]); go_simp <;> rfl)
 try simp only [Act.put, List.setIfInBounds_toArray, List.set_cons_zero, List.set_cons_succ, List.getElem_toArray, List.getElem_cons_zero, List.getElem_cons_succ]
 refine wpAnyH_take (i := 9) (v := ?_) rfl (by kernel_rfl) (by kernel_rfl) (by kernel_rfl) (fun _ _ _ h => h) (Or.inl ⟨by rfl, ?_⟩) (by assumption) ?_
 rotate_left
 ·(intro w9 hS9; (try simp only [List.getElem_toArray, List.getElem_cons_zero, List.getElem_cons_succ]); go_simp <;> rfl)
 try simp only [Act.put, List.setIfInBounds_toArray, List.set_cons_zero, List.set_cons_succ, List.getElem_toArray, List.getElem_cons_zero, List.getElem_cons_succ]
 refine wpAnyH_take (i := 10) (v := ?_) rfl (by kernel_rfl) (by kernel_rfl) (by kernel_rfl) (fun _ _ _ h => h) (Or.inl ⟨by rfl, ?_⟩) (by assumption) ?_
 rotate_left
 ·(intro w9 hS9; (try simp only [List.getElem_toArray, List.getElem_cons_zero, List.getElem_cons_succ]); go_simp <;> rfl)
 try simp only [Act.put, List.setIfInBounds_toArray, List.set_cons_zero, List.set_cons_succ, List.getElem_toArray, List.getElem_cons_zero, List.getElem_cons_succ]
 refine wpAnyH_take (i := 11) (v := ?_) rfl (by kernel_rfl) (by kernel_rfl) (by kernel_rfl) (fun _ _ _ h => h) (Or.inl ⟨by rfl, ?_⟩) (by assumption) ?_
 rotate_left
 ·(intro w9 hS9; (try simp only [List.getElem_toArray, List.getElem_cons_zero, List.getElem_cons_succ]); go_simp <;> rfl)
 try simp only [Act.put, List.setIfInBounds_toArray, List.set_cons_zero, List.set_cons_succ, List.getElem_toArray, List.getElem_cons_zero, List.getElem_cons_succ]
 refine wpAnyH_take (i := 12) (v := ?_) rfl (by kernel_rfl) (by kernel_rfl) (by kernel_rfl) (fun _ _ _ h => h) (Or.inl ⟨by rfl, ?_⟩) (by assumption) ?_
 rotate_left
 ·(intro w9 hS9; (try simp only [List.getElem_toArray, List.getElem_cons_zero, List.getElem_cons_succ]); go_simp <;> rfl)
 try simp only [Act.put, List.setIfInBounds_toArray, List.set_cons_zero, List.set_cons_succ, List.getElem_toArray, List.getElem_cons_zero, List.getElem_cons_succ]
 refine wpAnyH_ready (rs := [3]) (by kernel_rfl) (by simp) ?_
 refine AllReadyH.cons rfl (fun K hK => ?_) AllReadyH.nil
 try simp only [List.getElem_toArray, List.getElem_cons_zero, List.getElem_cons_succ]
 try go_simp
 go_at_call 14
 refine (HScr.out _ HOv0.out).mono ?_
 rintro e V1 ⟨⟨B10, bc10, Rs10, rfl, hM, hr, hz, _⟩, hb⟩
 have HM10 := hide hM
 have HZ10 := hide hz
 have HOv1 := hide (HOv0.out.trans (Only.of_below hb NoBlk))
 have HPv1 := hide (hr.mono (M' := NoBlk) (fun _ h => h.elim))
 have HBv1 := hide (HBv0.out.below hb)
 clear hM hr hz hb
 refine hK.out _ _ (HBv1.out).eight8 (fun hHeld => ?_)
 clear hK K
 try simp only [Act.put, List.setIfInBounds_toArray, List.set_cons_zero, List.set_cons_succ, List.getElem_toArray, List.getElem_cons_zero, List.getElem_cons_succ]
 refine wpAnyH_ready (rs := [5]) (by kernel_rfl) (by simp) ?_
 refine AllReadyH.cons rfl (fun K hK => ?_) AllReadyH.nil
 try simp only [List.getElem_toArray, List.getElem_cons_zero, List.getElem_cons_succ]
 try go_simp
 go_at_call 13
 refine (HFew.out _ HOv1.out).mono ?_
 rintro e V2 ⟨A10, ac10, he10, rf, hbf, hcf⟩
 rw [← HFn.out] at he10 hcf
 subst he10
 have HRf10 := hide rf
 have HCf10 := hide hcf
 have HOv2 := hide (HOv1.out.trans (Only.of_below hbf NoBlk))
 have HPv2 := hide (HPv1.out.below hbf)
 have HBv2 := hide (HBv1.out.below hbf)
 clear rf hbf hcf
 refine hK.out _ _ (HBv2.out).eight8 (fun hHeld => ?_)
 clear hK K
 try simp only [Act.put, List.setIfInBounds_toArray, List.set_cons_zero, List.set_cons_succ, List.getElem_toArray, List.getElem_cons_zero, List.getElem_cons_succ]
 refine wpAnyH_ready (rs := [7]) (by kernel_rfl) (by simp) ?_
 refine AllReadyH.cons rfl (fun K hK => ?_) AllReadyH.nil
 try simp only [List.getElem_toArray, List.getElem_cons_zero, List.getElem_cons_succ]
 try go_simp
 go_at_call 28
 refine (HPLa.out Rs10 B10 bc10 A10 ac10 _ HM10.out HPv2.out HZ10.out HRf10.out HCf10.out).mono ?_
 rintro e V3 ⟨⟨A11, c11, rfl, hr11⟩, ho11⟩
 have HR11 := hide hr11
 have HOv3 := hide (HOv2.out.trans ho11)
 have HBv3 := hide (HBv2.out.only ho11 (fun h => h))
 clear hr11 ho11
 refine hK.out _ _ (HBv3.out).eight8 (fun hHeld => ?_)
 clear hK K
 try simp only [Act.put, List.setIfInBounds_toArray, List.set_cons_zero, List.set_cons_succ, List.getElem_toArray, List.getElem_cons_zero, List.getElem_cons_succ]
 refine wpAnyH_ready (rs := [13]) (by kernel_rfl) (by simp) ?_
 refine AllReadyH.cons rfl (fun K hK => ?_) AllReadyH.nil
 try simp only [List.getElem_toArray, List.getElem_cons_zero, List.getElem_cons_succ]
 try go_simp
 go_at_call 29
 refine (HRefL.out _ HOv3.out).mono ?_
 rintro e V4 ⟨⟨A12, c12, rfl, hr12⟩, hb12⟩
 have HSam2 := hide (sameWt_c NoBlk NoBlk A11 A12 c11 c12 LP V4 (HR11.out.below hb12) hr12 (by have := HLPl.out; omega))
 have HOv4 := hide (HOv3.out.trans (Only.of_below hb12 NoBlk))
 have HBv4 := hide (HBv3.out.below hb12)
 clear hr12 hb12
 refine hK.out _ _ (HBv4.out).eight8 (fun hHeld => ?_)
 clear hK K
 try simp only [Act.put, List.setIfInBounds_toArray, List.set_cons_zero, List.set_cons_succ, List.getElem_toArray, List.getElem_cons_zero, List.getElem_cons_succ]
 refine wpAnyH_ready (rs := [14]) (by kernel_rfl) (by simp) ?_
 refine AllReadyH.cons rfl (fun K hK => ?_) AllReadyH.nil
 try simp only [List.getElem_toArray, List.getElem_cons_zero, List.getElem_cons_succ]
 try go_simp
 go_at_call 23
 refine HSam2.out.mono ?_
 rintro e V5 ⟨rfl, hb13⟩
 have HOv5 := hide (HOv4.out.trans (Only.of_below hb13 NoBlk))
 have HBv5 := hide (HBv4.out.below hb13)
 clear hb13
 refine hK.out _ _ (HBv5.out).eight8 (fun hHeld => ?_)
 clear hK K
 try simp only [Act.put, List.setIfInBounds_toArray, List.set_cons_zero, List.set_cons_succ, List.getElem_toArray, List.getElem_cons_zero, List.getElem_cons_succ]
 refine wpAnyH_take (i := 15) (v := ?_) rfl (by kernel_rfl) (by kernel_rfl) (by kernel_rfl) (fun _ _ _ h => h) (Or.inl ⟨by rfl, ?_⟩) (by assumption) ?_
 rotate_left
 ·(intro w9 hS9; (try simp only [List.getElem_toArray, List.getElem_cons_zero, List.getElem_cons_succ]); go_simp <;> rfl)
 try simp only [Act.put, List.setIfInBounds_toArray, List.set_cons_zero, List.set_cons_succ, List.getElem_toArray, List.getElem_cons_zero, List.getElem_cons_succ]
 refine wpAnyH_ready (rs := [16]) (by kernel_rfl) (by simp) ?_
 refine AllReadyH.cons rfl (fun K hK => ?_) AllReadyH.nil
 try simp only [List.getElem_toArray, List.getElem_cons_zero, List.getElem_cons_succ]
 try go_simp
 go_at_call 12
 refine (HLives.out _).mono ?_
 rintro e V6 ⟨rfl, ho14⟩
 have HOv6 := hide (HOv5.out.trans ho14)
 have HBv6 := hide (HBv5.out.only ho14 (fun h => h))
 clear ho14
 refine hK.out _ _ (HBv6.out).eight8 (fun hHeld => ?_)
 clear hK K
 try simp only [Act.put, List.setIfInBounds_toArray, List.set_cons_zero, List.set_cons_succ, List.getElem_toArray, List.getElem_cons_zero, List.getElem_cons_succ]
 refine wpAnyH_take (i := 17) (v := ?_) rfl (by kernel_rfl) (by kernel_rfl) (by kernel_rfl) (fun _ _ _ h => h) (Or.inl ⟨by rfl, ?_⟩) (by assumption) ?_
 rotate_left
 ·(intro w9 hS9; (try simp only [List.getElem_toArray, List.getElem_cons_zero, List.getElem_cons_succ]); go_simp <;> rfl)
 try simp only [Act.put, List.setIfInBounds_toArray, List.set_cons_zero, List.set_cons_succ, List.getElem_toArray, List.getElem_cons_zero, List.getElem_cons_succ]
 refine wpAnyH_take (i := 18) (v := ?_) rfl (by kernel_rfl) (by kernel_rfl) (by kernel_rfl) (fun _ _ _ h => h) (Or.inl ⟨by rfl, ?_⟩) (by assumption) ?_
 rotate_left
 ·(intro w9 hS9; (try simp only [List.getElem_toArray, List.getElem_cons_zero, List.getElem_cons_succ]); go_simp <;> rfl)
 try simp only [Act.put, List.setIfInBounds_toArray, List.set_cons_zero, List.set_cons_succ, List.getElem_toArray, List.getElem_cons_zero, List.getElem_cons_succ]
 refine wpAnyH_done (by kernel_rfl) ?_ _
 try simp only [Exit.then]
 clear hHeld
 go_wp2_with fail
 go_ret
 exact ⟨rfl, HO2.out.trans HOv6.out⟩
end Go.Proofs.YtdmdohjdmnmabaaGreat
