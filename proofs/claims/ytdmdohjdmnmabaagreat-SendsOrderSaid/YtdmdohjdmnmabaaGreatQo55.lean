/- Parts of a chain of lemmas: OpenWd, SendsOrderW. Conditions: those of each theorem. -/
import Derived.Test.YtdmdohjdmnmabaaGreatQo54
import Derived.Test.YtdmdohjdmnmabaaGreatQo22
import Derived.Test.YtdmdohjdmnmabaaGreatQo49
import Derived.Test.YtdmdohjdmnmabaaGreatQo51
import Derived.Test.YtdmdohjdmnmabaaGreatQo52
namespace Go.Proofs.YtdmdohjdmnmabaaGreat
open Go.ChangeShapes Go.WideShapes Go.ChangeAt Go.RowKit Go.Deep
section
variable {H : Type} {enc : TypeId × Value → H} {w : World}
def OpOk2 (w : World) (v : OpV) : Prop := Rd w NoBlk v.A (flat encArm v.o.arms) ∧ OpSz v ∧ v.o.n ≤ 9223372036854775807
set_option maxRecDepth 100000 in
theorem op_of2 {fuel : Nat} {cs : List Value} {x : DataW H × List MemPlace} (h : DataW.trod enc Tryz.prog w 0 (fun _ => true) true fuel 75 cs = some x) : ∃ v : OpV, cs = encOp v ∧ OpOk2 w v := by
  obtain ⟨hl, hf⟩ := struct_cells (fs := _) Tryz.underlying75 (by kernel_rfl) (by kernel_rfl) h
  obtain ⟨v0, y0, n0, e0, t0⟩ := hf 0 _ rfl
  obtain ⟨v1, y1, n1, e1, t1⟩ := hf 1 _ rfl
  obtain ⟨v2, y2, n2, e2, t2⟩ := hf 2 _ rfl
  obtain ⟨v3, y3, n3, e3, t3⟩ := hf 3 _ rfl
  obtain ⟨v4, y4, n4, e4, t4⟩ := hf 4 _ rfl
  obtain ⟨v5, y5, n5, e5, t5⟩ := hf 5 _ rfl
  obtain ⟨v6, y6, n6, e6, t6⟩ := hf 6 _ rfl
  obtain ⟨k, rfl⟩ := cell_int Tryz.underlying3 t0
  obtain ⟨s, rfl, hs⟩ := cell_str Tryz.underlying9 t1
  obtain ⟨nn, hcn, _, hwn⟩ := DataW.trod_int Tryz.underlying2 t2
  injection hcn with hcn _
  subst hcn
  obtain ⟨gt, rfl⟩ := cell_int Tryz.underlying3 t3
  obtain ⟨ot, rfl⟩ := cell_int Tryz.underlying3 t5
  obtain ⟨oe, rfl⟩ := cell_int Tryz.underlying3 t6
  have hv := slice_of_cell Tryz.underlying73 t4
  obtain ⟨A, n, c, xs, hv', hl4, hnc, hcm, hr, hq, _⟩ := open_rows (sz := 2) (Q := fun cs => ∃ a : ArmM, cs = encArm a ∧ a.pat.size ≤ maxLen) Tryz.underlying73 (by kernel_rfl) (by omega) hv (trod_of_cell hv t4) (fun fuel cs x hx => arm_of hx)
  obtain ⟨l, hxl, hok⟩ := exists_map (enc := encArm) xs (fun x hx => (hq x hx).2)
  subst hxl
  have hln : l.length = n := by simpa using hl4
  subst hln
  subst hv'
  refine ⟨⟨⟨k, s, nn, gt, l, ot, oe⟩, A, c⟩, list7' hl e0 e1 e2 e3 e4 e5 e6, hr, ⟨Nat.le_trans hs maxLen_le, Nat.le_trans hnc hcm, fun a ha => Nat.le_trans (hok a ha) maxLen_le⟩, (I64.of_wf hwn).2⟩
set_option maxRecDepth 100000 in
theorem prog_of2 {fuel : Nat} {cs : List Value} {x : DataW H × List MemPlace} (h : DataW.trod enc Tryz.prog w 0 (fun _ => true) true fuel 24 cs = some x) :
    ∃ (s : ByteArray) (d j : Int) (A : Option Addr) (L : List OpV) (c : Nat), cs = [.string s, .int .i64 d, .int .i64 j, .slice A L.length c] ∧ s.size ≤ maxLen ∧ OpsRd w NoBlk A L ∧ L.length ≤ maxLen ∧ (∀ v ∈ L, OpSz v) ∧ ∀ v ∈ L, v.o.n ≤ 9223372036854775807 := by
  obtain ⟨hl, hf⟩ := struct_cells (fs := _) Tryz.underlying24 (by kernel_rfl) (by kernel_rfl) h
  obtain ⟨v0, y0, n0, e0, t0⟩ := hf 0 _ rfl
  obtain ⟨v1, y1, n1, e1, t1⟩ := hf 1 _ rfl
  obtain ⟨v2, y2, n2, e2, t2⟩ := hf 2 _ rfl
  obtain ⟨v3, y3, n3, e3, t3⟩ := hf 3 _ rfl
  obtain ⟨s, rfl, hs⟩ := cell_str Tryz.underlying9 t0
  obtain ⟨d, rfl⟩ := cell_int Tryz.underlying2 t1
  obtain ⟨j, rfl⟩ := cell_int Tryz.underlying3 t2
  have hv := slice_of_cell Tryz.underlying22 t3
  obtain ⟨A, n, c, xs, hv', hl4, hnc, hcm, hr, hq, _⟩ := open_rows (sz := 7) (Q := fun cs => ∃ a : OpV, cs = encOp a ∧ OpOk2 w a) Tryz.underlying22 (by kernel_rfl) (by omega) hv (trod_of_cell hv t3) (fun fuel cs x hx => op_of2 hx)
  obtain ⟨L, hxl, hok⟩ := exists_map (enc := encOp) xs (fun x hx => (hq x hx).2)
  subst hxl
  have hln : L.length = n := by simpa using hl4
  subst hln
  subst hv'
  exact ⟨s, d, j, A, L, c, list4' hl e0 e1 e2 e3, hs, ⟨hr, fun v hv => (hok v hv).1⟩, Nat.le_trans hnc hcm, fun v hv => (hok v hv).2.1, fun v hv => (hok v hv).2.2⟩

def PrOk (w : World) (v : PrV) : Prop := OpsRd w NoBlk v.PA v.L ∧ PrSz v ∧ ∀ o ∈ v.L, o.o.n ≤ 9223372036854775807
theorem prv_of {fuel : Nat} {cs : List Value} {x : DataW H × List MemPlace} (h : DataW.trod enc Tryz.prog w 0 (fun _ => true) true fuel 24 cs = some x) : ∃ v : PrV, cs = encPr v ∧ PrOk w v := by
  obtain ⟨s, d, j, A, L, c, hq, hs, hr, hn, hz, hnn⟩ := prog_of2 h
  exact ⟨⟨s, d, j, A, c, L⟩, hq, hr, ⟨hn, Nat.le_trans hs maxLen_le, hz⟩, hnn⟩
end
theorem Blk.eight8 {w : World} {g : Nat} {t : TypeId} {a0 a1 a2 a3 a4 a5 a6 a7 : Value} (h : Blk w g t #[a0, a1, a2, a3, a4, a5, a6, a7]) :
    w.cell? ⟨g, 0, none⟩ = some a0 ∧ w.cell? ⟨g, 1, none⟩ = some a1 ∧ w.cell? ⟨g, 2, none⟩ = some a2 ∧ w.cell? ⟨g, 3, none⟩ = some a3 ∧ w.cell? ⟨g, 4, none⟩ = some a4 ∧ w.cell? ⟨g, 5, none⟩ = some a5 ∧ w.cell? ⟨g, 6, none⟩ = some a6 ∧ w.cell? ⟨g, 7, none⟩ = some a7 := by
  refine ⟨?_, ?_, ?_, ?_, ?_, ?_, ?_, ?_⟩ <;> (rw [h.cell]; rfl)
def worldV (s : SetM) (SA : Option Addr) (n c : Nat) (RA : Option Addr) (rn rc : Nat) : Array Value := #[.int .i64 s.live, .int .i64 s.ring, .int .i64 s.win, .int .i64 s.out, .int .i64 s.quantum, .int .i64 s.visits, .slice SA n c, .slice RA rn rc]
theorem list8 {α : Type} {l : List α} {a b c d e f g h : α} (hl : l.length = 8) (h0 : l[0]? = some a) (h1 : l[1]? = some b) (h2 : l[2]? = some c) (h3 : l[3]? = some d) (h4 : l[4]? = some e) (h5 : l[5]? = some f) (h6 : l[6]? = some g) (h7 : l[7]? = some h) : l = [a, b, c, d, e, f, g, h] := by
  match l, hl with
  | [x0, x1, x2, x3, x4, x5, x6, x7], _ => simp at h0 h1 h2 h3 h4 h5 h6 h7; rw [h0, h1, h2, h3, h4, h5, h6, h7]
theorem take6 {α : Type} {l : List α} {n0 n1 n2 n3 n4 n5 : α} (h : (l.drop 0).take 6 = [n0, n1, n2, n3, n4, n5]) : l[0]? = some n0 ∧ l[1]? = some n1 ∧ l[2]? = some n2 ∧ l[3]? = some n3 ∧ l[4]? = some n4 ∧ l[5]? = some n5 := by
  have e : ∀ i, i < 6 → l[i]? = [n0, n1, n2, n3, n4, n5][i]? := by
    intro i hi
    rw [← h, List.drop_zero, List.getElem?_take, if_pos hi]
  exact ⟨e 0 (by omega), e 1 (by omega), e 2 (by omega), e 3 (by omega), e 4 (by omega), e 5 (by omega)⟩
set_option maxRecDepth 100000 in
theorem open_world {H : Type} {enc : TypeId × Value → H} {w : World} {v : Value} {d : DataW H} {p : List MemPlace} {r : Reach} {b0 : Nat} (hv : Value.okWide Tryz.prog w r b0 37 v) (h : DataW.Trod enc Tryz.prog w 0 (fun _ => true) true 37 v d p) :
    ∃ (s : SetM) (SA : Option Addr) (Ps : List PrV) (sc : Nat) (RA : Option Addr) (rn rc : Nat), v = .agg (worldV s SA Ps.length sc RA rn rc) ∧ PrsRd w NoBlk SA Ps ∧ Ps.length ≤ maxLen ∧ ∀ v ∈ Ps, PrSz v ∧ ∀ o ∈ v.L, o.o.n ≤ 9223372036854775807 := by
  obtain ⟨cs, rfl, hsz⟩ := okWide_struct Tryz.underlying37 hv
  obtain ⟨fuel, hf0⟩ := h
  obtain ⟨ys, n, _, _, hl, hyl0, hf⟩ := DataW.trod_struct Tryz.underlying37 hf0
  have hC : Tryz.prog.cellsOf 37 = 8 := by kernel_rfl
  rw [hC] at hl
  have hl8 : cs.toList.length = 8 := hl
  have hyl : ys.length = 3 := hyl0
  have c0 : Tryz.prog.cellsOf 33 = 6 := by kernel_rfl
  have c1 : Tryz.prog.cellsOf 34 = 1 := by kernel_rfl
  have c2 : Tryz.prog.cellsOf 35 = 1 := by kernel_rfl
  have g0 : DataW.trod enc Tryz.prog w 0 (fun _ => true) true n 33 ((cs.toList.drop 0).take (Tryz.prog.cellsOf 33)) = ys[0]? := hf 0 _ rfl
  have g1 : DataW.trod enc Tryz.prog w 0 (fun _ => true) true n 34 ((cs.toList.drop 6).take (Tryz.prog.cellsOf 34)) = ys[1]? := hf 1 _ rfl
  have g2 : DataW.trod enc Tryz.prog w 0 (fun _ => true) true n 35 ((cs.toList.drop 7).take (Tryz.prog.cellsOf 35)) = ys[2]? := hf 2 _ rfl
  rw [c0, List.getElem?_eq_getElem (by omega)] at g0
  rw [c1, List.getElem?_eq_getElem (by omega)] at g1
  rw [c2, List.getElem?_eq_getElem (by omega)] at g2
  obtain ⟨hl6, hc⟩ := all_ints_wf (fs := _) Tryz.underlying33 (by kernel_rfl) (by kernel_rfl) (by
    intro j f hf
    rcases j with _ | _ | _ | _ | _ | _ | j
    · injection hf with hf; subst hf; exact Tryz.underlying3
    · injection hf with hf; subst hf; exact Tryz.underlying3
    · injection hf with hf; subst hf; exact Tryz.underlying3
    · injection hf with hf; subst hf; exact Tryz.underlying3
    · injection hf with hf; subst hf; exact Tryz.underlying3
    · injection hf with hf; subst hf; exact Tryz.underlying3
    · simp at hf) g0
  obtain ⟨n0, e0, _⟩ := hc 0 (by decide)
  obtain ⟨n1, e1, _⟩ := hc 1 (by decide)
  obtain ⟨n2, e2, _⟩ := hc 2 (by decide)
  obtain ⟨n3, e3, _⟩ := hc 3 (by decide)
  obtain ⟨n4, e4, _⟩ := hc 4 (by decide)
  obtain ⟨n5, e5, _⟩ := hc 5 (by decide)
  obtain ⟨k0, k1, k2, k3, k4, k5⟩ := take6 (list6 hl6 e0 e1 e2 e3 e4 e5)
  obtain ⟨u6, hu6⟩ : ∃ u, cs.toList[6]? = some u := ⟨cs.toList[6]'(by omega), List.getElem?_eq_getElem _⟩
  obtain ⟨u7, hu7⟩ : ∃ u, cs.toList[7]? = some u := ⟨cs.toList[7]'(by omega), List.getElem?_eq_getElem _⟩
  have t6 : (cs.toList.drop 6).take 1 = [u6] := by
    obtain ⟨h6, e6⟩ := List.getElem?_eq_some_iff.1 hu6
    rw [List.drop_eq_getElem_cons h6, e6]; rfl
  have t7 : (cs.toList.drop 7).take 1 = [u7] := by
    obtain ⟨h7, e7⟩ := List.getElem?_eq_some_iff.1 hu7
    rw [List.drop_eq_getElem_cons h7, e7]; rfl
  rw [t6] at g1
  rw [t7] at g2
  have hv6 := slice_of_cell Tryz.underlying34 g1
  obtain ⟨SA, np, sc, xs, hv', hl4, hnc, hcm, hr, hq, _⟩ := open_rows (sz := 4) (Q := fun cs => ∃ a : PrV, cs = encPr a ∧ PrOk w a) Tryz.underlying34 (by kernel_rfl) (by omega) hv6 (trod_of_cell hv6 g1) (fun fuel cs x hx => prv_of hx)
  obtain ⟨Ps, hxl, hok⟩ := exists_map (enc := encPr) xs (fun x hx => (hq x hx).2)
  subst hxl
  have hln : Ps.length = np := by simpa using hl4
  subst hln
  obtain ⟨RA, rn, rc, hv7⟩ := slice_of_cell Tryz.underlying35 g2
  refine ⟨⟨n0, n1, n2, n3, n4, n5⟩, SA, Ps, sc, RA, rn, rc, ?_, ⟨hr, fun v hv => (hok v hv).1⟩, Nat.le_trans hnc hcm, fun v hv => (hok v hv).2⟩
  have hq2 := list8 (l := cs.toList) (by omega) k0 k1 k2 k3 k4 k5 hu6 hu7
  rw [hv', hv7] at hq2
  obtain ⟨l⟩ := cs
  simp only at hq2
  rw [hq2]
  rfl
end Go.Proofs.YtdmdohjdmnmabaaGreat
namespace Go.Proofs.YtdmdohjdmnmabaaGreat
open Go.RowKit
set_option linter.unusedVariables false
set_option linter.unusedSimpArgs false

theorem ordS_congr {Ps Qs : List PrV} (h : Ps.map prM = Qs.map prM) (l : List Ev) (id : Int) : ordS Ps l id = ordS Qs l id := by
  unfold ordS scrO
  rw [scrB_congr h]
  simp only [prAt_map h]
set_option maxRecDepth 100000 in
set_option maxHeartbeats 25600000 in
theorem SendsOrder_walk (s : SetM) (SA : Option Addr) (Ps : List PrV) (sc : Nat) (RA : Option Addr) (rn rc : Nat) (A : Option Addr) (c : Nat) (l : List Ev) (id : Int) (w : World) (hs : PrsRd w NoBlk SA Ps) (hsn : Ps.length ≤ maxLen) (hsz : ∀ v ∈ Ps, PrSz v) (hr : Rd w NoBlk A (flat encEv l)) (hn : l.length ≤ maxLen) :
    Calls Tryz.prog 7 #[.agg (worldV s SA Ps.length sc RA rn rc), .slice A l.length c, .int .i64 id] w fun e w' => e = .returned (.bool true) ∧ Only NoBlk w w' := by
  have HFew0 := hide (fun (w' : World) (k : Only NoBlk w w') => Few_c NoBlk A c l 18 w' (hr.only k (fun _ h => h)) hn (by omega) (fun k h => h.elim))
  have HScr0 := hide (fun (w' : World) (k : Only NoBlk w w') => Scripts_c SA sc Ps w' (hs.only k (fun _ h => h)) hsn hsz)
  have hle := few_le l 18
  have htx := few_texts l 18
  have hid := fewL_idem l 18
  obtain ⟨FL, hFL⟩ : ∃ FL, FL = fewL l 18 := ⟨_, rfl⟩
  rw [← hFL] at HFew0 hle htx hid
  obtain ⟨X, hX⟩ : ∃ X, X = scrM (Ps.map prM) := ⟨_, rfl⟩
  have HXX := hide (show scrM X = X by rw [hX]; exact scrM_idem _)
  have HXl := hide (show X.length ≤ 4 by rw [hX]; exact scrM_len _)
  rw [← hX] at HScr0
  have HTx := hide htx
  have HId := hide hid
  obtain ⟨np, hnp⟩ : ∃ np, np = Ps.length := ⟨_, rfl⟩
  rw [← hnp] at HScr0 ⊢
  obtain ⟨n0, hn0⟩ : ∃ n0, n0 = l.length := ⟨_, rfl⟩
  rw [← hn0] at HFew0 ⊢
  have H18 : ((18 : Nat) : Int) = 18 := rfl
  obtain ⟨W, hW⟩ : ∃ W, W = w.alloc (.cells #[.int .i64 s.live, .int .i64 s.ring, .int .i64 s.win, .int .i64 s.out, .int .i64 s.quantum, .int .i64 s.visits, .slice SA np sc, .slice RA rn rc] 37) := ⟨_, rfl⟩
  have HO := hide (show Only NoBlk w W by rw [hW]; exact (Only.refl _ _).alloc _)
  have HBw := hide (show Blk W w.heap.size 37 #[.int .i64 s.live, .int .i64 s.ring, .int .i64 s.win, .int .i64 s.out, .int .i64 s.quantum, .int .i64 s.visits, .slice SA np sc, .slice RA rn rc] by rw [hW]; exact Blk.new _ _ _)
  have HW := hide hW
  clear hs hsn hsz hr hn hFL hX hnp hn0 htx hid hW H18
  go_enter Tryz.func7, Tryz.ntmps7
  go_upto_region 1 with fail
  change Code.wp _ _ _ _ (w.alloc (.cells #[.int .i64 s.live, .int .i64 s.ring, .int .i64 s.win, .int .i64 s.out, .int .i64 s.quantum, .int .i64 s.visits, .slice SA np sc, .slice RA rn rc] 37))
  rw [← HW.out]
  go_wp2_with fail
  refine (HFew0.out _ HO.out).mono ?_
  rintro e w1 ⟨A1, c1, rfl, rd1, hb1, hcap⟩
  have HR1 := hide rd1
  have HO1 := hide (HO.out.trans (Only.of_below hb1 NoBlk))
  have HBw1 := hide (HBw.out.below hb1)
  have HCap := hide hcap
  clear rd1 hb1 hcap
  obtain ⟨a0, a1, a2, a3, a4, a5, a6, a7⟩ := HBw1.out.eight8
  go_wp2_with fail
  refine (HScr0.out _ HO1.out).mono ?_
  rintro e w2 ⟨⟨B2, c2, Qs, rfl, hQM, hQr, hQz, hQc⟩, hb2⟩
  have HQM := hide hQM
  have HQr := hide (hQr.mono (M' := NoBlk) (fun _ h => h.elim))
  have HQz := hide hQz
  have HQl := hide (show Qs.length ≤ 4 by have h1 := HXl.out; rw [← hQM, List.length_map] at h1; exact h1)
  have HO2 := hide (HO1.out.trans (Only.of_below hb2 NoBlk))
  have HR2 := hide (HR1.out.below hb2)
  have HBw2 := hide (HBw1.out.below hb2)
  clear hQM hQr hQz hQc hb2 a0 a1 a2 a3 a4 a5 a6 a7
  have hQl4 := HQl.out
  have HScr := hide (fun (w' : World) (k : Only NoBlk w2 w') => show Calls Tryz.prog 14 #[.slice B2 Qs.length c2] w' fun e w'' => (∃ B c3 Rs, e = .returned (.slice B (List.length Rs) c3) ∧ Rs.map prM = Qs.map prM ∧ PrsRd w'' (· < w'.heap.size) B Rs ∧ (∀ v ∈ Rs, PrSz v) ∧ Rs.length ≤ c3) ∧ Below w'.heap.size w' w'' from by
    have h := Scripts_c B2 c2 Qs w' (HQr.out.only k (fun _ h => h)) (by simp only [maxLen]; omega) HQz.out
    rw [HQM.out, HXX.out] at h
    rw [HQM.out]
    exact h)
  have HFew := hide (fun (w' : World) (k : Only NoBlk w2 w') => show Calls Tryz.prog 13 #[.slice A1 FL.length c1, .int .i64 (18 : Nat)] w' (RetEvs NoBlk FL w') from by
    have h := Few_c NoBlk A1 c1 FL 18 w' (HR2.out.only k (fun _ h => h)) (by unfold maxLen; omega) (by omega) (fun k h => h.elim)
    rw [HId.out] at h
    exact h)
  obtain ⟨O, hO⟩ : ∃ O, O = ordS Qs FL id := ⟨_, rfl⟩
  have HRef := hide (fun (w' : World) (k : Only NoBlk w2 w') => refOrder_c B2 c2 Qs A1 c1 FL id w' (HQr.out.only k (fun _ h => h)) (by simp only [maxLen]; omega) HQz.out (HR2.out.only k (fun _ h => h)) (by omega) (fun x hx => Nat.le_trans (HTx.out x hx) (by omega)))
  have HPOf := hide (fun (Rs : List PrV) (B : Option Addr) (c3 : Nat) (A4 : Option Addr) (c4 : Nat) (w' : World) (hM : Rs.map prM = Qs.map prM) (h1 : PrsRd w' NoBlk B Rs) (h2 : ∀ v ∈ Rs, PrSz v) (h3 : Rd w' NoBlk A4 (flat encEv FL)) (h4 : FL.length ≤ c4) => show Calls Tryz.prog 36 #[.slice B Rs.length c3, .slice A4 FL.length c4, .int .i64 id] w' fun e w'' => e = .returned (.tuple #[.string O.1, .bool O.2]) ∧ Only NoBlk w' w'' from by
    have hl : Rs.length = Qs.length := by have := congrArg List.length hM; simpa using this
    have h := sOrder_c B c3 Rs A4 c4 FL id w' h1 (by simp only [maxLen]; omega) h2 h3 (by omega) (fun x hx => Nat.le_trans (HTx.out x hx) (by omega)) h4
    rw [ordS_congr hM, ← hO] at h
    exact h)
  rw [← hO] at HRef
  have HLives := hide (fun w' => lives36_c w')
  obtain ⟨fn, hfn⟩ : ∃ fn, fn = FL.length := ⟨_, rfl⟩
  rw [← hfn] at HFew HRef HPOf HCap hle
  rw [← hfn]
  obtain ⟨qn, hqn⟩ : ∃ qn, qn = Qs.length := ⟨_, rfl⟩
  rw [← hqn] at HScr HRef hQl4
  rw [← hqn]
  have HFn := hide hfn
  have HO4 := hide (Only.refl NoBlk w2)
  have HBw4 := hide HBw2.out
  obtain ⟨Os, Ob⟩ := O
  simp only at HRef HPOf
  clear hO hfn hqn
  go_wp2_with fail
  refine (HScr.out _ HO4.out).mono ?_
  rintro e ws5 ⟨⟨B5, bc5, Rs5, rfl, hM5, hr5, hz5, _⟩, hb5⟩
  have HM5 := hide hM5
  have HZ5 := hide hz5
  have HOa5 := hide (HO4.out.trans (Only.of_below hb5 NoBlk))
  have HPs5 := hide (hr5.mono (M' := NoBlk) (fun _ h => h.elim))
  clear hM5 hr5 hz5 hb5
  go_wp2_with fail
  refine (HFew.out _ HOa5.out).mono ?_
  rintro e wf5 ⟨A5, ac5, he5, rf5, hbf5, hcf5⟩
  rw [← HFn.out] at he5 hcf5
  subst he5
  have HRf5 := hide rf5
  have HCf5 := hide hcf5
  have HOb5 := hide (HOa5.out.trans (Only.of_below hbf5 NoBlk))
  have HPb5 := hide (HPs5.out.below hbf5)
  clear rf5 hbf5 hcf5
  go_wp2_with fail
  refine (HPOf.out Rs5 B5 bc5 A5 ac5 _ HM5.out HPb5.out HZ5.out HRf5.out HCf5.out).mono ?_
  rintro e w6 ⟨rfl, ho6⟩
  have HO6 := hide (HOb5.out.trans ho6)
  clear ho6
  go_wp2_with fail
  refine (HRef.out _ HO6.out).mono ?_
  rintro e w7 ⟨rfl, hb7⟩
  have HO7 := hide (HO6.out.trans (Only.of_below hb7 NoBlk))
  clear hb7
  have es : (Os.toList == Os.toList) = true := by simp
  have eb : (Ob == Ob) = true := by simp
  go_wp2_with fail
  refine (HLives.out _).mono ?_
  rintro e w8 ⟨rfl, ho8⟩
  have HO8 := hide (HO7.out.trans ho8)
  clear ho8
  go_wp2_with fail
  go_ret
  exact ⟨rfl, HO2.out.trans HO8.out⟩

end Go.Proofs.YtdmdohjdmnmabaaGreat
