/- The waits that took too long, by the program. Conditions: those of each theorem. -/
import Derived.Test.YtdmdohjdmnmabaaGreatQw50
import Derived.Test.YtdmdohjdmnmabaaGreatQw34
namespace Go.Proofs.YtdmdohjdmnmabaaGreat
open Go.RowKit
set_option linter.unusedVariables false
set_option linter.unusedSimpArgs false

/-- within its bound -/
def waitOk (s : SetM) (each last : Int) (x : WtM) : Bool := (decide (untilS s x.until_ each = 9223372036854775807) || decide (last < untilS s x.until_ each)) || (x.done && decide (x.at_ < untilS s x.until_ each))
def lateWt (s : SetM) (Ps : List PrV) (l : List Ev) (each : Int) : List WtM := if goodB s = true ∧ 1 ≤ each then keepL (waitOk s each (clockOf 0 l)) (waitsM Ps l) else []
theorem addT_le3 (a b : Int) : addT a b ≤ 9223372036854775807 := by unfold addT; split <;> omega
theorem beginW_u (p : ProgM) (id op now : Int) : (beginW p id op now).until_ ≤ 9223372036854775807 := by
 unfold beginW
 split
 ·show untilM _ _ ≤ _
  unfold untilM
  split
  ·omega
  ·exact addT_le3 _ _
 ·show (0 : Int) ≤ _
  omega
theorem wk_u (p : ProgM) (id : Int) : ∀ (S : List Stp) (f : WkM), f.w.until_ ≤ 9223372036854775807 → (∀ y ∈ f.out, y.until_ ≤ 9223372036854775807) → (S.foldl (wkStep p id) f).w.until_ ≤ 9223372036854775807 ∧ ∀ y ∈ (S.foldl (wkStep p id) f).out, y.until_ ≤ 9223372036854775807 := by
 intro S
 induction S with
 | nil => intro f h1 h2; exact ⟨h1, h2⟩
 | cons x r ih =>
  intro f h1 h2
  have e : (wkStep p id f x).w.until_ ≤ 9223372036854775807 ∧ ∀ y ∈ (wkStep p id f x).out, y.until_ ≤ 9223372036854775807 := by
   unfold wkStep
   split
   ·exact ⟨h1, h2⟩
   ·refine ⟨beginW_u _ _ _ _, ?_⟩
    simp only
    split
    ·intro y hy
     rcases List.mem_append.1 hy with hy | hy
     ·exact h2 y hy
     ·rw [List.mem_singleton.1 hy]; exact h1
    ·exact h2
  exact ih _ e.1 e.2
theorem lifeW_u (p : ProgM) (id st : Int) (S : List Stp) : ∀ y ∈ lifeW p id st S, y.until_ ≤ 9223372036854775807 := by
 obtain ⟨h1, h2⟩ := wk_u p id S (wk0 p id st) (beginW_u _ _ _ _) (by intro y hy; simp [wk0] at hy)
 unfold lifeW wkEnd
 split
 ·intro y hy
  rcases List.mem_append.1 hy with hy | hy
  ·exact h2 y hy
  ·rw [List.mem_singleton.1 hy]; exact h1
 ·exact h2
theorem waitsM_u {Ps : List PrV} {l : List Ev} {x : WtM} (h : x ∈ waitsM Ps l) : x.until_ ≤ 9223372036854775807 := by
 unfold waitsM perM at h
 obtain ⟨id, _, h⟩ := List.mem_flatMap.1 h
 split at h
 ·exact lifeW_u _ _ _ _ _ h
 ·cases h
theorem waitsM_len (Ps : List PrV) (l : List Ev) (hx : ∀ x ∈ l, x.s.size ≤ 100) (hl : l.length ≤ 900) : (waitsM Ps l).length ≤ 1000000 := by
 have h := per_len Ps l (waitsP l) (l.length + 1) (fun v id => waits_le l hx v id) (idsL l)
 have h2 := ids_le l
 have h3 : (idsL l).length * (l.length + 1) ≤ 900 * 901 := Nat.mul_le_mul (by omega) (by omega)
 unfold waitsM
 omega
set_option maxRecDepth 100000 in
set_option maxHeartbeats 6400000 in
theorem latewt_c (s : SetM) (x : WtM) (each last : Int) (sb wb lb : Nat) (w : World) (hg : goodB s = true) (hu : x.until_ ≤ 9223372036854775807) (he : each ≤ 9223372036854775807) (hb1 : Blk w sb 33 (setV s)) (hb2 : w.cell? ⟨wb, 0, none⟩ = some (.int .i64 each)) (hb3 : w.cell? ⟨lb, 0, none⟩ = some (.int .i64 last)) (hwl : wb < w.heap.size) (hll : lb < w.heap.size) :
 Calls Tryz.prog 59 #[.agg #[.int .i64 x.id, .int .i64 x.op, .int .i64 x.from_, .int .i64 x.until_, .bool x.done, .int .i64 x.at_, .int .i64 x.what], .pointer (some ⟨sb, 0, none⟩), .pointer (some ⟨wb, 0, none⟩), .pointer (some ⟨lb, 0, none⟩)] w fun e w' => e = .returned (.bool (waitOk s each last x)) ∧ Below w.heap.size w w' := by
 have HQ := hide (show waitOk s each last x = ((decide (untilS s x.until_ each = 9223372036854775807) || decide (last < untilS s x.until_ each)) || (x.done && decide (x.at_ < untilS s x.until_ each))) from rfl)
 have HBd := hide (fun w' => wbound_c s x each w' hg (waitS_le hg) hu he)
 obtain ⟨b, hb⟩ : ∃ b, b = untilS s x.until_ each := ⟨_, rfl⟩
 rw [← hb] at HQ HBd
 obtain ⟨T, hT⟩ : ∃ T, T = waitOk s each last x := ⟨_, rfl⟩
 rw [← hT] at HQ ⊢
 obtain ⟨W, hW⟩ : ∃ W, W = w.alloc (.cells #[.int .i64 x.id, .int .i64 x.op, .int .i64 x.from_, .int .i64 x.until_, .bool x.done, .int .i64 x.at_, .int .i64 x.what] 84) := ⟨_, rfl⟩
 have HL := hide (show Below w.heap.size w W by rw [hW]; exact below_alloc _ _)
 have HB := hide (show Blk W w.heap.size 84 #[.int .i64 x.id, .int .i64 x.op, .int .i64 x.from_, .int .i64 x.until_, .bool x.done, .int .i64 x.at_, .int .i64 x.what] by rw [hW]; exact Blk.new _ _ _)
 have HS := hide (show Blk W sb 33 (setV s) by rw [hW]; exact hb1.alloc _)
 have HC2 := hide (show W.cell? ⟨wb, 0, none⟩ = some (.int .i64 each) from bkeepL HL.out hwl hb2)
 have HC3 := hide (show W.cell? ⟨lb, 0, none⟩ = some (.int .i64 last) from bkeepL HL.out hll hb3)
 have hlW : lb < W.heap.size := Nat.lt_of_lt_of_le hll HL.out.size
 have HW := hide hW
 clear hb hT hW hb1 hb2 hb3 hwl hll hg hu he
 go_enter Tryz.func59, Tryz.ntmps59
 go_upto_region 1 with fail
 change Code.wp _ _ _ _ (w.alloc (.cells #[.int .i64 x.id, .int .i64 x.op, .int .i64 x.from_, .int .i64 x.until_, .bool x.done, .int .i64 x.at_, .int .i64 x.what] 84))
 rw [← HW.out]
 obtain ⟨x0, x1, x2, x3, x4, x5, x6⟩ := HB.out.cellsWt
 obtain ⟨y0, y1, y2, y3, y4, y5⟩ := HS.out.six
 have c2 := HC2.out
 go_wp2_with fail
 refine (HBd.out _).mono ?_
 rintro e w2 ⟨rfl, hb2⟩
 have HB2 := hide (HL.out.trans (hb2.mono HL.out.size))
 have HX2 := hide (HB.out.below hb2)
 have HC32 := hide (bkeepL hb2 hlW HC3.out)
 clear hb2 x0 x1 x2 x3 x4 x5 x6 y0 y1 y2 y3 y4 y5 c2
 obtain ⟨x0, x1, x2, x3, x4, x5, x6⟩ := HX2.out.cellsWt
 have c3 := HC32.out
 by_cases h0 : b = 9223372036854775807
 ·have q0 : (b == 9223372036854775807) = true := by simp [h0]
  have HQ2 := hide (show T = true by rw [HQ.out, show decide (b = 9223372036854775807) = true by simp [h0]]; rfl)
  clear h0
  go_wp2_with fail
  go_ret
  exact ⟨by rw [HQ2.out]; rfl, HB2.out⟩
 ·have q0 : (b == 9223372036854775807) = false := by simp [h0]
  by_cases h1 : last < b
  ·have q1 : decide (last < b) = true := by simp [h1]
   have HQ2 := hide (show T = true by rw [HQ.out, q1]; simp)
   clear h0 h1
   go_wp2_with fail
   go_ret
   exact ⟨by rw [HQ2.out]; rfl, HB2.out⟩
  ·have q1 : decide (last < b) = false := by simpa using h1
   have HQ1 := hide (show T = (x.done && decide (x.at_ < b)) by rw [HQ.out, q1, show decide (b = 9223372036854775807) = false by simp [h0]]; rfl)
   clear h0 h1
   cases hd : x.done with
   | false =>
    rw [hd] at x4
    have HQ2 := hide (show T = false by rw [HQ1.out, hd]; rfl)
    clear hd
    go_wp2_with fail
    go_ret
    exact ⟨by rw [HQ2.out]; rfl, HB2.out⟩
   | true =>
    rw [hd] at x4
    have HQ2 := hide (show T = decide (x.at_ < b) by rw [HQ1.out, hd]; rfl)
    clear hd
    by_cases h2 : x.at_ < b
    ·have q2 : decide (x.at_ < b) = true := by simp [h2]
     have HQ3 := hide (HQ2.out.trans q2)
     clear h2
     go_wp2_with fail
     go_ret
     exact ⟨by rw [HQ3.out]; rfl, HB2.out⟩
    ·have q2 : decide (x.at_ < b) = false := by simpa using h2
     have HQ3 := hide (HQ2.out.trans q2)
     clear h2
     go_wp2_with fail
     go_ret
     exact ⟨by rw [HQ3.out]; rfl, HB2.out⟩
set_option maxRecDepth 100000 in
set_option maxHeartbeats 6400000 in
theorem wLate_c (s : SetM) (SA : Option Addr) (sc : Nat) (Ps : List PrV) (A : Option Addr) (c : Nat) (l : List Ev) (each : Int) (w : World) (he : each ≤ 9223372036854775807) (hs : PrsRd w NoBlk SA Ps) (hsn : Ps.length ≤ maxLen) (hsz : ∀ v ∈ Ps, PrSz v) (hnn : ∀ v ∈ Ps, PrNn v) (hr : Rd w NoBlk A (flat encEv l)) (hn : l.length ≤ 900) (hx : ∀ x ∈ l, x.s.size ≤ 100) (htk : TkOk l) (hlc : l.length ≤ c) :
 Calls Tryz.prog 28 #[.agg (setV s), .slice SA Ps.length sc, .slice A l.length c, .int .i64 each] w fun e w' => (∃ A1 c1, e = .returned (.slice A1 (lateWt s Ps l each).length c1) ∧ Rd w' NoBlk A1 (flat encWt (lateWt s Ps l each))) ∧ Only NoBlk w w' := by
 have HPr := hide (fun (w' : World) (k : Only NoBlk w w') => waitsof_c SA sc Ps A c l w' (hs.only k (fun _ h => h)) hsn hsz hnn (hr.only k (fun _ h => h)) (by omega) hx htk hlc)
 have HLst := hide (fun (w' : World) (k : Only NoBlk w w') => last_c NoBlk A c l w' (hr.only k (fun _ h => h)) (by omega))
 have HSm := hide (fun (x : WtM) (h : x ∈ waitsM Ps l) => waitsM_u h)
 have HLen := hide (waitsM_len Ps l hx hn)
 have HQ0 := hide (show lateWt s Ps l each = if goodB s = true ∧ 1 ≤ each then keepL (waitOk s each (clockOf 0 l)) (waitsM Ps l) else [] from rfl)
 obtain ⟨TT, hTT⟩ : ∃ TT, TT = lateWt s Ps l each := ⟨_, rfl⟩
 rw [← hTT] at HQ0 ⊢
 obtain ⟨n, hnl⟩ : ∃ n, n = l.length := ⟨_, rfl⟩
 obtain ⟨np, hnp⟩ : ∃ np, np = Ps.length := ⟨_, rfl⟩
 obtain ⟨cl, hcl⟩ : ∃ cl, cl = clockOf 0 l := ⟨_, rfl⟩
 rw [← hnl, ← hnp] at HPr
 rw [← hnl, ← hcl] at HLst
 rw [← hcl] at HQ0
 rw [← hnl, ← hnp]
 have HGd := hide (fun w' => cGood_c s w')
 obtain ⟨gd, hgd⟩ : ∃ gd, gd = goodB s := ⟨_, rfl⟩
 have Hgd := hide hgd
 rw [← hgd] at HGd HQ0
 obtain ⟨W, hW⟩ : ∃ W, W = (w.alloc (.cells (setV s) 33)).alloc (.cells #[.int .i64 each] 2) := ⟨_, rfl⟩
 have HO := hide (show Only NoBlk w W by rw [hW]; exact ((Only.refl _ _).alloc _).alloc _)
 have HBs := hide (show Blk W w.heap.size 33 (setV s) by rw [hW]; exact (Blk.new _ _ _).alloc _)
 have HBw := hide (show Blk W (w.heap.size + 1) 2 #[.int .i64 each] by rw [hW]; exact Blk.new' (by simp))
 have HW := hide hW
 have He := hide he
 clear hs hsn hsz hnn hr hn hx htk hlc hTT hnl hnp hcl hgd hW he
 go_enter Tryz.func28, Tryz.ntmps28
 go_upto_region 1 with fail
 change Code.wp _ _ _ _ ((w.alloc (.cells (setV s) 33)).alloc (.cells #[.int .i64 each] 2))
 rw [← HW.out]
 obtain ⟨y0, y1, y2, y3, y4, y5⟩ := HBs.out.six
 go_wp2_with fail
 refine (HGd.out _).mono ?_
 rintro e W2 ⟨rfl, hb2⟩
 have HO2 := hide (HO.out.trans (Only.of_below hb2 NoBlk))
 have HBs2 := hide (HBs.out.below hb2)
 have HBw2 := hide (HBw.out.below hb2)
 have c2 : W2.cell? ⟨w.heap.size + 1, 0, none⟩ = some (.int .i64 each) := by rw [HBw2.out.cell]; rfl
 clear y0 y1 y2 y3 y4 y5 hb2 HO HBs HBw
 cases gd with
 | false =>
  have HT2 := hide (show TT = [] by rw [HQ0.out]; simp)
  clear HQ0
  go_wp2_with fail
  go_ret
  exact ⟨⟨none, 0, by rw [HT2.out]; rfl, by rw [HT2.out]; exact Rd.nil⟩, HO2.out⟩
 | true =>
  by_cases h1 : each < 1
  case pos =>
   have q1 : decide (each < 1) = true := by simp [h1]
   have HT2 := hide (show TT = [] by rw [HQ0.out, if_neg (by omega)])
   clear HQ0 h1
   go_wp2_with fail
   go_ret
   exact ⟨⟨none, 0, by rw [HT2.out]; rfl, by rw [HT2.out]; exact Rd.nil⟩, HO2.out⟩
  case neg =>
   have q1 : decide (each < 1) = false := by simpa using h1
   have HQ := hide (show TT = keepL (waitOk s each cl) (waitsM Ps l) by rw [HQ0.out, if_pos ⟨rfl, by omega⟩])
   clear HQ0 h1
   go_upto_region 3 with fail
   go_wp2_with fail
   refine (HLst.out _ HO2.out).mono ?_
   rintro e w1 ⟨rfl, hb1⟩
   have HO1 := hide (HO2.out.trans (Only.of_below hb1 NoBlk))
   have HBs1 := hide (HBs2.out.below hb1)
   have HBw1 := hide (HBw2.out.below hb1)
   clear hb1 c2
   go_upto_region 4 with fail
   obtain ⟨W3, hW3⟩ : ∃ W3, W3 = w1.alloc (.cells #[.int .i64 cl] 2) := ⟨_, rfl⟩
   obtain ⟨mb, hmb⟩ : ∃ mb, mb = w1.heap.size := ⟨_, rfl⟩
   have HO3 := hide (show Only NoBlk w W3 by rw [hW3]; exact HO1.out.alloc _)
   have HMb := hide (show Blk W3 mb 2 #[.int .i64 cl] by rw [hW3, hmb]; exact Blk.new _ _ _)
   have HBs3 := hide (show Blk W3 w.heap.size 33 (setV s) by rw [hW3]; exact HBs1.out.alloc _)
   have HBw3 := hide (show Blk W3 (w.heap.size + 1) 2 #[.int .i64 each] by rw [hW3]; exact HBw1.out.alloc _)
   rw [← hW3, ← hmb]
   clear hW3 hmb
   go_wp2_with fail
   refine (HPr.out _ HO3.out).mono ?_
   rintro e w4 ⟨⟨v, rfl, hown⟩, ho4⟩
   have HOw := hide hown
   have HO4 := hide (HO3.out.trans ho4)
   have HMb4 := hide (HMb.out.only ho4 (fun h => h))
   have HBs4 := hide (HBs3.out.only ho4 (fun h => h))
   have HBw4 := hide (HBw3.out.only ho4 (fun h => h))
   have hmlt : mb < W3.heap.size := HMb.out.lt
   have hslt : w.heap.size < W3.heap.size := HBs3.out.lt
   have hwlt : w.heap.size + 1 < W3.heap.size := HBw3.out.lt
   have HSz := hide ho4.size
   clear hown ho4
   have HDel := hide (DeleteWt_c W3.heap.size (fun w' => Blk w' mb 2 #[.int .i64 cl] ∧ Blk w' w.heap.size 33 (setV s) ∧ Blk w' (w.heap.size + 1) 2 #[.int .i64 each]) (waitOk s each cl) (.pointer (some ⟨w.heap.size, 0, none⟩)) (.pointer (some ⟨w.heap.size + 1, 0, none⟩)) (.pointer (some ⟨mb, 0, none⟩))
    (fun w1 w2 h k => ⟨h.1.only k (by show ¬ W3.heap.size ≤ mb; omega), h.2.1.only k (by show ¬ W3.heap.size ≤ w.heap.size; omega), h.2.2.only k (by show ¬ W3.heap.size ≤ w.heap.size + 1; omega)⟩) (waitsM Ps l)
    (fun w' x hxm h => latewt_c s x each cl w.heap.size (w.heap.size + 1) mb w' Hgd.out.symm (HSm.out x hxm) He.out h.2.1 (by rw [h.2.2.cell]; rfl) (by rw [h.1.cell]; rfl) h.2.2.lt h.1.lt) v w4 HSz.out ⟨HMb4.out, HBs4.out, HBw4.out⟩ HOw.out (by have := HLen.out; omega))
   obtain ⟨OA, oc, rfl, _⟩ := own_cap HOw.out
   obtain ⟨pn, hpn⟩ : ∃ pn, pn = (waitsM Ps l).length := ⟨_, rfl⟩
   rw [← hpn] at HDel ⊢
   rw [← HQ.out] at HDel
   clear hpn hmlt hslt hwlt
   go_wp2_with fail
   refine HDel.out.mono ?_
   rintro e w5 ⟨⟨A1, c1, rfl, hr5⟩, ho5⟩
   have HR5 := hide hr5
   have HO5 := hide (HO4.out.fresh ho5 (fun i _ h => Or.inr (Nat.le_trans HO3.out.size h)))
   clear hr5 ho5
   go_wp2_with fail
   go_ret
   exact ⟨⟨A1, c1, rfl, HR5.out⟩, HO5.out⟩
end Go.Proofs.YtdmdohjdmnmabaaGreat
