/- Parts of a chain of lemmas: Late36, RefSdB. Conditions: those of each theorem. -/
import Derived.Test.YtdmdohjdmnmabaaGreatQs50
import Derived.Test.YtdmdohjdmnmabaaGreatQs47
import Derived.Test.YtdmdohjdmnmabaaGreatQs33
namespace Go.Proofs.YtdmdohjdmnmabaaGreat
open Go.RowKit
set_option linter.unusedVariables false
set_option linter.unusedSimpArgs false

/-- within its bound -/
def sendOk (s : SetM) (write last : Int) (x : SdM) : Bool := (decide (boundS s x.long write = 0) || decide (last < x.from_ + boundS s x.long write)) || (x.done && decide (x.at_ ≤ x.from_ + boundS s x.long write))
def lastR (l : List Ev) : Int := ((clocksL l).length : Int) - 1
def lateSd (s : SetM) (Ps : List PrV) (l : List Ev) (write : Int) : List SdM := keepL (sendOk s write (lastR l)) (allS Ps l)
/-- how great it can be -/
structure SwSm2 (f : SwM) (k : Nat) : Prop where
  r0 : -1 ≤ f.round
  r1 : f.round ≤ k
  x0 : 0 ≤ f.x.from_
  x1 : f.x.from_ ≤ k
  o : ∀ y ∈ f.out, 0 ≤ y.from_ ∧ y.from_ ≤ k
theorem doneX_f (now : Int) (x : SdM) : (doneX now x).from_ = x.from_ := by unfold doneX; split <;> rfl
theorem writeX_f (now n : Int) (x : SdM) : (writeX now n x).from_ = x.from_ := by unfold writeX; split; rw [doneX_f]; rfl; rfl
theorem sm2_up {f : SwM} {k m : Nat} (h : SwSm2 f k) (hk : k ≤ m) : SwSm2 f m := ⟨h.r0, by have := h.r1; omega, h.x0, by have := h.x1; omega, fun y hy => by have := h.o y hy; omega⟩
theorem sm2_come {p : ProgM} {id op : Int} {f : SwM} {k : Nat} (h : SwSm2 f k) : SwSm2 (comeS p id op f) k := by
  unfold comeS
  split
  · refine ⟨h.r0, h.r1, ?_, ?_, h.o⟩
    · simp only [sendN, nowS]; omega
    · have := h.r1; simp only [sendN, nowS]; omega
  · exact h
theorem sm2_close {f : SwM} {k : Nat} (h : SwSm2 f k) : SwSm2 (closeS f) k := by
  refine ⟨h.r0, h.r1, h.x0, h.x1, ?_⟩
  unfold closeS
  simp only
  intro y hy
  split at hy
  · rcases List.mem_append.1 hy with hy | hy
    · exact h.o y hy
    · rw [List.mem_singleton.1 hy]; exact ⟨h.x0, h.x1⟩
  · exact h.o y hy
theorem sm2_done {f : SwM} {k : Nat} (h : SwSm2 f k) : SwSm2 (doneS f) k := ⟨h.r0, h.r1, by unfold doneS; simp only [doneX_f]; exact h.x0, by unfold doneS; simp only [doneX_f]; exact h.x1, h.o⟩
theorem sm2_see {p : ProgM} {id : Int} {f : SwM} {x : Ev} {k : Nat} (h : SwSm2 f k) : SwSm2 (seeS p id f x) (k + 1) := by
  have hu := sm2_up h (show k ≤ k + 1 by omega)
  unfold seeS
  split
  · exact ⟨by have := h.r0; simp only; omega, by have := h.r1; simp only; omega, h.x0, hu.x1, hu.o⟩
  · split
    · exact hu
    · split
      · exact sm2_come (f := { f with begun := true }) ⟨hu.r0, hu.r1, hu.x0, hu.x1, hu.o⟩
      · split
        · unfold writeS
          split
          · exact ⟨hu.r0, hu.r1, by simp only [writeX_f]; exact hu.x0, by simp only [writeX_f]; exact hu.x1, hu.o⟩
          · exact hu
        · split
          · unfold stepS
            split
            · exact hu
            · refine sm2_come (sm2_close ?_)
              split
              · exact sm2_done hu
              · exact hu
          · exact hu
theorem sm2_seen (p : ProgM) (id : Int) (l : List Ev) : ∀ k, k ≤ l.length → SwSm2 (seenS p id (l.take k)) k := by
  intro k
  induction k with
  | zero => intro _; exact ⟨by simp [seenS, sw0], by simp [seenS, sw0], by simp [seenS, sw0, sd0], by simp [seenS, sw0, sd0], by simp [seenS, sw0]⟩
  | succ k ih =>
    intro hk
    rw [seenS_succ p id l k (by omega)]
    exact sm2_see (ih (by omega))
theorem per_memS {β : Type} {Ps : List PrV} {l : List Ev} {one : PrV → Int → List β} {ids : List Int} {x : β} (h : x ∈ perM Ps l one ids) : ∃ v id, x ∈ one v id := by
  unfold perM at h
  obtain ⟨id, _, h⟩ := List.mem_flatMap.1 h
  split at h
  · exact ⟨_, id, h⟩
  · cases h
theorem allS_sm {Ps : List PrV} {l : List Ev} {x : SdM} (h : x ∈ allS Ps l) : 0 ≤ x.from_ ∧ x.from_ ≤ l.length := by
  obtain ⟨v, id, h⟩ := per_memS h
  unfold sendsP sendsM at h
  have hs := sm2_close (sm2_seen (prM v) id l l.length (Nat.le_refl _))
  rw [List.take_length] at hs
  exact hs.o x h
theorem allS_len (Ps : List PrV) (l : List Ev) (hl : l.length ≤ 900) : (allS Ps l).length ≤ 1000000 := by
  have h := per_len Ps l (sendsP l) (l.length + 1) (fun v id => sends_le (prM v) id l) (idsL l)
  have h2 := ids_le l
  have h3 : (idsL l).length * (l.length + 1) ≤ 900 * 901 := Nat.mul_le_mul (by omega) (by omega)
  unfold allS
  omega
set_option maxRecDepth 100000 in
set_option maxHeartbeats 6400000 in
theorem latesd_c (s : SetM) (x : SdM) (write last : Int) (sb wb lb : Nat) (w : World) (hb1 : Blk w sb 33 (setV s)) (hb2 : w.cell? ⟨wb, 0, none⟩ = some (.int .i64 write)) (hb3 : w.cell? ⟨lb, 0, none⟩ = some (.int .i64 last)) (hwl : wb < w.heap.size) (hll : lb < w.heap.size) (hf0 : 0 ≤ x.from_) (hf1 : x.from_ ≤ 1000) :
    Calls Tryz.prog 66 #[.agg #[.int .i64 x.id, .int .i64 x.op, .int .i64 x.long, .int .i64 x.from_, .int .i64 x.taken, .bool x.done, .int .i64 x.at_], .pointer (some ⟨sb, 0, none⟩), .pointer (some ⟨wb, 0, none⟩), .pointer (some ⟨lb, 0, none⟩)] w fun e w' => e = .returned (.bool (sendOk s write last x)) ∧ Below w.heap.size w w' := by
  have HQ := hide (show sendOk s write last x = ((decide (boundS s x.long write = 0) || decide (last < x.from_ + boundS s x.long write)) || (x.done && decide (x.at_ ≤ x.from_ + boundS s x.long write))) from rfl)
  have HBd := hide (fun w' => sbound_c s x write w')
  have hbd := boundS_bd s x.long write
  obtain ⟨b, hb⟩ : ∃ b, b = boundS s x.long write := ⟨_, rfl⟩
  rw [← hb] at HQ HBd hbd
  have w1 : IntKind.i64.wrap (x.from_ + b) = x.from_ + b := IntWalk.i64_in _ (by omega)
  obtain ⟨T, hT⟩ : ∃ T, T = sendOk s write last x := ⟨_, rfl⟩
  rw [← hT] at HQ ⊢
  obtain ⟨W, hW⟩ : ∃ W, W = w.alloc (.cells #[.int .i64 x.id, .int .i64 x.op, .int .i64 x.long, .int .i64 x.from_, .int .i64 x.taken, .bool x.done, .int .i64 x.at_] 109) := ⟨_, rfl⟩
  have HL := hide (show Below w.heap.size w W by rw [hW]; exact below_alloc _ _)
  have HB := hide (show Blk W w.heap.size 109 #[.int .i64 x.id, .int .i64 x.op, .int .i64 x.long, .int .i64 x.from_, .int .i64 x.taken, .bool x.done, .int .i64 x.at_] by rw [hW]; exact Blk.new _ _ _)
  have HS := hide (show Blk W sb 33 (setV s) by rw [hW]; exact hb1.alloc _)
  have HC2 := hide (show W.cell? ⟨wb, 0, none⟩ = some (.int .i64 write) from bkeepL HL.out hwl hb2)
  have HC3 := hide (show W.cell? ⟨lb, 0, none⟩ = some (.int .i64 last) from bkeepL HL.out hll hb3)
  have hlW : lb < W.heap.size := Nat.lt_of_lt_of_le hll HL.out.size
  have HW := hide hW
  clear hb hT hW hb1 hb2 hb3 hf0 hf1 hwl hll
  go_enter Tryz.func66, Tryz.ntmps66
  go_upto_region 1 with fail
  change Code.wp _ _ _ _ (w.alloc (.cells #[.int .i64 x.id, .int .i64 x.op, .int .i64 x.long, .int .i64 x.from_, .int .i64 x.taken, .bool x.done, .int .i64 x.at_] 109))
  rw [← HW.out]
  obtain ⟨x0, x1, x2, x3, x4, x5, x6⟩ := HB.out.sevenB
  obtain ⟨y0, y1, y2, y3, y4, y5⟩ := HS.out.six
  have c2 := HC2.out
  go_wp2_with fail
  refine (HBd.out _).mono ?_
  rintro e w2 ⟨rfl, hb2⟩
  have HB2 := hide (HL.out.trans (hb2.mono HL.out.size))
  have HX2 := hide (HB.out.below hb2)
  have HC32 := hide (bkeepL hb2 hlW HC3.out)
  clear hb2 x0 x1 x2 x3 x4 x5 x6 y0 y1 y2 y3 y4 y5 c2
  obtain ⟨x0, x1, x2, x3, x4, x5, x6⟩ := HX2.out.sevenB
  have c3 := HC32.out
  by_cases h0 : b = 0
  · have q0 : (b == 0) = true := by simp [h0]
    have HQ2 := hide (show T = true by rw [HQ.out, show decide (b = 0) = true by simp [h0]]; rfl)
    clear h0
    go_wp2_with fail
    go_ret
    exact ⟨by rw [HQ2.out]; rfl, HB2.out⟩
  · have q0 : (b == 0) = false := by simp [h0]
    by_cases h1 : last < x.from_ + b
    · have q1 : decide (last < x.from_ + b) = true := by simp [h1]
      have HQ2 := hide (show T = true by rw [HQ.out, q1]; simp)
      clear h0 h1
      go_wp2_with fail
      go_ret
      exact ⟨by rw [HQ2.out]; rfl, HB2.out⟩
    · have q1 : decide (last < x.from_ + b) = false := by simpa using h1
      have HQ1 := hide (show T = (x.done && decide (x.at_ ≤ x.from_ + b)) by rw [HQ.out, q1, show decide (b = 0) = false by simp [h0]]; rfl)
      clear h0 h1
      cases hd : x.done with
      | false =>
        rw [hd] at x5
        have HQ2 := hide (show T = false by rw [HQ1.out, hd]; rfl)
        clear hd
        go_wp2_with fail
        go_ret
        exact ⟨by rw [HQ2.out]; rfl, HB2.out⟩
      | true =>
        rw [hd] at x5
        have HQ2 := hide (show T = decide (x.at_ ≤ x.from_ + b) by rw [HQ1.out, hd]; rfl)
        clear hd
        by_cases h2 : x.at_ ≤ x.from_ + b
        · have q2 : decide (x.at_ ≤ x.from_ + b) = true := by simp [h2]
          have HQ3 := hide (HQ2.out.trans q2)
          clear h2
          go_wp2_with fail
          go_ret
          exact ⟨by rw [HQ3.out]; rfl, HB2.out⟩
        · have q2 : decide (x.at_ ≤ x.from_ + b) = false := by simpa using h2
          have HQ3 := hide (HQ2.out.trans q2)
          clear h2
          go_wp2_with fail
          go_ret
          exact ⟨by rw [HQ3.out]; rfl, HB2.out⟩
set_option maxRecDepth 100000 in
set_option maxHeartbeats 6400000 in
theorem sLate_c (s : SetM) (SA : Option Addr) (sc : Nat) (Ps : List PrV) (A : Option Addr) (c : Nat) (l : List Ev) (write : Int) (w : World) (hs : PrsRd w NoBlk SA Ps) (hsn : Ps.length ≤ maxLen) (hsz : ∀ v ∈ Ps, PrSz v) (hr : Rd w NoBlk A (flat encEv l)) (hn : l.length ≤ 900) (hx : ∀ x ∈ l, x.s.size ≤ 100) (hlc : l.length ≤ c) :
    Calls Tryz.prog 33 #[.agg (setV s), .slice SA Ps.length sc, .slice A l.length c, .int .i64 write] w fun e w' => (∃ A1 c1, e = .returned (.slice A1 (lateSd s Ps l write).length c1) ∧ Rd w' NoBlk A1 (flat encSd (lateSd s Ps l write))) ∧ Only NoBlk w w' := by
  have HPr := hide (fun (w' : World) (k : Only NoBlk w w') => sof_c SA sc Ps A c l w' (hs.only k (fun _ h => h)) hsn hsz (hr.only k (fun _ h => h)) (by omega) hx hlc)
  have HCk := hide (fun (w' : World) (k : Only NoBlk w w') => Clocks_c NoBlk A c l w' (hr.only k (fun _ h => h)) (by omega) (fun k h => h.elim))
  have HSm := hide (fun (x : SdM) (h : x ∈ allS Ps l) => show 0 ≤ x.from_ ∧ x.from_ ≤ 1000 from by have := allS_sm h; omega)
  have HLen := hide (allS_len Ps l hn)
  have hck : (clocksL l).length ≤ 900 := by
    have : (clocksL l).length ≤ l.length := by unfold clocksL; rw [List.length_map]; exact List.length_filter_le _ _
    omega
  have HQ := hide (show lateSd s Ps l write = keepL (sendOk s write (((clocksL l).length : Int) - 1)) (allS Ps l) from rfl)
  obtain ⟨TT, hTT⟩ : ∃ TT, TT = lateSd s Ps l write := ⟨_, rfl⟩
  rw [← hTT] at HQ ⊢
  obtain ⟨kn, hkn⟩ : ∃ kn, kn = (clocksL l).length := ⟨_, rfl⟩
  rw [← hkn] at HCk hck HQ
  obtain ⟨n, hnl⟩ : ∃ n, n = l.length := ⟨_, rfl⟩
  obtain ⟨np, hnp⟩ : ∃ np, np = Ps.length := ⟨_, rfl⟩
  rw [← hnl, ← hnp] at HPr
  rw [← hnl] at HCk
  rw [← hnl, ← hnp]
  have w1 : IntKind.i64.wrap ((kn : Int) - 1) = (kn : Int) - 1 := IntWalk.i64_in _ (by omega)
  obtain ⟨W, hW⟩ : ∃ W, W = (w.alloc (.cells (setV s) 33)).alloc (.cells #[.int .i64 write] 3) := ⟨_, rfl⟩
  have HO := hide (show Only NoBlk w W by rw [hW]; exact ((Only.refl _ _).alloc _).alloc _)
  have HBs := hide (show Blk W w.heap.size 33 (setV s) by rw [hW]; exact (Blk.new _ _ _).alloc _)
  have HBw := hide (show Blk W (w.heap.size + 1) 3 #[.int .i64 write] by rw [hW]; exact Blk.new' (by simp))
  have HW := hide hW
  clear hs hsn hsz hr hn hx hlc hTT hkn hnl hnp hW
  go_enter Tryz.func33, Tryz.ntmps33
  go_wp2_with fail
  change Calls _ _ _ ((w.alloc (.cells (setV s) 33)).alloc (.cells #[.int .i64 write] 3)) _
  rw [← HW.out]
  refine (HCk.out _ HO.out).mono ?_
  rintro e w1 ⟨hb1, A1, c1, rfl, _, _⟩
  have HO1 := hide (HO.out.trans (Only.of_below hb1 NoBlk))
  have HBs1 := hide (HBs.out.below hb1)
  have HBw1 := hide (HBw.out.below hb1)
  clear hb1
  go_upto_region 2 with fail
  obtain ⟨W3, hW3⟩ : ∃ W3, W3 = w1.alloc (.cells #[.int .i64 ((kn : Int) - 1)] 3) := ⟨_, rfl⟩
  obtain ⟨mb, hmb⟩ : ∃ mb, mb = w1.heap.size := ⟨_, rfl⟩
  have HO3 := hide (show Only NoBlk w W3 by rw [hW3]; exact HO1.out.alloc _)
  have HMb := hide (show Blk W3 mb 3 #[.int .i64 ((kn : Int) - 1)] by rw [hW3, hmb]; exact Blk.new _ _ _)
  have HBs3 := hide (show Blk W3 w.heap.size 33 (setV s) by rw [hW3]; exact HBs1.out.alloc _)
  have HBw3 := hide (show Blk W3 (w.heap.size + 1) 3 #[.int .i64 write] by rw [hW3]; exact HBw1.out.alloc _)
  rw [← hW3, ← hmb]
  clear hW3 hmb
  go_wp2_with fail
  refine (HPr.out _ HO3.out).mono ?_
  rintro e w4 ⟨⟨v, rfl, hown⟩, ho4⟩
  have HOw := hide hown
  have HO4 := hide (HO3.out.trans ho4)
  have HMb4 := hide (HMb.out.only ho4 (fun h => h))
  have HBs4 := hide (HBs3.out.only ho4 (fun h => h))
  have HBw4 := hide (HBw3.out.only ho4 (fun h => h))
  have hmlt : mb < W3.heap.size := HMb.out.lt
  have hslt : w.heap.size < W3.heap.size := HBs3.out.lt
  have hwlt : w.heap.size + 1 < W3.heap.size := HBw3.out.lt
  have HSz := hide ho4.size
  clear hown ho4
  have HDel := hide (DeleteSd_c W3.heap.size (fun w' => Blk w' mb 3 #[.int .i64 ((kn : Int) - 1)] ∧ Blk w' w.heap.size 33 (setV s) ∧ Blk w' (w.heap.size + 1) 3 #[.int .i64 write]) (sendOk s write ((kn : Int) - 1)) (.pointer (some ⟨w.heap.size, 0, none⟩)) (.pointer (some ⟨w.heap.size + 1, 0, none⟩)) (.pointer (some ⟨mb, 0, none⟩))
    (fun w1 w2 h k => ⟨h.1.only k (by show ¬ W3.heap.size ≤ mb; omega), h.2.1.only k (by show ¬ W3.heap.size ≤ w.heap.size; omega), h.2.2.only k (by show ¬ W3.heap.size ≤ w.heap.size + 1; omega)⟩) (allS Ps l)
    (fun w' x hxm h => latesd_c s x write ((kn : Int) - 1) w.heap.size (w.heap.size + 1) mb w' h.2.1 (by rw [h.2.2.cell]; rfl) (by rw [h.1.cell]; rfl) h.2.2.lt h.1.lt (HSm.out x hxm).1 (HSm.out x hxm).2) v w4 HSz.out ⟨HMb4.out, HBs4.out, HBw4.out⟩ HOw.out (by have := HLen.out; omega))
  obtain ⟨OA, oc, rfl, _⟩ := own_cap HOw.out
  obtain ⟨pn, hpn⟩ : ∃ pn, pn = (allS Ps l).length := ⟨_, rfl⟩
  rw [← hpn] at HDel ⊢
  rw [← HQ.out] at HDel
  clear hpn hmlt hslt hwlt
  go_wp2_with fail
  refine HDel.out.mono ?_
  rintro e w5 ⟨⟨A1, c1, rfl, hr5⟩, ho5⟩
  have HR5 := hide hr5
  have HO5 := hide (HO4.out.fresh ho5 (fun i _ h => Or.inr (Nat.le_trans HO3.out.size h)))
  clear hr5 ho5
  go_wp2_with fail
  go_ret
  exact ⟨⟨A1, c1, rfl, HR5.out⟩, HO5.out⟩
end Go.Proofs.YtdmdohjdmnmabaaGreat
namespace Go.Proofs.YtdmdohjdmnmabaaGreat
open Go.RowKit
set_option linter.unusedVariables false
set_option linter.unusedSimpArgs false

set_option maxRecDepth 100000 in
set_option maxHeartbeats 6400000 in
theorem refsBound_c (s : SetM) (x : SdM) (write : Int) (w : World) : Calls Tryz.prog 69 #[.agg (setV s), .agg #[.int .i64 x.id, .int .i64 x.op, .int .i64 x.long, .int .i64 x.from_, .int .i64 x.taken, .bool x.done, .int .i64 x.at_], .int .i64 write] w fun e w' => e = .returned (.int .i64 (boundS s x.long write)) ∧ Below w.heap.size w w' := by
  obtain ⟨T, hT⟩ : ∃ T, T = boundS s x.long write := ⟨_, rfl⟩
  have HT := hide (show T = if boundOk s x.long write = true then x.long * (write + waitS s + 1) else 0 from hT)
  rw [← hT]
  clear hT
  have HOk := hide (@boundOk_iff s x.long write)
  obtain ⟨W, hW⟩ : ∃ W, W = (w.alloc (.cells (setV s) 33)).alloc (.cells #[.int .i64 x.id, .int .i64 x.op, .int .i64 x.long, .int .i64 x.from_, .int .i64 x.taken, .bool x.done, .int .i64 x.at_] 110) := ⟨_, rfl⟩
  have HL := hide (show Below w.heap.size w W by rw [hW]; exact (below_alloc _ _).alloc (by simp) _)
  have HBs := hide (show Blk W w.heap.size 33 (setV s) by rw [hW]; exact (Blk.new _ _ _).alloc _)
  have HBx := hide (show Blk W (w.heap.size + 1) 110 #[.int .i64 x.id, .int .i64 x.op, .int .i64 x.long, .int .i64 x.from_, .int .i64 x.taken, .bool x.done, .int .i64 x.at_] by rw [hW]; exact Blk.new' (by simp))
  have C := hide (refcGood_c s W)
  have HW := hide hW
  have HWt := hide (fun w' hg => refWait_c s w' hg)
  have HWb := hide (fun hg => @waitS_le2 s hg)
  clear hW
  cases hg : goodB s with
  | false =>
    rw [hg] at C
    have HQ := hide (show T = 0 by rw [HT.out, if_neg]; intro h; have := (HOk.out.1 h).1; rw [hg] at this; cases this)
    clear hg HT
    go_enter Tryz.func69, Tryz.ntmps69
    go_wp2_with fail
    change Calls _ _ _ ((w.alloc (.cells (setV s) 33)).alloc (.cells #[.int .i64 x.id, .int .i64 x.op, .int .i64 x.long, .int .i64 x.from_, .int .i64 x.taken, .bool x.done, .int .i64 x.at_] 110)) _
    rw [← HW.out]
    refine C.out.mono ?_
    rintro e w1 ⟨rfl, hb1⟩
    have HB1 := hide (HL.out.trans (hb1.mono HL.out.size))
    clear hb1
    go_wp2_with fail
    go_ret
    exact ⟨by rw [HQ.out]; rfl, HB1.out⟩
  | true =>
    rw [hg] at C
    have HWq := hide (fun w' => HWt.out w' hg)
    have hwb := HWb.out hg
    have HGd := hide hg
    obtain ⟨q, hq⟩ : ∃ q, q = waitS s := ⟨_, rfl⟩
    rw [← hq] at HWq hwb HT
    clear hg hq HWt HWb
    go_enter Tryz.func69, Tryz.ntmps69
    go_wp2_with fail
    change Calls _ _ _ ((w.alloc (.cells (setV s) 33)).alloc (.cells #[.int .i64 x.id, .int .i64 x.op, .int .i64 x.long, .int .i64 x.from_, .int .i64 x.taken, .bool x.done, .int .i64 x.at_] 110)) _
    rw [← HW.out]
    refine C.out.mono ?_
    rintro e w1 ⟨rfl, hb1⟩
    have HB1 := hide (HL.out.trans (hb1.mono HL.out.size))
    have HBs1 := hide (HBs.out.below hb1)
    have HBx1 := hide (HBx.out.below hb1)
    clear hb1
    obtain ⟨y0, y1, y2, y3, y4, y5⟩ := HBs1.out.six
    obtain ⟨x0, x1, x2, x3, x4, x5, x6⟩ := HBx1.out.sevenB
    by_cases hr : 1 ≤ write ∧ write ≤ 1000000 ∧ 1 ≤ x.long ∧ x.long ≤ 256
    · have HQ := hide (show T = x.long * (write + q + 1) by rw [HT.out, if_pos (HOk.out.2 ⟨HGd.out, hr⟩)])
      obtain ⟨h1, h2, h3, h4⟩ := hr
      have d1 : decide (write < 1) = false := by simp; omega
      have d2 : decide (1000000 < write) = false := by simp; omega
      have d3 : decide (x.long < 1) = false := by simp; omega
      have d4 : decide (256 < x.long) = false := by simp; omega
      have v1 : IntKind.i64.wrap (write + q) = write + q := IntWalk.i64_in _ (by omega)
      have v2 : IntKind.i64.wrap (write + q + 1) = write + q + 1 := IntWalk.i64_in _ (by omega)
      have h5 : 0 ≤ x.long * (write + q + 1) := Int.mul_nonneg (by omega) (by omega)
      have h6 : x.long * (write + q + 1) ≤ 256 * 6000001 := Int.mul_le_mul h4 (by omega) (by omega) (by omega)
      have v3 : IntKind.i64.wrap (x.long * (write + q + 1)) = x.long * (write + q + 1) := IntWalk.i64_in _ (by omega)
      clear h1 h2 h3 h4 h5 h6 hwb
      go_wp2_with fail
      go_region_held3 (fun w' => w'.cell? ⟨w.heap.size, 0, none⟩ = some (.int .i64 s.live) ∧ w'.cell? ⟨w.heap.size, 1, none⟩ = some (.int .i64 s.ring) ∧ w'.cell? ⟨w.heap.size, 2, none⟩ = some (.int .i64 s.win) ∧ w'.cell? ⟨w.heap.size, 3, none⟩ = some (.int .i64 s.out) ∧ w'.cell? ⟨w.heap.size, 4, none⟩ = some (.int .i64 s.quantum) ∧ w'.cell? ⟨w.heap.size, 5, none⟩ = some (.int .i64 s.visits) ∧ w'.cell? ⟨w.heap.size + 1, 2, none⟩ = some (.int .i64 x.long)) (go_keep)
        (first
          | (go_at_call 54
             refine (HWq.out _).mono ?_
             rintro e w2 ⟨rfl, hb2⟩
             have z0 := bkeep hb2 y0
             have z1 := bkeep hb2 y1
             have z2 := bkeep hb2 y2
             have z3 := bkeep hb2 y3
             have z4 := bkeep hb2 y4
             have z5 := bkeep hb2 y5
             have z6 := bkeep hb2 x2
             have HB2 := hide ((below_drew' HB1.out).trans (hb2.mono HB1.out.size))
             clear hb2))
      all_goals
        go_wp2_with fail
        go_ret
        exact ⟨by rw [HQ.out]; rfl, HB2.out⟩
    · have HQ := hide (show T = 0 by rw [HT.out, if_neg]; intro h; exact hr (HOk.out.1 h).2)
      have HR := hide hr
      clear hr
      go_wp2
      all_goals first
        | (exfalso; have := HR.out; omega)
        | (go_ret; exact ⟨by rw [HQ.out]; rfl, HB1.out⟩)
end Go.Proofs.YtdmdohjdmnmabaaGreat
