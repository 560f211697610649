/- Parts of a chain of lemmas: GraceD, Wt1. Conditions: those of each theorem. -/
import Derived.Test.YtdmdohjdmnmabaaGreatQw34
import Derived.Test.YtdmdohjdmnmabaaGreatQw23
import Derived.Test.YtdmdohjdmnmabaaGreatQw19
import Derived.Test.YtdmdohjdmnmabaaGreatQw26
import Derived.Test.YtdmdohjdmnmabaaGreatQw05
namespace Go.Proofs.YtdmdohjdmnmabaaGreat
open Go.RowKit
set_option linter.unusedVariables false

def stpAt (l : List Stp) (k : Nat) : Stp := l.getD k st0
/-- not over ahead of a tick -/
def lateB (b : Int) (f : LifeM) : Bool := decide (f.status = 0) || decide (f.steps.length = 0) || decide (b ≤ (stpAt f.steps (f.steps.length - 1)).tick)
def lateL (b : Int) (l : List Ev) (ids : List Int) : List Int := ids.filter fun id => lateB b (lifeO (lifeGo id 0 l))
def lateS (s : SetM) (l : List Ev) (each : Int) : List Int := if boundB s l each = true then lateL (boundT s l each) l (idsL (l.take (idxK 7 l).toNat)) else []
theorem late_succ (b : Int) (l : List Ev) (L : List Int) (k : Nat) (h : k < L.length) : lateL b l (L.take (k + 1)) = lateL b l (L.take k) ++ (if lateB b (lifeO (lifeGo (nth L k) 0 l)) = true then [nth L k] else []) := by
 have e : nth L k = L[k] := nth_of_lt h
 unfold lateL
 rw [List.take_succ_eq_append_getElem h, List.filter_append, e]
 by_cases hp : lateB b (lifeO (lifeGo L[k] 0 l)) = true <;> simp [hp]
theorem late_len (b : Int) (l : List Ev) (L : List Int) : (lateL b l L).length ≤ L.length := List.length_filter_le _ _
theorem stp_last {w : World} {M : Nat → Prop} {A : Option Addr} {L : List Stp} (hr : Rd w M A (flat encStp L)) (m : Nat) (hm : m = L.length) (hp : m ≠ 0) : ∃ b o, A = some ⟨b, o, none⟩ ∧ b < w.heap.size ∧ w.cell? ⟨b, o + (m - 1) * 6, none⟩ = some (.int .i64 (stpAt L (m - 1)).tick) := by
 subst hm
 have e : L[L.length - 1]? = some (stpAt L (L.length - 1)) := by
  simp [stpAt, List.getD, show L.length - 1 < L.length by omega]
 obtain ⟨b, o, hA, _, hb, hc⟩ := flat_cells encStp_len hr (L.length - 1) _ e (by omega)
 exact ⟨b, o, hA, hb, hc 0 (by omega)⟩
theorem rd_subL {w : World} {b o : Nat} {l : List Ev} (h : Rd w NoBlk (some ⟨b, o, none⟩) (flat encEv l)) (at_ m : Nat) (hm : at_ + m ≤ l.length) (hp : 0 < m) : Rd w NoBlk (some ⟨b, o + at_ * 12, none⟩) (flat encEv ((l.drop at_).take m)) := by
 have hl := flat_len encEv 12 encEv_len l
 rcases h with h | ⟨b', o', hA, hmm, hb, hc⟩
 ·rw [h] at hl; simp at hl; omega
 ·injection hA with hA
  injection hA with h1 h2 _
  subst h1; subst h2
  have hl2 := flat_len encEv 12 encEv_len ((l.drop at_).take m)
  have hlm : ((l.drop at_).take m).length = m := by rw [List.length_take, List.length_drop]; omega
  refine Or.inr ⟨b, o + at_ * 12, rfl, hmm, hb, fun j hj => ?_⟩
  rw [hl2, hlm] at hj
  have hlt : at_ * 12 + j < (flat encEv l).length := by rw [hl]; omega
  have h3 := hc (at_ * 12 + j) hlt
  rw [← Nat.add_assoc] at h3
  rw [h3]
  have hq : j = j / 12 * 12 + j % 12 := by omega
  have hd : j / 12 < m := by omega
  have e1 : l[at_ + j / 12]? = some (evAt l (at_ + j / 12)) := evAt_some (by omega)
  have e2 : ((l.drop at_).take m)[j / 12]? = some (evAt l (at_ + j / 12)) := by rw [List.getElem?_take, if_pos hd, List.getElem?_drop]; exact e1
  have f1 := flat_at encEv 12 encEv_len l (at_ + j / 12) (j % 12) _ e1 (by omega)
  have f2 := flat_at encEv 12 encEv_len ((l.drop at_).take m) (j / 12) (j % 12) _ e2 (by omega)
  have g1 : (at_ + j / 12) * 12 + j % 12 = at_ * 12 + j := by omega
  rw [g1] at f1
  rw [← hq] at f2
  rw [f1, f2]
theorem rd_pre {w : World} {A : Option Addr} {l : List Ev} (h : Rd w NoBlk A (flat encEv l)) (m : Nat) (hm : m ≤ l.length) : Rd w NoBlk A (flat encEv (l.take m)) := by
 by_cases hp : 0 < m
 ·obtain ⟨b, o, hA, _⟩ := h.at_ (j := 0) (by rw [flat_len encEv 12 encEv_len]; omega)
  subst hA
  have := rd_subL h 0 m (by omega) hp
  simpa using this
 ·have : m = 0 := by omega
  subst this
  exact Rd.nil
theorem rd_not {w : World} {g : Nat} {t : TypeId} {A : Option Addr} {xs : List Value} (hb : Blk w g t #[]) (h : Rd w NoBlk A xs) : Rd w (· = g) A xs := by
 rcases h with h | ⟨b, o, hA, hm, hlt, hc⟩
 ·exact Or.inl h
 ·by_cases hx : xs.length = 0
  ·exact Or.inl (List.eq_nil_of_length_eq_zero hx)
  ·refine Or.inr ⟨b, o, hA, fun e => ?_, hlt, hc⟩
   subst e
   have h0 := hc 0 (by omega)
   rw [hb.cell, List.getElem?_eq_getElem (by omega)] at h0
   simp at h0
theorem nn_lt {k n : Nat} (h : k < n) : decide ((k : Int) < (n : Int)) = true := by simp; exact h
end Go.Proofs.YtdmdohjdmnmabaaGreat
namespace Go.Proofs.YtdmdohjdmnmabaaGreat
open Go.RowKit
set_option linter.unusedVariables false

end Go.Proofs.YtdmdohjdmnmabaaGreat
namespace Go.Proofs.YtdmdohjdmnmabaaGreat
open Go.RowKit
set_option linter.unusedVariables false

def anyR (l : List Ev) : Bool := l.any (isK 1)
/-- at this place it stopped in time -/
def stopAt (b : Int) (l : List Ev) (i : Nat) : Bool := decide ((evAt l i).k = 9) && (anyR (l.take i) && decide (clockOf 0 (l.take i) < b))
def stopsB (b : Int) (l : List Ev) : Bool := (List.range l.length).any (stopAt b l)
def stopsS (s : SetM) (l : List Ev) (each : Int) : Bool := if boundB s l each = true then stopsB (boundT s l each) l else true
theorem any_succ (l : List Ev) (k : Nat) (h : k < l.length) : anyR (l.take (k + 1)) = (anyR (l.take k) || decide ((evAt l k).k = 1)) := by
 have e : evAt l k = l[k] := by simp [evAt, List.getD, h]
 unfold anyR
 rw [List.take_succ_eq_append_getElem h, List.any_append, e]
 simp [isK]
theorem stops_yes {b : Int} {l : List Ev} (k : Nat) (hk : k < l.length) (h : stopAt b l k = true) : stopsB b l = true := by
 unfold stopsB
 rw [List.any_eq_true]
 exact ⟨k, List.mem_range.2 hk, h⟩
theorem stops_no {b : Int} {l : List Ev} (h : ∀ i, i < l.length → stopAt b l i = false) : stopsB b l = false := by
 unfold stopsB
 rw [List.any_eq_false]
 intro i hi
 rw [h i (List.mem_range.1 hi)]
 decide
theorem low_succ {p : Nat → Bool} {k : Nat} (h : ∀ i, i < k → p i = false) (hk : p k = false) : ∀ i, i < k + 1 → p i = false := by
 intro i hi
 by_cases e : i = k
 ·subst e; exact hk
 ·exact h i (by omega)
end Go.Proofs.YtdmdohjdmnmabaaGreat
namespace Go.Proofs.YtdmdohjdmnmabaaGreat
open Go.RowKit
set_option linter.unusedVariables false
set_option linter.unusedSimpArgs false
set_option maxRecDepth 100000 in
set_option maxHeartbeats 6400000 in
theorem begin_c (s : ByteArray) (d j : Int) (PA : Option Addr) (pc : Nat) (L : List OpV) (id op now : Int) (w : World) (hr : OpsRd w NoBlk PA L) (hn : L.length ≤ maxLen) (hnn : ∀ v ∈ L, v.o.n ≤ 9223372036854775807) (hnow : now ≤ 9223372036854775807) :
 Calls Tryz.prog 114 #[.agg #[.string s, .int .i64 d, .int .i64 j, .slice PA L.length pc], .int .i64 id, .int .i64 op, .int .i64 now] w fun e w' => e = .returned (.tuple #[.agg (encWt (beginW (progM s d j L) id op now)).toArray, .bool (beginB (progM s d j L) op)]) ∧ Below w.heap.size w w' := by
 have hn' : L.length ≤ 9223372036854775807 := hn
 have HL := hide (show beginB (progM s d j L) op = ((decide (0 ≤ op) && decide (op < L.length)) && decide (((L.map (·.o)).getD op.toNat opM0).kind = 2)) from by unfold beginB progM; simp only [List.length_map])
 have HWt := hide (show beginW (progM s d j L) id op now = if beginB (progM s d j L) op = true then ⟨id, op, now, untilM now ((L.map (·.o)).getD op.toNat opM0).n, false, 0, 0⟩ else wt0 from rfl)
 obtain ⟨W, hW⟩ : ∃ W, W = (w.alloc (.cells #[.string s, .int .i64 d, .int .i64 j, .slice PA L.length pc] 24)).alloc (.cells #[.int .i64 0, .int .i64 0, .int .i64 0, .int .i64 0, .bool false, .int .i64 0, .int .i64 0] 84) := ⟨_, rfl⟩
 have HB := hide (show Below w.heap.size w W by rw [hW]; exact (below_alloc _ _).alloc (by simp) _)
 have HP := hide (show Blk W w.heap.size 24 #[.string s, .int .i64 d, .int .i64 j, .slice PA L.length pc] by rw [hW]; exact (Blk.new w 24 _).alloc _)
 have HZ := hide (show Blk W (w.heap.size + 1) 84 #[.int .i64 0, .int .i64 0, .int .i64 0, .int .i64 0, .bool false, .int .i64 0, .int .i64 0] by rw [hW]; exact Blk.new' (by simp))
 have HR := hide (fun (i : Nat) (hi : i < L.length) => op_cells (hr.1.below HB.out) i hi)
 have HNn := hide (fun (i : Nat) (hi : i < L.length) => hnn _ (opAt_mem hi))
 have HG := hide (fun (i : Nat) (hi : i < L.length) => show (L.map (·.o)).getD i opM0 = (opAt L i).o from by simp [List.getD, opAt, hi])
 have HWs := hide (show W.heap.size = w.heap.size + 2 by rw [hW]; simp)
 have HA := hide (fun n w hn => Add_c now n w hnow hn)
 have HW := hide hW
 obtain ⟨m, hm⟩ : ∃ m, m = L.length := ⟨_, rfl⟩
 rw [← hm] at hn' HL HP HR HNn HW HG ⊢
 obtain ⟨BB, hBB⟩ : ∃ BB, BB = beginB (progM s d j L) op := ⟨_, rfl⟩
 obtain ⟨WW, hWW⟩ : ∃ WW, WW = beginW (progM s d j L) id op now := ⟨_, rfl⟩
 rw [← hBB, ← hWW] at HWt ⊢
 rw [← hBB] at HL
 clear hr hn hm hW hBB hWW hnn hnow
 go_enter Tryz.func114, Tryz.ntmps114
 go_upto_region 1 with fail
 change Code.wp _ _ _ _ ((w.alloc (.cells #[.string s, .int .i64 d, .int .i64 j, .slice PA m pc] 24)).alloc (.cells #[.int .i64 0, .int .i64 0, .int .i64 0, .int .i64 0, .bool false, .int .i64 0, .int .i64 0] 84))
 rw [← HW.out]
 obtain ⟨⟨g0, g1, g2, g3⟩, _⟩ := HP.out.four
 obtain ⟨x0, x1, x2, x3, x4, x5, x6⟩ := HZ.out.seven
 have e0 := HZ.out.frozen 0
 have e1 := HZ.out.frozen 1
 have e2 := HZ.out.frozen 2
 have e3 := HZ.out.frozen 3
 have e4 := HZ.out.frozen 4
 have e5 := HZ.out.frozen 5
 have e6 := HZ.out.frozen 6
 by_cases h0 : op < 0
 ·have b0 : decide (op < 0) = true := by simp [h0]
  have HQb := hide (show BB = false from by rw [HL.out, show decide (0 ≤ op) = false by simp; omega]; rfl)
  have HQw := hide (show WW = wt0 from by rw [HWt.out, HQb.out]; rfl)
  clear h0
  go_wp2_with fail
  all_goals first
   | (exfalso; omega)
   | (rw [put7]
      have r2 := HZ.out.put [.int .i64 0, .int .i64 0, .int .i64 0, .int .i64 0, .bool false, .int .i64 0, .int .i64 0] rfl
      have r3 := below_put [.int .i64 0, .int .i64 0, .int .i64 0, .int .i64 0, .bool false, .int .i64 0, .int .i64 0] 0 HB.out (show w.heap.size ≤ w.heap.size + 1 by omega)
      obtain ⟨p0, p1, p2, p3, p4, p5, p6⟩ := r2.seven
      refine bodyPost_ret (v := .tuple #[.agg #[.int .i64 0, .int .i64 0, .int .i64 0, .int .i64 0, .bool false, .int .i64 0, .int .i64 0], .bool false]) (by simp [results, Tryz.results114, go_sem, p0, p1, p2, p3, p4, p5, p6]) rfl ?_
      exact ⟨by rw [HQw.out, HQb.out]; rfl, r3⟩)
 ·have b0 : decide (op < 0) = false := by simp; omega
  by_cases h1 : (m : Int) ≤ op
  ·have b1 : decide ((m : Int) ≤ op) = true := by simp [h1]
   have HQb := hide (show BB = false from by rw [HL.out, show decide (op < (m : Int)) = false by simp; omega]; simp)
   have HQw := hide (show WW = wt0 from by rw [HWt.out, HQb.out]; rfl)
   clear h0 h1
   go_wp2_with fail
   all_goals first
    | (exfalso; omega)
    | (rw [put7]
       have r2 := HZ.out.put [.int .i64 0, .int .i64 0, .int .i64 0, .int .i64 0, .bool false, .int .i64 0, .int .i64 0] rfl
       have r3 := below_put [.int .i64 0, .int .i64 0, .int .i64 0, .int .i64 0, .bool false, .int .i64 0, .int .i64 0] 0 HB.out (show w.heap.size ≤ w.heap.size + 1 by omega)
       obtain ⟨p0, p1, p2, p3, p4, p5, p6⟩ := r2.seven
       refine bodyPost_ret (v := .tuple #[.agg #[.int .i64 0, .int .i64 0, .int .i64 0, .int .i64 0, .bool false, .int .i64 0, .int .i64 0], .bool false]) (by simp [results, Tryz.results114, go_sem, p0, p1, p2, p3, p4, p5, p6]) rfl ?_
       exact ⟨by rw [HQw.out, HQb.out]; rfl, r3⟩)
  ·have b1 : decide ((m : Int) ≤ op) = false := by simp; omega
   obtain ⟨q, hq⟩ : ∃ q : Nat, op = q := ⟨op.toNat, by omega⟩
   subst hq
   have hqm : q < m := by omega
   have j1 : (0 : Int) ≤ (q : Int) := by omega
   have j2 : (q : Int) < (m : Int) := by omega
   obtain ⟨b, ob, rfl, hb, y0, y1, y2, y3, y4, y5, y6⟩ := HR.out q hqm
   have HKq := hide (HNn.out q hqm)
   have HGq := hide (show (L.map (·.o)).getD (q : Int).toNat opM0 = (opAt L q).o from HG.out q hqm)
   rw [HGq.out] at HL HWt
   obtain ⟨a, ha⟩ : ∃ a, a = (opAt L q).o := ⟨_, rfl⟩
   rw [← ha] at y0 y2 HKq HL HWt
   clear y1 y3 y4 y5 y6 ha HGq HG HR HNn h0 h1
   obtain ⟨ok, ot, on_, og, oa, ox, oy⟩ := a
   simp only at y0 y2 HL HWt
   by_cases hk : ok = 2
   case neg =>
    have b2 : (ok != 2) = true := by simpa using hk
    have HQb := hide (show BB = false from by rw [HL.out, show decide (ok = 2) = false by simp [hk]]; simp)
    have HQw := hide (show WW = wt0 from by rw [HWt.out, HQb.out]; rfl)
    clear hk
    go_wp2_with fail
    all_goals first
     | (exfalso; omega)
     | (rw [put7]
        have r2 := HZ.out.put [.int .i64 0, .int .i64 0, .int .i64 0, .int .i64 0, .bool false, .int .i64 0, .int .i64 0] rfl
        have r3 := below_put [.int .i64 0, .int .i64 0, .int .i64 0, .int .i64 0, .bool false, .int .i64 0, .int .i64 0] 0 HB.out (show w.heap.size ≤ w.heap.size + 1 by omega)
        obtain ⟨p0, p1, p2, p3, p4, p5, p6⟩ := r2.seven
        refine bodyPost_ret (v := .tuple #[.agg #[.int .i64 0, .int .i64 0, .int .i64 0, .int .i64 0, .bool false, .int .i64 0, .int .i64 0], .bool false]) (by simp [results, Tryz.results114, go_sem, p0, p1, p2, p3, p4, p5, p6]) rfl ?_
        exact ⟨by rw [HQw.out, HQb.out]; rfl, r3⟩)
   case pos =>
    have b2 : (ok != 2) = false := by simp [hk]
    have HQb := hide (show BB = true from by rw [HL.out, show decide (ok = 2) = true by simp [hk], show decide ((0 : Int) ≤ (q : Int)) = true by simp, show decide ((q : Int) < (m : Int)) = true by simp; omega]; rfl)
    have HQv := hide (show WW = ⟨id, q, now, untilM now on_, false, 0, 0⟩ from by rw [HWt.out, HQb.out]; rfl)
    obtain ⟨W2, hW2⟩ : ∃ W2, W2 = W.alloc (.cells #[.int .i64 id, .int .i64 q, .int .i64 now, .int .i64 9223372036854775807, .bool false, .int .i64 0, .int .i64 0] 84) := ⟨_, rfl⟩
    have HB2 := hide (show Below w.heap.size w W2 by rw [hW2]; exact HB.out.alloc HB.out.size _)
    have HZ2 := hide (show Blk W2 (w.heap.size + 1) 84 #[.int .i64 0, .int .i64 0, .int .i64 0, .int .i64 0, .bool false, .int .i64 0, .int .i64 0] by rw [hW2]; exact HZ.out.alloc _)
    have HN2 := hide (show Blk W2 W.heap.size 84 #[.int .i64 id, .int .i64 q, .int .i64 now, .int .i64 9223372036854775807, .bool false, .int .i64 0, .int .i64 0] by rw [hW2]; exact Blk.new _ _ _)
    have HW2 := hide hW2
    have z0 := bkeep (show Below W.heap.size W W2 by rw [hW2]; exact below_alloc _ _) y0
    have z2 := bkeep (show Below W.heap.size W W2 by rw [hW2]; exact below_alloc _ _) y2
    have k3 := bkeep (show Below W.heap.size W W2 by rw [hW2]; exact below_alloc _ _) g3
    clear hk hW2
    go_upto_region 4 with fail
    change Code.wp _ _ _ _ (W.alloc (.cells #[.int .i64 id, .int .i64 q, .int .i64 now, .int .i64 9223372036854775807, .bool false, .int .i64 0, .int .i64 0] 84))
    rw [← HW2.out]
    obtain ⟨n0, n1, n2, n3, n4, n5, n6⟩ := HN2.out.seven
    have f3 := HN2.out.frozen 3
    clear e0 e1 e2 e3 e4 e5 e6 g0 g1 g2 g3 y0 y2 x0 x1 x2 x3 x4 x5 x6
    obtain ⟨x0, x1, x2, x3, x4, x5, x6⟩ := HZ2.out.seven
    have e0 := HZ2.out.frozen 0
    have e1 := HZ2.out.frozen 1
    have e2 := HZ2.out.frozen 2
    have e3 := HZ2.out.frozen 3
    have e4 := HZ2.out.frozen 4
    have e5 := HZ2.out.frozen 5
    have e6 := HZ2.out.frozen 6
    by_cases hm : on_ = 9223372036854775807
    ·have b3 : (on_ != 9223372036854775807) = false := by simp [hm]
     have HQw := hide (show WW = ⟨id, q, now, 9223372036854775807, false, 0, 0⟩ from by rw [HQv.out]; unfold untilM; rw [if_pos hm])
     clear hm
     go_wp2_with fail
     all_goals first
      | (exfalso; omega)
      | (rw [put7]
         have r2 := HZ2.out.put [.int .i64 id, .int .i64 q, .int .i64 now, .int .i64 9223372036854775807, .bool false, .int .i64 0, .int .i64 0] rfl
         have r3 := below_put [.int .i64 id, .int .i64 q, .int .i64 now, .int .i64 9223372036854775807, .bool false, .int .i64 0, .int .i64 0] 0 HB2.out (show w.heap.size ≤ w.heap.size + 1 by omega)
         obtain ⟨p0, p1, p2, p3, p4, p5, p6⟩ := r2.seven
         refine bodyPost_ret (v := .tuple #[.agg #[.int .i64 id, .int .i64 q, .int .i64 now, .int .i64 9223372036854775807, .bool false, .int .i64 0, .int .i64 0], .bool true]) (by simp [results, Tryz.results114, go_sem, p0, p1, p2, p3, p4, p5, p6]) rfl ?_
         exact ⟨by rw [HQw.out, HQb.out]; rfl, r3⟩)
    ·have b3 : (on_ != 9223372036854775807) = true := by simpa using hm
     have HQw := hide (show WW = ⟨id, q, now, addT now on_, false, 0, 0⟩ from by rw [HQv.out]; unfold untilM; rw [if_neg hm])
     have HA2 := hide (fun w => HA.out on_ w HKq.out)
     obtain ⟨T, hT⟩ : ∃ T, T = addT now on_ := ⟨_, rfl⟩
     rw [← hT] at HQw HA2
     clear hm hT
     go_upto_region 6 with fail
     go_wp2_with fail
     refine (HA2.out _).mono ?_
     rintro e w3 ⟨rfl, h3⟩
     obtain rfl := h3.symm
     obtain ⟨W3, hW3⟩ : ∃ W3, W3 = W2.setCell ⟨W.heap.size, 3, none⟩ (.int .i64 T) := ⟨_, rfl⟩
     have HN3 := hide (show Blk W3 W.heap.size 84 #[.int .i64 id, .int .i64 q, .int .i64 now, .int .i64 T, .bool false, .int .i64 0, .int .i64 0] by rw [hW3]; exact HN2.out.set_ 3 _)
     have HZ3 := hide (show Blk W3 (w.heap.size + 1) 84 #[.int .i64 0, .int .i64 0, .int .i64 0, .int .i64 0, .bool false, .int .i64 0, .int .i64 0] by rw [hW3]; exact HZ2.out.far (by have := HWs.out; show w.heap.size + 1 ≠ W.heap.size; omega) _)
     have HB3 := hide (show Below w.heap.size w W3 by rw [hW3]; exact HB2.out.setCell (by have := HWs.out; show w.heap.size ≤ W.heap.size; omega) _)
     have HW3 := hide hW3
     clear hW3
     go_upto_region 7 with fail
     change Code.wp _ _ _ _ (W2.setCell ⟨W.heap.size, 3, none⟩ (.int .i64 T))
     rw [← HW3.out]
     clear n0 n1 n2 n3 n4 n5 n6 e0 e1 e2 e3 e4 e5 e6 x0 x1 x2 x3 x4 x5 x6
     obtain ⟨x0, x1, x2, x3, x4, x5, x6⟩ := HZ3.out.seven
     obtain ⟨n0, n1, n2, n3, n4, n5, n6⟩ := HN3.out.seven
     have e0 := HZ3.out.frozen 0
     have e1 := HZ3.out.frozen 1
     have e2 := HZ3.out.frozen 2
     have e3 := HZ3.out.frozen 3
     have e4 := HZ3.out.frozen 4
     have e5 := HZ3.out.frozen 5
     have e6 := HZ3.out.frozen 6
     go_wp2_with fail
     all_goals first
      | (exfalso; omega)
      | (rw [put7]
         have r2 := HZ3.out.put [.int .i64 id, .int .i64 q, .int .i64 now, .int .i64 T, .bool false, .int .i64 0, .int .i64 0] rfl
         have r3 := below_put [.int .i64 id, .int .i64 q, .int .i64 now, .int .i64 T, .bool false, .int .i64 0, .int .i64 0] 0 HB3.out (show w.heap.size ≤ w.heap.size + 1 by omega)
         obtain ⟨p0, p1, p2, p3, p4, p5, p6⟩ := r2.seven
         refine bodyPost_ret (v := .tuple #[.agg #[.int .i64 id, .int .i64 q, .int .i64 now, .int .i64 T, .bool false, .int .i64 0, .int .i64 0], .bool true]) (by simp [results, Tryz.results114, go_sem, p0, p1, p2, p3, p4, p5, p6]) rfl ?_
         exact ⟨by rw [HQw.out, HQb.out]; rfl, r3⟩)
end Go.Proofs.YtdmdohjdmnmabaaGreat
