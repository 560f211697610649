/- Parts of a chain of lemmas: ParS, Tk, Rd1. Conditions: those of each theorem. -/
import Derived.Test.YtaioaojfdngfdaaGreatDoorNb07
import Derived.Test.YtaioaojfdngfdaaGreatDoorNb01
import Derived.OrdersHeld
import Derived.KernelRfl
import Derived.Deep.RegionHeld
import Derived.Test.YtaioaojfdngfdaaGreatDoorNb02
import Derived.Test.YtaioaojfdngfdaaGreatDoorNb04
set_option linter.unusedVariables false
set_option linter.unusedSimpArgs false
namespace Go.Proofs.YtaioaojfdngfdaaGreatDoor
set_option linter.unusedSectionVars false
theorem wordsGo_sz : ∀ (f : Nat) (L : List UInt8) (i : Nat) (out : List WordM), (∀ x ∈ out, x.text.length ≤ L.length ∧ x.at_ ≤ L.length) → i ≤ L.length → (∀ x ∈ (wordsGo f L i out).1, x.text.length ≤ L.length ∧ x.at_ ≤ L.length) ∧ (wordsGo f L i out).1.length ≤ out.length + f
 | 0, L, i, out, h, hi => by unfold wordsGo; exact ⟨fun x hx => (by cases hx), Nat.zero_le _⟩
 | f + 1, L, i, out, h, hi => by
  have hw : ∀ x ∈ out ++ [(wordAt L i).1], x.text.length ≤ L.length ∧ x.at_ ≤ L.length := by
   intro x hx
   rcases List.mem_append.1 hx with hx | hx
   ·exact h x hx
   ·simp at hx
    subst hx
    refine ⟨wordAt_len L i, ?_⟩
    unfold wordAt
    split
    ·exact hi
    split
    ·exact hi
    ·exact hi
  have hle := wordAt_le L i hi
  unfold wordsGo
  split
  ·exact ⟨fun x hx => (by cases hx), Nat.zero_le _⟩
  split
  ·exact ⟨hw, by rw [List.length_append]; simp⟩
  split
  ·exact ⟨fun x hx => (by cases hx), Nat.zero_le _⟩
  ·have r := wordsGo_sz f L (i + (wordAt L i).2.1 + 1) (out ++ [(wordAt L i).1]) hw (by omega)
   refine ⟨r.1, ?_⟩
   have := r.2
   rw [List.length_append] at this
   simp at this
   omega
theorem wordsM_sz (L : List UInt8) : (∀ x ∈ (wordsM L).1, x.text.length ≤ L.length ∧ x.at_ ≤ L.length) ∧ (wordsM L).1.length ≤ L.length + 1 := by
 unfold wordsM
 split
 ·exact ⟨fun x hx => (by cases hx), Nat.zero_le _⟩
 split
 ·exact ⟨fun x hx => (by cases hx), Nat.zero_le _⟩
 ·have r := wordsGo_sz (L.length + 1) L 0 [] (fun x hx => (by cases hx)) (Nat.zero_le _)
  exact ⟨r.1, by have := r.2; simp at this; exact this⟩
theorem linesGo_sz : ∀ (r cur : List UInt8), ∀ x ∈ linesGo r cur, x.length ≤ cur.length + r.length
 | [], cur, x, hx => by
  unfold linesGo at hx
  simp at hx
  subst hx
  simp
 | c :: r, cur, x, hx => by
  unfold linesGo at hx
  split at hx
  ·rcases List.mem_cons.1 hx with hx | hx
   ·subst hx; simp
   ·have := linesGo_sz r [] x hx
    simp at this ⊢
    omega
  ·have := linesGo_sz r (cur ++ [c]) x hx
   simp at this ⊢
   omega
theorem linesM_sz (L : List UInt8) (q : Nat) : ((linesM L).getD q []).length ≤ L.length := by
 rw [List.getD_eq_getElem?_getD]
 cases h : (linesM L)[q]? with
 | none => exact Nat.zero_le _
 | some x =>
  have := linesGo_sz L [] x (List.mem_of_getElem? h)
  simpa using this
theorem wordsGo_at : ∀ (f : Nat) (L : List UInt8) (i : Nat) (out : List WordM), i ≤ L.length → (wordsGo f L i out).2.1 ≤ L.length
 | 0, L, i, out, hi => by unfold wordsGo; exact hi
 | f + 1, L, i, out, hi => by
  have hle := wordAt_le L i hi
  unfold wordsGo
  split
  ·exact hle
  split
  ·exact Nat.zero_le _
  split
  ·exact hle
  ·exact wordsGo_at f L _ _ (by omega)
theorem wordsM_at (L : List UInt8) : (wordsM L).2.1 ≤ L.length + 1200 := by
 unfold wordsM
 split
 ·exact Nat.le_add_left _ _
 split
 ·exact Nat.zero_le _
 ·exact Nat.le_trans (wordsGo_at _ L 0 [] (Nat.zero_le _)) (Nat.le_add_right _ _)
theorem mGo_bad (l : List (List UInt8)) (f i : Nat) {m : PM} (h : m.st.bad ≠ 0) : mGo l f i m = m := by
 cases f with
 | zero => rfl
 | succ f => unfold mGo; rw [if_pos h]
structure LSz (m : PM) (n : Nat) : Prop where
 ops : m.ops.length ≤ n
 uses : m.uses.length ≤ n
 labels : m.labels.length ≤ n
 arms : ∀ o ∈ m.ops, o.arms.length ≤ n
 txt : ∀ u ∈ m.uses, u.name.length ≤ 1000000000 ∧ 1 ≤ u.col ∧ u.col ≤ 1000000001
theorem LSz.mono {m m' : PM} {n k : Nat} (h : LSz m n) (hk : n ≤ k) (e1 : m'.ops = m.ops := by rfl) (e2 : m'.uses = m.uses := by rfl) (e3 : m'.labels = m.labels := by rfl) : LSz m' k :=
 ⟨by rw [e1]; exact Nat.le_trans h.ops hk, by rw [e2]; exact Nat.le_trans h.uses hk, by rw [e3]; exact Nat.le_trans h.labels hk, by rw [e1]; exact fun o ho => Nat.le_trans (h.arms o ho) hk, by rw [e2]; exact h.txt⟩
theorem word_in (line width : Int) (ws : List WordM) (s : St) (q : Bool) : (wordS line width ws s q).1.1 = w0 ∨ (wordS line width ws s q).1.1 ∈ ws := by
 unfold wordS
 split
 ·exact Or.inl rfl
 split
 ·exact Or.inl rfl
 rename_i h
 split
 ·exact Or.inr (wsAt_mem (by omega))
 ·exact Or.inr (wsAt_mem (by omega))
section
variable {m : PM} {n : Nat}
theorem LSz.label (h : LSz m n) (hn : 1 ≤ n) (hu : m.uses.length + 1 ≤ n) (hw : ∀ x ∈ m.ws, x.text.length ≤ 1000000000 ∧ x.at_ ≤ 1000000000) (how : Int) : LSz (mLabel m how) n := by
 refine ⟨h.ops, ?_, h.labels, h.arms, ?_⟩
 ·show (m.uses ++ [_]).length ≤ n
  rw [List.length_append]; simpa using hu
 ·refine mem_snoc h.txt ?_
  have hx : (mName m).1.text.length ≤ 1000000000 ∧ (mName m).1.at_ ≤ 1000000000 := by
   unfold mName nameS
   rcases word_in m.line m.width m.ws m.st false with e | e
   ·simp only
    rw [e]
    exact ⟨by decide, by decide⟩
   ·exact hw _ e
  exact ⟨hx.1, by show 1 ≤ ((mName m).1.at_ : Int) + 1; omega, by show ((mName m).1.at_ : Int) + 1 ≤ 1000000001; omega⟩
theorem LSz.op (h : LSz m n) (o : OpM) (ho : o.arms = []) (hl : m.ops.length + 1 ≤ n) : LSz (mOp m o) n :=
 ⟨by show (m.ops ++ [o]).length ≤ n; rw [List.length_append]; simpa using hl, h.uses, h.labels, mem_snoc h.arms (by rw [ho]; exact Nat.zero_le _), h.txt⟩
theorem LSz.last (h : LSz m n) (o : OpM) (s : St) (ho : o.arms.length ≤ n) : LSz (mLast m o s) n := by
 refine ⟨by show (m.ops.set _ o).length ≤ n; rw [List.length_set]; exact h.ops, h.uses, h.labels, fun x hx => ?_, h.txt⟩
 rcases List.mem_or_eq_of_mem_set hx with hx | hx
 ·exact h.arms x hx
 ·rw [hx]; exact ho
theorem last_arms (h : LSz m n) : (lastOp m).arms.length ≤ n := by
 unfold lastOp
 rw [List.getD_eq_getElem?_getD]
 cases hx : m.ops[m.ops.length - 1]? with
 | none => exact Nat.zero_le _
 | some o => exact h.arms o (List.mem_of_getElem? hx)
theorem say1_sz (h : LSz m n) (hw : ∀ x ∈ m.ws, x.text.length ≤ 1000000000 ∧ x.at_ ≤ 1000000000) (t : List UInt8) : LSz (mSay1 m t) (n + 1) := by
 have h1 : LSz m (n + 1) := h.mono (Nat.le_succ n)
 have hu : m.uses.length + 1 ≤ n + 1 := Nat.succ_le_succ h.uses
 have ho : m.ops.length + 1 ≤ n + 1 := Nat.succ_le_succ h.ops
 unfold mSay1
 split
 ·unfold mBegin mJumps
  split <;> exact h1.mono (Nat.le_refl _)
 split
 ·unfold mArm
  split
  ·exact h1.mono (Nat.le_refl _)
  split
  ·split
   ·exact h1.mono (Nat.le_refl _)
   ·unfold mOn
    refine LSz.label (LSz.last h1 _ _ ?_) (by omega) hu hw _
    show ((lastOp m).arms ++ [_]).length ≤ n + 1
    rw [List.length_append]
    have := last_arms h
    simpa using this
  split
  ·exact LSz.label (m := mTw1 m) (h1.mono (Nat.le_refl _)) (by omega) hu hw _
  ·exact LSz.label (m := mTw0 m) (h1.mono (Nat.le_refl _)) (by omega) hu hw _
 ·have h2 : LSz (mShut m) (n + 1) := h1.mono (Nat.le_refl _)
  unfold mOps
  split
  ·exact LSz.last (LSz.op h2 _ rfl ho) _ _ (Nat.zero_le _)
  split
  ·exact (LSz.last (LSz.op h2 oExpect rfl ho) { oExpect with n := (mTicks (mOp (mShut m) oExpect) 0 true).1 } (mTicks (mOp (mShut m) oExpect) 0 true).2 (Nat.zero_le _)).mono (Nat.le_refl _)
  split
  ·exact LSz.label (LSz.op h2 _ rfl ho) (by omega) hu hw _
  split
  ·exact LSz.last (LSz.op h2 _ rfl ho) _ _ (Nat.zero_le _)
  split
  ·exact LSz.op h2 _ rfl ho
  split
  ·exact LSz.op h2 _ rfl ho
  split
  ·exact ⟨h2.ops, h2.uses, Nat.succ_le_succ h.labels, h2.arms, h2.txt⟩
  ·exact h2
theorem rest_sz (h : LSz m n) : LSz (mRest m) n := by
 unfold mRest
 split
 ·exact h.mono (Nat.le_refl _)
 ·exact h
theorem one_sz (h : LSz m n) (i : Nat) (s : List UInt8) (hs : s.length ≤ 1000000000) : LSz (mOne m i s) (n + 1) := by
 have h1 : LSz m (n + 1) := h.mono (Nat.le_succ n)
 unfold mOne
 split
 ·exact h1
 split
 ·exact h1.mono (Nat.le_refl _)
 ·unfold mSay
  split
  ·exact h1.mono (Nat.le_refl _)
  ·refine rest_sz (say1_sz (m := mNext (mLine m i s)) (h.mono (Nat.le_refl _)) (fun x hx => ?_) _)
   have := (wordsM_sz s).1 x hx
   exact ⟨by omega, by omega⟩
end
end Go.Proofs.YtaioaojfdngfdaaGreatDoor
namespace Go.Proofs.YtaioaojfdngfdaaGreatDoor
open Go.RowKit
theorem ga {α : Type} : (∀ (l : List α) (i : Nat) (h : i < l.toArray.size), l.toArray[i]'h = l[i]'(by simpa using h)) ∧ (∀ (a : α) (l : List α) (h : 0 < (a :: l).length), (a :: l)[0]'h = a) ∧ (∀ (a : α) (l : List α) (i : Nat) (h : i + 1 < (a :: l).length), (a :: l)[i + 1]'h = l[i]'(by simpa using h)) :=
 ⟨fun _ _ _ => List.getElem_toArray .., fun _ _ _ => rfl, fun _ _ _ _ => rfl⟩
theorem gp {α : Type} : (∀ (l : List α) (i : Nat) (v : α), l.toArray.setIfInBounds i v = (l.set i v).toArray) ∧ (∀ (a v : α) (l : List α), (a :: l).set 0 v = v :: l) ∧ (∀ (a v : α) (l : List α) (i : Nat), (a :: l).set (i + 1) v = a :: l.set i v) ∧ (∀ (l : List α) (i : Nat) (h : i < l.toArray.size), l.toArray[i]'h = l[i]'(by simpa using h)) ∧ (∀ (a : α) (l : List α) (h : 0 < (a :: l).length), (a :: l)[0]'h = a) ∧ (∀ (a : α) (l : List α) (i : Nat) (h : i + 1 < (a :: l).length), (a :: l)[i + 1]'h = l[i]'(by simpa using h)) :=
 ⟨fun _ _ _ => List.setIfInBounds_toArray .., fun _ _ _ => rfl, fun _ _ _ _ => rfl, ga⟩
theorem tk {P : Program} {ops : Array Oper} {Q : Exit → Act → World → Prop} {md : Region.Mode} {S : World → Prop} (i : Nat) (v : Value) {oi : Oper} {fuel : Nat} {listed : Array Bool} {a : Act} {w : World} (hi : ops[i]? = some oi)
 (hy : ∀ w, S w → (execOp a.eval oi).run P w = .ok (.value v) w) (h : wpAnyH P md ops Q S fuel (listed.setIfInBounds i true) (a.put oi.dst v) w)
 (hs : Region.noSelect ops = true := by kernel_rfl) (hf : Region.free md ops listed i = true := by kernel_rfl) (hr : (Region.ready md ops listed).contains i = true := by kernel_rfl)
 (hQ : ∀ c a w, Q (.panic c) (a.put oi.dst v) w → Q (.panic c) a w := by exact fun _ _ _ h => h) (hw : Region.wanted oi (yielded ops a.tmps) = true := by rfl) (hS : S w := by assumption) : wpAnyH P md ops Q S (fuel + 1) listed a w :=
 wpAnyH_take hi hs hf hr hQ (Or.inl ⟨hw, hy⟩) hS h
theorem rdy {P : Program} {ops : Array Oper} {Q : Exit → Act → World → Prop} {md : Region.Mode} {S : World → Prop} (i : Nat) {oi : Oper} {fuel : Nat} {listed : Array Bool} {a : Act} {w : World} (ho : ops[i]? = some oi)
 (h : ∀ K' : Act → World → Prop, Shut (∀ a w, S w → (S w → wpAnyH P md ops Q S fuel (listed.setIfInBounds i true) a w) → K' a w) → if Region.wanted oi (yielded ops a.tmps) = true then Oper.wp P oi a w K' Q else K' (a.put oi.dst undef) w)
 (hr : Region.ready md ops listed = [i] := by kernel_rfl) : wpAnyH P md ops Q S (fuel + 1) listed a w :=
 wpAnyH_ready hr (by simp) (AllReadyH.cons ho h AllReadyH.nil)
theorem valH_le (b : UInt8) : valH b ≤ 15 ∧ -1 ≤ valH b := by
 unfold valH
 split
 ·omega
 split <;> omega
set_option maxHeartbeats 1600000 in
theorem digit_c (b : UInt8) (m : Int) (hm : m = b.toNat) (w : World) : Calls Tryz.prog 204 #[.int .u8 m] w fun e w' => e = .returned (.tuple #[.int .u8 (max (valH b) 0), .bool (decide (0 ≤ valH b))]) ∧ w' = w := by
 subst hm
 have hb := b.toNat_lt
 obtain ⟨n, hn⟩ : ∃ n, n = b.toNat := ⟨_, rfl⟩
 have HV := hide (show valH b = if 48 ≤ n ∧ n ≤ 57 then (n : Int) - 48 else if 97 ≤ n ∧ n ≤ 102 then (n : Int) - 87 else -1 by unfold valH; rw [← hn])
 rw [← hn] at hb ⊢
 obtain ⟨v, hv⟩ : ∃ v, v = valH b := ⟨_, rfl⟩
 rw [← hv] at HV ⊢
 clear hn hv
 by_cases h1 : 48 ≤ n ∧ n ≤ 57
 ·have HE := hide (show v = (n : Int) - 48 by rw [HV.out, if_pos h1])
  have d1 : decide ((48 : Int) ≤ (n : Int)) = true := by simp; omega
  have d2 : decide ((n : Int) ≤ 57) = true := by simp; omega
  have w1 : IntKind.u8.wrap ((n : Int) - 48) = (n : Int) - 48 := IntWalk.u8_in _ (by omega)
  go_enter Tryz.func204, Tryz.ntmps204
  go_wp2_with fail
  refine bodyPost_ret (v := .tuple #[.int .u8 ((n : Int) - 48), .bool true]) (by simp [results, Tryz.results204, go_sem]) rfl ?_
  exact ⟨by rw [HE.out, show max ((n : Int) - 48) 0 = (n : Int) - 48 by omega, show decide (0 ≤ (n : Int) - 48) = true by simp; omega], rfl⟩
 ·by_cases h2 : 97 ≤ n ∧ n ≤ 102
  ·have HE := hide (show v = (n : Int) - 87 by rw [HV.out, if_neg h1, if_pos h2])
   have d1 : decide ((48 : Int) ≤ (n : Int)) = true := by simp; omega
   have d2 : decide ((n : Int) ≤ 57) = false := by simp; omega
   have d3 : decide ((97 : Int) ≤ (n : Int)) = true := by simp; omega
   have d4 : decide ((n : Int) ≤ 102) = true := by simp; omega
   have w1 : IntKind.u8.wrap ((n : Int) - 97) = (n : Int) - 97 := IntWalk.u8_in _ (by omega)
   have w2 : IntKind.u8.wrap ((n : Int) - 97 + 10) = (n : Int) - 97 + 10 := IntWalk.u8_in _ (by omega)
   go_enter Tryz.func204, Tryz.ntmps204
   go_wp2_with fail
   refine bodyPost_ret (v := .tuple #[.int .u8 ((n : Int) - 97 + 10), .bool true]) (by simp [results, Tryz.results204, go_sem]) rfl ?_
   exact ⟨by rw [HE.out, show max ((n : Int) - 87) 0 = (n : Int) - 97 + 10 by omega, show decide (0 ≤ (n : Int) - 87) = true by simp; omega], rfl⟩
  ·have HE := hide (show v = -1 by rw [HV.out, if_neg h1, if_neg h2])
   have hway : n < 48 ∨ (57 < n ∧ n < 97) ∨ 102 < n := by omega
   clear h1 h2
   rcases hway with h3 | ⟨h3, h4⟩ | h3
   ·skip
    have d1 : decide ((48 : Int) ≤ (n : Int)) = false := by simp; omega
    have d2 : decide ((97 : Int) ≤ (n : Int)) = false := by simp; omega
    go_enter Tryz.func204, Tryz.ntmps204
    go_wp2_with fail
    refine bodyPost_ret (v := .tuple #[.int .u8 0, .bool false]) (by simp [results, Tryz.results204, go_sem]) rfl ?_
    exact ⟨by rw [HE.out]; rfl, rfl⟩
   ·skip
    have d1 : decide ((48 : Int) ≤ (n : Int)) = true := by simp; omega
    have d2 : decide ((n : Int) ≤ 57) = false := by simp; omega
    have d3 : decide ((97 : Int) ≤ (n : Int)) = false := by simp; omega
    go_enter Tryz.func204, Tryz.ntmps204
    go_wp2_with fail
    refine bodyPost_ret (v := .tuple #[.int .u8 0, .bool false]) (by simp [results, Tryz.results204, go_sem]) rfl ?_
    exact ⟨by rw [HE.out]; rfl, rfl⟩
   ·skip
    have d1 : decide ((48 : Int) ≤ (n : Int)) = true := by simp; omega
    have d2 : decide ((n : Int) ≤ 57) = false := by simp; omega
    have d3 : decide ((97 : Int) ≤ (n : Int)) = true := by simp; omega
    have d4 : decide ((n : Int) ≤ 102) = false := by simp; omega
    go_enter Tryz.func204, Tryz.ntmps204
    go_wp2_with fail
    refine bodyPost_ret (v := .tuple #[.int .u8 0, .bool false]) (by simp [results, Tryz.results204, go_sem]) rfl ?_
    exact ⟨by rw [HE.out]; rfl, rfl⟩
theorem or_zero (v : Int) (h : 0 ≤ v) (h2 : v ≤ 15) : bits BinOp.or IntKind.u8 0 v = v := by
 obtain ⟨x, rfl⟩ : ∃ x : Nat, v = x := ⟨v.toNat, by omega⟩
 have : ∀ y : Fin 16, bits BinOp.or IntKind.u8 0 ((y.val : Nat) : Int) = ((y.val : Nat) : Int) := by decide
 exact this ⟨x, by omega⟩
set_option maxRecDepth 10000 in
theorem or_four (v u : Int) (h : 0 ≤ v) (h2 : v ≤ 15) (h3 : 0 ≤ u) (h4 : u ≤ 15) : bits BinOp.or IntKind.u8 (v * 16) u = 16 * v + u := by
 obtain ⟨x, rfl⟩ : ∃ x : Nat, v = x := ⟨v.toNat, by omega⟩
 obtain ⟨y, rfl⟩ : ∃ y : Nat, u = y := ⟨u.toNat, by omega⟩
 have : ∀ a b : Fin 16, bits BinOp.or IntKind.u8 (((a.val : Nat) : Int) * 16) ((b.val : Nat) : Int) = 16 * ((a.val : Nat) : Int) + ((b.val : Nat) : Int) := by decide
 exact this ⟨x, by omega⟩ ⟨y, by omega⟩
/-- two digits at a place -/
def hexAt (L : List UInt8) (j : Nat) : Int × Nat × Bool :=
 if L.length ≤ j then (0, 0, false) else if valH (atB L j) < 0 then (0, 0, false)
 else if L.length ≤ j + 1 then (0, 1, false) else if valH (atB L (j + 1)) < 0 then (0, 1, false)
 else (16 * valH (atB L j) + valH (atB L (j + 1)), 2, true)
theorem byte_at (s : ByteArray) (k : Nat) (h : k < s.size) : s[k]'h = atB s.data.toList k := by
 unfold atB
 have h2 : k < s.data.toList.length := by simpa using h
 rw [List.getD_eq_getElem?_getD, List.getElem?_eq_getElem h2]
 rfl
set_option maxRecDepth 100000 in
set_option maxHeartbeats 3200000 in
theorem hex_c (s : ByteArray) (j : Nat) (w : World) (hj : j ≤ s.size) (hs : s.size ≤ 1000000000) : Calls Tryz.prog 179 #[.string s, .int .i64 j] w fun e w' => e = .returned (.tuple #[.int .u8 (hexAt s.data.toList j).1, .int .i64 (j + (hexAt s.data.toList j).2.1 : Nat), .bool (hexAt s.data.toList j).2.2]) ∧ w' = w := by
 obtain ⟨L, hL⟩ : ∃ L, L = s.data.toList := ⟨_, rfl⟩
 have hLn : L.length = s.size := by rw [hL]; simp
 have HAt := hide (show ∀ k (h : k < s.size), s[k]'h = atB L k from fun k h => by rw [hL]; exact byte_at s k h)
 have HDg := hide (fun (b : UInt8) (m : Int) (hm : m = b.toNat) (w' : World) => digit_c b m hm w')
 rw [← hL]
 obtain ⟨R, hR⟩ : ∃ R, R = hexAt L j := ⟨_, rfl⟩
 have HR := hide (show R = if s.size ≤ j then (0, 0, false) else if valH (atB L j) < 0 then (0, 0, false) else if s.size ≤ j + 1 then (0, 1, false) else if valH (atB L (j + 1)) < 0 then (0, 1, false) else (16 * valH (atB L j) + valH (atB L (j + 1)), 2, true) by rw [hR]; unfold hexAt; rw [hLn])
 rw [← hR]
 obtain ⟨v1, hv1⟩ : ∃ v1, v1 = valH (atB L j) := ⟨_, rfl⟩
 obtain ⟨v2, hv2⟩ : ∃ v2, v2 = valH (atB L (j + 1)) := ⟨_, rfl⟩
 have b1 := valH_le (atB L j)
 have b2 := valH_le (atB L (j + 1))
 rw [← hv1] at HR b1
 rw [← hv2] at HR b2
 have HV1 := hide hv1
 have HV2 := hide hv2
 clear hR hL hLn hv1 hv2
 go_enter Tryz.func179, Tryz.ntmps179
 go_wp2_with fail
 go_loopw [7, 11] (fun n k wr => ((k = .int .i64 0 ∧ n = .int .u8 0) ∨ (k = .int .i64 1 ∧ n = .int .u8 v1 ∧ j < s.size ∧ 0 ≤ v1) ∨ (k = .int .i64 2 ∧ n = .int .u8 (16 * v1 + v2) ∧ j + 1 < s.size ∧ 0 ≤ v1 ∧ 0 ≤ v2)) ∧ Hid (wr = w)) (fun _ k _ => 2 - (intOf k).toNat)
 case atStart => exact ⟨Or.inl ⟨rfl, rfl⟩, hide rfl⟩
 case round =>
  obtain ⟨hk, hw⟩ := hrel
  rw [hw.out]
  clear hw
  rcases hk with ⟨rfl, rfl⟩ | ⟨rfl, rfl, h1, h2⟩ | ⟨rfl, rfl, h1, h2, h3⟩
  ·have w0 : IntKind.i64.wrap ((j : Int) + 0) = (j : Int) := by rw [Int.add_zero]; exact IntWalk.i64_in _ (by omega)
   by_cases hlt : j < s.size
   ·have d1 : decide ((s.size : Int) ≤ (j : Int)) = false := by simp; omega
    have d2 : decide ((j : Int) ≥ (s.size : Int)) = false := by simp; omega
    have d3 : decide (s.size ≤ j) = false := by simp; omega
    have j1 : (0 : Int) ≤ (j : Int) := by omega
    have j2 : (j : Int) < (s.size : Int) := by omega
    have HA := hide (HAt.out j hlt)
    have HDq := hide (HDg.out (atB L j) ((s[j]'hlt).toNat : Int) (by rw [HA.out]) w)
    rw [← HV1.out] at HDq
    by_cases h1 : 0 ≤ v1
    ·have d4 : decide (0 ≤ v1) = true := by simp; exact h1
     have m1 : max v1 0 = v1 := by omega
     rw [d4, m1] at HDq
     go_wp2_with fail
     refine HDq.out.mono ?_
     rintro e wq ⟨rfl, hwq⟩
     rw [hwq]
     clear hwq
     have o1 := or_zero v1 h1 b1.1
     go_wp2_with fail
     go_roundw
     case rel => exact ⟨Or.inr (Or.inl ⟨rfl, rfl, hlt, h1⟩), hide (by first | rfl | trivial)⟩
     case measure => simp [intOf]
    ·have d4 : decide (0 ≤ v1) = false := by simp; omega
     have m1 : max v1 0 = 0 := by omega
     rw [d4, m1] at HDq
     have HE := hide (show R = (0, 0, false) by rw [HR.out, if_neg (by omega), if_pos (by omega)])
     go_wp2_with fail
     refine HDq.out.mono ?_
     rintro e wq ⟨rfl, hwq⟩
     rw [hwq]
     clear hwq
     go_wp2_with fail
     refine bodyPost_ret (v := .tuple #[.int .u8 0, .int .i64 j, .bool false]) (by simp [results, Tryz.results179, go_sem]) rfl ?_
     exact ⟨by rw [HE.out]; rfl, rfl⟩
   ·have d1 : decide ((s.size : Int) ≤ (j : Int)) = true := by simp; omega
    have d2 : decide ((j : Int) ≥ (s.size : Int)) = true := by simp; omega
    have d3 : decide (s.size ≤ j) = true := by simp; omega
    have HE := hide (show R = (0, 0, false) by rw [HR.out, if_pos (by omega)])
    have hje : j = s.size := by omega
    have HJ := hide hje
    clear hje
    go_wp2_with fail
    refine bodyPost_ret (v := .tuple #[.int .u8 0, .int .i64 s.size, .bool false]) (by simp [results, Tryz.results179, go_sem]) rfl ?_
    exact ⟨by rw [HE.out, ← HJ.out]; rfl, rfl⟩
  ·have w0 : IntKind.i64.wrap ((j : Int) + 1) = ((j + 1 : Nat) : Int) := by rw [IntWalk.i64_in _ (by omega)]; omega
   by_cases hlt : j + 1 < s.size
   ·have d1 : decide ((s.size : Int) ≤ ((j + 1 : Nat) : Int)) = false := by simp; omega
    have d2 : decide (((j + 1 : Nat) : Int) ≥ (s.size : Int)) = false := by simp; omega
    have d3 : decide (s.size ≤ j + 1) = false := by simp; omega
    have j1 : (0 : Int) ≤ ((j + 1 : Nat) : Int) := by omega
    have j2 : ((j + 1 : Nat) : Int) < (s.size : Int) := by omega
    have HA := hide (HAt.out (j + 1) hlt)
    have HDq := hide (HDg.out (atB L (j + 1)) ((s[j + 1]'hlt).toNat : Int) (by rw [HA.out]) w)
    rw [← HV2.out] at HDq
    by_cases h3 : 0 ≤ v2
    ·have d4 : decide (0 ≤ v2) = true := by simp; exact h3
     have m1 : max v2 0 = v2 := by omega
     rw [d4, m1] at HDq
     go_wp2_with fail
     refine HDq.out.mono ?_
     rintro e wq ⟨rfl, hwq⟩
     rw [hwq]
     clear hwq
     have o1 := or_four v1 v2 h2 b1.1 h3 b2.1
     go_wp2_with fail
     go_roundw
     case rel => exact ⟨Or.inr (Or.inr ⟨rfl, rfl, hlt, h2, h3⟩), hide (by first | rfl | trivial)⟩
     case measure => simp [intOf]
    ·have d4 : decide (0 ≤ v2) = false := by simp; omega
     have m1 : max v2 0 = 0 := by omega
     rw [d4, m1] at HDq
     have HE := hide (show R = (0, 1, false) by rw [HR.out, if_neg (by omega), if_neg (by omega), if_neg (by omega), if_pos (by omega)])
     go_wp2_with fail
     refine HDq.out.mono ?_
     rintro e wq ⟨rfl, hwq⟩
     rw [hwq]
     clear hwq
     go_wp2_with fail
     refine bodyPost_ret (v := .tuple #[.int .u8 0, .int .i64 (j + 1 : Nat), .bool false]) (by simp [results, Tryz.results179, go_sem]) rfl ?_
     exact ⟨by rw [HE.out], rfl⟩
   ·have d1 : decide ((s.size : Int) ≤ ((j + 1 : Nat) : Int)) = true := by simp; omega
    have d2 : decide (((j + 1 : Nat) : Int) ≥ (s.size : Int)) = true := by simp; omega
    have d3 : decide (s.size ≤ j + 1) = true := by simp; omega
    have HE := hide (show R = (0, 1, false) by rw [HR.out, if_neg (by omega), if_neg (by omega), if_pos (by omega)])
    have hje : j + 1 = s.size := by omega
    have HJ := hide hje
    clear hje
    go_wp2_with fail
    refine bodyPost_ret (v := .tuple #[.int .u8 0, .int .i64 s.size, .bool false]) (by simp [results, Tryz.results179, go_sem]) rfl ?_
    exact ⟨by rw [HE.out, ← HJ.out], rfl⟩
  ·have HE := hide (show R = (16 * v1 + v2, 2, true) by rw [HR.out, if_neg (by omega), if_neg (by omega), if_neg (by omega), if_neg (by omega)])
   have w0 : IntKind.i64.wrap ((j : Int) + 2) = ((j + 2 : Nat) : Int) := by rw [IntWalk.i64_in _ (by omega)]; omega
   go_wp2_with fail
   refine bodyPost_ret (v := .tuple #[.int .u8 (16 * v1 + v2), .int .i64 (j + 2 : Nat), .bool true]) (by simp [results, Tryz.results179, go_sem]) rfl ?_
   exact ⟨by rw [HE.out], rfl⟩
theorem hexAt_one (L : List UInt8) (i : Nat) : oneAt L i = if L.length ≤ i then (0, 0, false) else if (atB L i).toNat < 32 ∨ 126 < (atB L i).toNat ∨ atB L i = 34 then (0, 0, false) else if atB L i ≠ 92 then (atB L i, 1, true) else if L.length ≤ i + 1 then (0, 1, false)
 else match escB (atB L (i + 1)) with
 | some b => (b, 2, true)
 | none => if atB L (i + 1) ≠ 120 then (0, 1, false) else ((UInt8.ofNat (hexAt L (i + 2)).1.toNat), 2 + (hexAt L (i + 2)).2.1, (hexAt L (i + 2)).2.2) := by
 unfold oneAt hexAt
 cases he : escB (atB L (i + 1)) with
 | some b => simp only
 | none =>
  simp only
  split
  ·rfl
  split
  ·rfl
  split
  ·rfl
  split
  ·rfl
  split
  ·rfl
  split
  ·rfl
  split
  ·rfl
  split
  ·rfl
  split
  ·rfl
  rename_i h1 _ h2
  have a := valH_le (atB L (i + 2))
  have b := valH_le (atB L (i + 3))
  simp only [show i + 2 + 1 = i + 3 from rfl] at h2 ⊢
  congr 2
  omega
set_option maxHeartbeats 1600000 in
theorem wrong_q (s : ByteArray) (i : Nat) (w : World) (hi : i ≤ s.size) : Calls Tryz.prog 144 #[.string s, .int .i64 i] w fun e w' => e = .returned (.tuple #[.string ⟨#[]⟩, .int .i64 i, .int .i64 (if i = s.size then 3 else 2 : Nat)]) ∧ w' = w := by
 by_cases h : i = s.size
 ·have d1 : decide ((s.size : Int) ≤ (i : Int)) = true := by simp; omega
  have d2 : decide ((i : Int) ≥ (s.size : Int)) = true := by simp; omega
  have d3 : decide (s.size ≤ i) = true := by simp; omega
  have H := hide h
  rw [if_pos h]
  clear h hi
  go_enter Tryz.func144, Tryz.ntmps144
  go_wp2_with fail
  refine bodyPost_ret (v := .tuple #[.string ⟨#[]⟩, .int .i64 s.size, .int .i64 3]) (by simp [results, Tryz.results144, go_sem]) rfl ?_
  exact ⟨by rw [← H.out]; rfl, rfl⟩
 ·have d1 : decide ((s.size : Int) ≤ (i : Int)) = false := by simp; omega
  have d2 : decide ((i : Int) ≥ (s.size : Int)) = false := by simp; omega
  have d3 : decide (s.size ≤ i) = false := by simp; omega
  rw [if_neg h]
  clear h hi
  go_enter Tryz.func144, Tryz.ntmps144
  go_wp2_with fail
  refine bodyPost_ret (v := .tuple #[.string ⟨#[]⟩, .int .i64 i, .int .i64 2]) (by simp [results, Tryz.results144, go_sem]) rfl ?_
  exact ⟨rfl, rfl⟩
end Go.Proofs.YtaioaojfdngfdaaGreatDoor
