/- A label's, an arm's and the head's line, read by the program, is what the document reads: plain. No program. Conditions: those of each theorem. -/
import Derived.Test.YtaioaojfdngfdaaGreatDoorNb05
set_option linter.unusedVariables false
set_option linter.unusedSimpArgs false
namespace Go.Proofs.YtaioaojfdngfdaaGreatDoor
set_option linter.unusedSectionVars false
section
variable {m : PM} {d : DM} {l : List WordM} {width : Nat}
theorem Rel.has (hr : Rel m d) (k : List UInt8) : (0 ≤ findD k d.labels) ↔ (lbF k m.labels).isSome = true := by
 rw [hr.lb k]
 cases h : lbF k m.labels with
 | none => simp
 | some v => have := hr.lbp k v h; simp [this]
theorem label_out (hr : Rel m d) (h0 : m.st.bad = 0) (hn : m.st.nx = 1) (hw : m.ws = l) (hwd : m.width = (width : Nat)) (ht : (wsAt l 0).text = kLabel) : Out (mRest (mOps m kLabel)) (takeD d l m.line) m.line (formD d l width [110] 0) := by
 have a := name_arg (s := m.st) (line := m.line) (ws := l) (width := width) (i := 0) 110 (Or.inl rfl) h0 hn
 have e1 : (mLab (mShut m)).st = if (lbF (nameS m.line width l m.st).1.text m.labels).isSome = true then failS m.line (nameS m.line width l m.st).2 (nameS m.line width l m.st).1.at_ 6 else (nameS m.line width l m.st).2 := by
  unfold mLab mName
  rw [← hwd, ← hw]
  rfl
 have e2 : mLab (mShut m) = { m with opn := false, labels := ((nameS m.line width l m.st).1.text, ((m.ops.length : Nat) : Int)) :: m.labels, st := (mLab (mShut m)).st } := by
  rw [← hwd, ← hw]
  rfl
 rw [ops_label, form_cons]
 rw [e1] at e2
 rw [e2]
 clear e1 e2
 unfold Arg at a
 generalize nameS m.line width l m.st = r at a ⊢
 generalize argE l width 110 0 = o at a ⊢
 cases o with
 | some x =>
  simp only at a ⊢
  have hb := Bad.ne (line := m.line) (x := x) a
  have e : (if (lbF r.1.text m.labels).isSome = true then failS m.line r.2 r.1.at_ 6 else r.2) = r.2 := by
   split
   ·exact failS_ne hb _ _ _
   ·rfl
  rw [e]
  refine out_bad ?_
  rw [mRest_bad hb]
  exact a
 | none =>
  simp only at a ⊢
  subst a
  by_cases hh : (lbF (wsAt l 1).text m.labels).isSome = true
  ·rw [if_pos (show (wsAt l 0).text = kLabel ∧ 0 ≤ findD (wsAt l 1).text d.labels from ⟨ht, (hr.has _).2 hh⟩)]
   refine out_bad ?_
   simp only
   rw [if_pos hh, failS_ok rfl]
   have hb : (6 : Int) ≠ 0 := by decide
   rw [mRest_bad hb]
   exact ⟨rfl, rfl, rfl, Nat.succ_ne_zero _⟩
  ·rw [if_neg (show ¬ ((wsAt l 0).text = kLabel ∧ 0 ≤ findD (wsAt l 1).text d.labels) from fun h => hh ((hr.has _).1 h.2))]
   simp only
   rw [if_neg hh]
   refine rest_out rfl rfl hw rfl (fun hx => ?_)
   have e : takeD d l m.line = { d with opn := false, labels := d.labels ++ [((wsAt l 1).text, ((d.ops.length : Nat) : Int))] } := by
    unfold takeD dOp dRest
    rw [ht]
    rfl
   rw [e]
   refine ⟨hr.name, hr.dl, hr.jm, hr.ops, hr.uses, hr.head, rfl, fun h => absurd h (by simp), fun h => absurd h (by simp), fun k => ?_, fun k v h => ?_, fun p hp => ?_⟩
   ·show findD k (d.labels ++ _) = _
    rw [findD_snoc _ _ _ _ hr.lbd, hr.ops]
    simp only [lbF]
    have h1 := hr.has k
    have h2 := hr.lb k
    by_cases hk : (wsAt l 1).text = k
    ·subst hk
     rw [if_neg (fun h => hh (h1.1 h)), if_pos rfl, if_pos rfl]
     rfl
    ·rw [if_neg hk, if_neg hk, ← h2]
     split
     ·rfl
     ·rename_i hx
      have h3 : lbF k m.labels = none := by
       cases hc : lbF k m.labels with
       | none => rfl
       | some v => exact absurd (h1.2 (by rw [hc]; rfl)) hx
      rw [h2, h3]; rfl
   ·simp only [lbF] at h
    split at h
    ·injection h with h; omega
    ·exact hr.lbp k v h
   ·rcases List.mem_append.1 hp with hp | hp
    ·exact hr.lbd p hp
    ·simp at hp; subst hp; simp
/-- an arm that may not be -/
theorem arm_shut (hr : Rel m d) (h0 : m.st.bad = 0) (t : List UInt8) (h : d.opn = false) (d' : DM) : Out (mRest (mArm m t)) d' m.line (0, 8) := by
 have e : (mArm m t).st = ⟨m.st.nx, m.line, 1, 8⟩ := by unfold mArm mFail; rw [if_pos (by rw [hr.opn, h])]; simp only; rw [failS_ok h0]; rfl
 rw [mRest_bad (by rw [e]; show (8 : Int) ≠ 0; decide)]
 exact out_bad (by rw [e]; exact ⟨rfl, rfl, rfl, Nat.succ_ne_zero _⟩)
theorem lastD_eq (hr : Rel m d) : lastOp m = lastD d := by unfold lastOp lastD; rw [hr.ops]
theorem on_long (hr : Rel m d) (h0 : m.st.bad = 0) (h : d.opn = true) (h8 : 7 < (lastD d).arms.length) (d' : DM) : Out (mRest (mArm m kOn)) d' m.line (0, 4) := by
 have e : (mArm m kOn).st = ⟨m.st.nx, m.line, 1, 4⟩ := by unfold mArm mFail; rw [if_neg (by rw [hr.opn, h]; simp), if_pos rfl, if_pos (by rw [lastD_eq hr]; omega)]; simp only; rw [failS_ok h0]; rfl
 rw [mRest_bad (by rw [e]; show (4 : Int) ≠ 0; decide)]
 exact out_bad (by rw [e]; exact ⟨rfl, rfl, rfl, Nat.succ_ne_zero _⟩)
theorem on_out (hr : Rel m d) (h0 : m.st.bad = 0) (hn : m.st.nx = 1) (hw : m.ws = l) (hwd : m.width = (width : Nat)) (ht : (wsAt l 0).text = kOn) (ho : d.opn = true) (h8 : ¬ 7 < (lastD d).arms.length) : Out (mRest (mArm m kOn)) (takeD d l m.line) m.line (formD d l width [112, 108] 0) := by
 have a := pat_arg (s := m.st) (line := m.line) (ws := l) (width := width) (i := 0) h0 hn
 have e1 : mArm m kOn = mOn m := by unfold mArm; rw [if_neg (by rw [hr.opn, ho]; simp), if_pos rfl, if_neg (by rw [lastD_eq hr]; omega)]
 rw [e1, form_cons]
 unfold mOn mPat
 rw [hw, hwd]
 unfold Arg at a
 generalize patternS m.line width l m.st = r at a ⊢
 generalize argE l width 112 0 = o at a ⊢
 cases o with
 | some x =>
  simp only at a ⊢
  have hb := Bad.ne (line := m.line) (x := x) a
  have e : (mLabel (mLast m (addArm (lastOp m) r.1) r.2) (lastOp m).arms.length).st = r.2 := mLabel_bad (m := mLast m (addArm (lastOp m) r.1) r.2) hb _
  rw [mRest_bad (by rw [e]; exact hb)]
  exact out_bad (by rw [e]; exact a)
 | none =>
  simp only at a ⊢
  subst a
  rw [ht, if_neg (fun h => absurd h.1 (by decide)), form_cons]
  have b := name_arg (s := ⟨2, m.st.sl, m.st.sc, 0⟩) (line := m.line) (ws := l) (width := width) (i := 1) 108 (Or.inr rfl) rfl rfl
  have hle : l.length ≤ 2 → argE l width 108 1 = some (width, 3) := fun h => by unfold argE; rw [if_pos h]
  unfold mLabel mName mLast
  simp only
  rw [hw, hwd]
  unfold Arg at b
  generalize nameS m.line width l ⟨2, m.st.sl, m.st.sc, 0⟩ = r at b ⊢
  generalize argE l width 108 1 = o at b hle ⊢
  cases o with
  | some x =>
   simp only at b ⊢
   have hb := Bad.ne (line := m.line) (x := x) b
   rw [mRest_bad hb]
   exact out_bad b
  | none =>
   simp only at b ⊢
   subst b
   rw [ht, if_neg (fun h => absurd h.1 (by decide))]
   refine rest_out rfl rfl rfl rfl (fun hx => ?_)
   have e : takeD d l m.line = { d with ops := d.ops.set (d.ops.length - 1) (addArm (lastD d) (wsAt l 1).text), uses := d.uses ++ [⟨(wsAt l (l.length - 1)).text, m.line, ((wsAt l (l.length - 1)).at_ : Nat) + 1, ((d.ops.set (d.ops.length - 1) (addArm (lastD d) (wsAt l 1).text)).length : Nat) - 1, ((lastD d).arms.length : Nat)⟩] } := by
    unfold takeD dOp dRest
    rw [ht]
    rfl
   rw [e, last_getD l 2 (fun h => by have := hle h; cases this) hx]
   refine ⟨hr.name, hr.dl, hr.jm, ?_, ?_, hr.head, hr.opn, hr.t0, hr.t1, hr.lb, hr.lbp, hr.lbd⟩
   ·show List.set _ _ _ = List.set _ _ _
    rw [lastD_eq hr, hr.ops]
   ·show m.uses ++ _ = d.uses ++ _
    rw [hr.uses, hr.ops, lastD_eq hr, List.length_set]
    first | done | rfl
theorem tw_dup (s : St) (b : Bool) (line : Int) (h0 : s.bad = 0) (hb : b = true) : (if b = true then failS line s 0 6 else s) = ⟨s.nx, line, 1, 6⟩ := by rw [if_pos hb, failS_ok h0]; rfl
theorem timeout_dup (hr : Rel m d) (h0 : m.st.bad = 0) (ho : d.opn = true) (hb : d.tm = true) (d' : DM) : Out (mRest (mArm m kTimeout)) d' m.line (0, 6) := by
 have e1 : (mTw0 m).st = ⟨m.st.nx, m.line, 1, 6⟩ := tw_dup _ _ _ h0 (by rw [hr.t0 ho, hb])
 have e : (mArm m kTimeout).st = ⟨m.st.nx, m.line, 1, 6⟩ := by
  unfold mArm
  rw [if_neg (by rw [hr.opn, ho]; simp), if_neg (by decide), if_neg (by decide), mLabel_bad (by rw [e1]; show (6 : Int) ≠ 0; decide), e1]
 rw [mRest_bad (by rw [e]; show (6 : Int) ≠ 0; decide)]
 exact out_bad (by rw [e]; exact ⟨rfl, rfl, rfl, Nat.succ_ne_zero _⟩)
theorem eof_dup (hr : Rel m d) (h0 : m.st.bad = 0) (ho : d.opn = true) (hb : d.ef = true) (d' : DM) : Out (mRest (mArm m kEof)) d' m.line (0, 6) := by
 have e1 : (mTw1 m).st = ⟨m.st.nx, m.line, 1, 6⟩ := tw_dup _ _ _ h0 (by rw [hr.t1 ho, hb])
 have e : (mArm m kEof).st = ⟨m.st.nx, m.line, 1, 6⟩ := by
  unfold mArm
  rw [if_neg (by rw [hr.opn, ho]; simp), if_neg (by decide), if_pos rfl, mLabel_bad (by rw [e1]; show (6 : Int) ≠ 0; decide), e1]
 rw [mRest_bad (by rw [e]; show (6 : Int) ≠ 0; decide)]
 exact out_bad (by rw [e]; exact ⟨rfl, rfl, rfl, Nat.succ_ne_zero _⟩)
theorem timeout_out (hr : Rel m d) (h0 : m.st.bad = 0) (hn : m.st.nx = 1) (hw : m.ws = l) (hwd : m.width = (width : Nat)) (ht : (wsAt l 0).text = kTimeout) (ho : d.opn = true) (hb : d.tm = false) : Out (mRest (mArm m kTimeout)) (takeD d l m.line) m.line (formD d l width [108] 0) := by
 have a := name_arg (s := m.st) (line := m.line) (ws := l) (width := width) (i := 0) 108 (Or.inr rfl) h0 hn
 have hle : l.length ≤ 1 → argE l width 108 0 = some (width, 3) := fun h => by unfold argE; rw [if_pos h]
 have e1 : mArm m kTimeout = mLabel { m with t0 := true } (-2) := by
  unfold mArm mTw0
  rw [if_neg (by rw [hr.opn, ho]; simp), if_neg (by decide), if_neg (by decide), if_neg (by rw [hr.t0 ho, hb]; simp)]
 rw [e1, form_cons]
 unfold mLabel mName
 simp only
 rw [hw, hwd]
 unfold Arg at a
 generalize nameS m.line width l m.st = r at a ⊢
 generalize argE l width 108 0 = o at a hle ⊢
 cases o with
 | some x =>
  simp only at a ⊢
  refine out_bad ?_
  rw [mRest_bad (Bad.ne (line := m.line) (x := x) a)]
  exact a
 | none =>
  simp only at a ⊢
  subst a
  rw [ht, if_neg (fun h => absurd h.1 (by decide))]
  refine rest_out rfl rfl rfl rfl (fun hx => ?_)
  have e : takeD d l m.line = { d with tm := true, uses := d.uses ++ [⟨(wsAt l (l.length - 1)).text, m.line, ((wsAt l (l.length - 1)).at_ : Nat) + 1, (d.ops.length : Nat) - 1, -2⟩] } := by
   unfold takeD dOp dRest
   rw [ht]
   rfl
  rw [e, last_getD l 1 (fun h => by have := hle h; cases this) hx]
  refine ⟨hr.name, hr.dl, hr.jm, hr.ops, ?_, hr.head, hr.opn, fun _ => rfl, hr.t1, hr.lb, hr.lbp, hr.lbd⟩
  show m.uses ++ _ = d.uses ++ _
  rw [hr.uses, hr.ops]
theorem eof_out (hr : Rel m d) (h0 : m.st.bad = 0) (hn : m.st.nx = 1) (hw : m.ws = l) (hwd : m.width = (width : Nat)) (ht : (wsAt l 0).text = kEof) (ho : d.opn = true) (hb : d.ef = false) : Out (mRest (mArm m kEof)) (takeD d l m.line) m.line (formD d l width [108] 0) := by
 have a := name_arg (s := m.st) (line := m.line) (ws := l) (width := width) (i := 0) 108 (Or.inr rfl) h0 hn
 have hle : l.length ≤ 1 → argE l width 108 0 = some (width, 3) := fun h => by unfold argE; rw [if_pos h]
 have e1 : mArm m kEof = mLabel { m with t1 := true } (-3) := by
  unfold mArm mTw1
  rw [if_neg (by rw [hr.opn, ho]; simp), if_neg (by decide), if_pos rfl, if_neg (by rw [hr.t1 ho, hb]; simp)]
 rw [e1, form_cons]
 unfold mLabel mName
 simp only
 rw [hw, hwd]
 unfold Arg at a
 generalize nameS m.line width l m.st = r at a ⊢
 generalize argE l width 108 0 = o at a hle ⊢
 cases o with
 | some x =>
  simp only at a ⊢
  refine out_bad ?_
  rw [mRest_bad (Bad.ne (line := m.line) (x := x) a)]
  exact a
 | none =>
  simp only at a ⊢
  subst a
  rw [ht, if_neg (fun h => absurd h.1 (by decide))]
  refine rest_out rfl rfl rfl rfl (fun hx => ?_)
  have e : takeD d l m.line = { d with ef := true, uses := d.uses ++ [⟨(wsAt l (l.length - 1)).text, m.line, ((wsAt l (l.length - 1)).at_ : Nat) + 1, (d.ops.length : Nat) - 1, -3⟩] } := by
   unfold takeD dOp dRest
   rw [ht]
   rfl
  rw [e, last_getD l 1 (fun h => by have := hle h; cases this) hx]
  refine ⟨hr.name, hr.dl, hr.jm, hr.ops, ?_, hr.head, hr.opn, hr.t0, fun _ => rfl, hr.lb, hr.lbp, hr.lbd⟩
  show m.uses ++ _ = d.uses ++ _
  rw [hr.uses, hr.ops]
theorem begin_eq (m : PM) (r1 : WordM × St) (r2 r3 : Int × St) (h1 : r1 = nameS m.line m.width m.ws m.st) (h2 : r2 = ticksS m.line m.width m.ws r1.2 1 true) (h3 : r3 = jumpsR m.line m.width m.ws r2.2 m.jm) :
 mBegin m = { m with head := true, name := bs r1.1.text, dl := r2.1, jm := r3.1, st := r3.2 } := by
 subst h1
 have e2 : mDl (mName1 m) = { m with head := true, name := bs (nameS m.line m.width m.ws m.st).1.text, dl := r2.1, st := r2.2 } := by rw [h2]; rfl
 unfold mBegin
 rw [e2, h3]
 unfold mJumps jumpsR
 simp only
 split <;> rfl
theorem jumps_bad {s : St} (h : s.bad ≠ 0) (line width : Int) (ws : List WordM) (j : Int) : jumpsR line width ws s j = (j, s) := by unfold jumpsR; rw [word_bad h]; simp
theorem script_out (hr : Rel m d) (h0 : m.st.bad = 0) (hn : m.st.nx = 1) (hw : m.ws = l) (hwd : m.width = (width : Nat)) (ht : (wsAt l 0).text = kScript) : Out (mRest (mBegin m)) (takeD d l m.line) m.line (formD d l width [110, 100, 106] 0) := by
 obtain ⟨r1, h1⟩ : ∃ r, r = nameS m.line m.width m.ws m.st := ⟨_, rfl⟩
 obtain ⟨r2, h2⟩ : ∃ r, r = ticksS m.line m.width m.ws r1.2 1 true := ⟨_, rfl⟩
 obtain ⟨r3, h3⟩ : ∃ r, r = jumpsR m.line m.width m.ws r2.2 m.jm := ⟨_, rfl⟩
 rw [begin_eq m r1 r2 r3 h1 h2 h3]
 rw [hw, hwd] at h1 h2 h3
 have a := name_arg (s := m.st) (line := m.line) (ws := l) (width := width) (i := 0) 110 (Or.inl rfl) h0 hn
 rw [← h1] at a
 have bad : ∀ x, Bad r3.2 m.line x → Out (mRest { m with head := true, name := bs r1.1.text, dl := r2.1, jm := r3.1, st := r3.2 }) (takeD d l m.line) m.line x := by
  intro x hx
  refine out_bad ?_
  rw [mRest_bad (Bad.ne (line := m.line) (x := x) hx)]
  exact hx
 rw [form_cons]
 unfold Arg at a
 clear h1
 generalize argE l width 110 0 = o at a ⊢
 cases o with
 | some x =>
  simp only at a ⊢
  refine bad x ?_
  rw [ticks_bad a.ne] at h2
  rw [h2] at h3
  rw [jumps_bad a.ne] at h3
  rw [h3]
  exact a
 | none =>
  simp only at a ⊢
  subst a
  rw [ht, if_neg (fun h => absurd h.1 (by decide)), form_cons]
  have b := ticks_arg (s := ⟨2, m.st.sl, m.st.sc, 0⟩) (line := m.line) (ws := l) (width := width) (i := 1) 100 1 true (Or.inl ⟨rfl, rfl, rfl⟩) rfl rfl
  simp only at h2
  rw [← h2] at b
  clear h2
  unfold Arg at b
  generalize argE l width 100 1 = o at b ⊢
  cases o with
  | some x =>
   simp only at b ⊢
   refine bad x ?_
   rw [jumps_bad b.ne] at h3
   rw [h3]
   exact b
  | none =>
   simp only at b ⊢
   subst b
   rw [ht, if_neg (fun h => absurd h.1 (by decide)), form_cons]
   have c := jumps_arg (s := ⟨3, m.st.sl, m.st.sc, 0⟩) (line := m.line) (ws := l) (width := width) (i := 2) m.jm rfl rfl
   simp only at h3
   rw [← h3] at c
   clear h3
   unfold Arg at c
   generalize argE l width 106 2 = o at c ⊢
   cases o with
   | some x =>
    simp only at c ⊢
    exact bad x c
   | none =>
    simp only at c ⊢
    subst c
    rw [ht, if_neg (fun h => absurd h.1 (by decide))]
    refine rest_out rfl rfl hw rfl (fun hx => ?_)
    have e : takeD d l m.line = { d with head := true, name := bs (wsAt l 1).text, dl := (numberD 100 (wsAt l 2).text).1, jm := (numberD 106 (wsAt l 3).text).1 } := by
     unfold takeD dOp dRest
     rw [ht]
     rfl
    rw [e]
    exact ⟨rfl, rfl, rfl, hr.ops, hr.uses, rfl, hr.opn, hr.t0, hr.t1, hr.lb, hr.lbp, hr.lbd⟩
/-- what may stand behind a word -/
theorem shape_known (t : List UInt8) : (shapeD t).2 = (decide (t = kScript) || (isArm t || isOp t)) := by
 have h : ∀ k, k ∈ [kScript, kSend, kExpect, kOn, kTimeout, kEof, kGoto, kPause, kDone, kFail, kLabel] → t = k → (shapeD t).2 = (decide (t = kScript) || (isArm t || isOp t)) := by
  intro k hk e
  subst e
  simp only [List.mem_cons, List.not_mem_nil, or_false] at hk
  rcases hk with rfl | rfl | rfl | rfl | rfl | rfl | rfl | rfl | rfl | rfl | rfl <;> rfl
 by_cases hm : t ∈ [kScript, kSend, kExpect, kOn, kTimeout, kEof, kGoto, kPause, kDone, kFail, kLabel]
 ·exact h t hm rfl
 ·simp only [List.mem_cons, List.not_mem_nil, or_false, not_or] at hm
  obtain ⟨n1, n2, n3, n4, n5, n6, n7, n8, n9, n10, n11⟩ := hm
  unfold shapeD shapesD isArm isOp
  simp only [lookD]
  rw [if_neg (Ne.symm n1), if_neg (Ne.symm n2), if_neg (Ne.symm n3), if_neg (Ne.symm n4), if_neg (Ne.symm n5), if_neg (Ne.symm n6), if_neg (Ne.symm n7), if_neg (Ne.symm n8), if_neg (Ne.symm n9), if_neg (Ne.symm n10), if_neg (Ne.symm n11)]
  simp [n1, n2, n3, n4, n5, n6, n7, n8, n9, n10, n11]
theorem readE_rest (s : List UInt8) (he : (wordsM s).2.2 = 0) : readE d s = if placeD d (wsAt (wordsM s).1 0) ≠ 0 then (0, placeD d (wsAt (wordsM s).1 0)) else formD d (wordsM s).1 s.length (shapeD (wsAt (wordsM s).1 0).text).1 0 := by
 unfold readE
 rw [if_neg (by omega)]
theorem line_out (hr : Rel m d) (h0 : m.st.bad = 0) (i : Nat) (s : List UInt8) (hi : idleB s = false) : Out (mOne m i s) (takeD d (wordsM s).1 ((i : Nat) + 1)) ((i : Nat) + 1) (readE d s) := by
 unfold mOne
 rw [if_neg (by rw [hi]; simp)]
 have hrl : Rel (mLine m i s) d := ⟨hr.name, hr.dl, hr.jm, hr.ops, hr.uses, hr.head, hr.opn, hr.t0, hr.t1, hr.lb, hr.lbp, hr.lbd⟩
 have hb : (mLine m i s).st.bad = 0 := h0
 by_cases he : (wordsM s).2.2 = 0
 case neg =>
  rw [if_pos he]
  have e : readE d s = ((wordsM s).2.1, (wordsM s).2.2) := by unfold readE; rw [if_pos he]
  rw [e]
  refine out_bad ?_
  unfold mFail
  simp only
  rw [failS_ok hb]
  exact ⟨rfl, rfl, rfl, he⟩
 rw [if_neg (by omega), readE_rest s he]
 have hne := wordsM_ne he hi
 have hln : (mLine m i s).line = ((i : Nat) : Int) + 1 := rfl
 generalize hl : (wordsM s).1 = l at *
 have hws : (mLine m i s).ws = l := hl
 have hwd : (mLine m i s).width = (s.length : Nat) := rfl
 have hnx : (mLine m i s).st.nx = 0 := rfl
 generalize mLine m i s = M at *
 generalize s.length = width at *
 rw [← hln]
 have hrn : Rel (mNext M) d := ⟨hrl.name, hrl.dl, hrl.jm, hrl.ops, hrl.uses, hrl.head, hrl.opn, hrl.t0, hrl.t1, hrl.lb, hrl.lbp, hrl.lbd⟩
 have hbn : (mNext M).st.bad = 0 := hb
 have hnn : (mNext M).st.nx = 1 := by show M.st.nx + 1 = 1; rw [hnx]
 have hwn : (mNext M).ws = l := hws
 have hdn : (mNext M).width = (width : Nat) := hwd
 have hlnn : (mNext M).line = M.line := rfl
 have hsay : sayW M = wsAt l 0 := by unfold sayW; rw [hws, hnx]
 have hkn : knownB M = false ↔ ((wsAt l 0).quoted = true ∨ (shapeD (wsAt l 0).text).2 = false ∨ decide ((wsAt l 0).text = kScript) = d.head) := by
  unfold knownB
  rw [hsay, hrl.head, shape_known]
  cases (wsAt l 0).quoted
  ·by_cases hsc : (wsAt l 0).text = kScript
   ·rw [if_pos hsc]
    cases d.head <;> simp [hsc]
   ·rw [if_neg hsc]
    cases hx : (isArm (wsAt l 0).text || isOp (wsAt l 0).text) <;> cases d.head <;> simp [hsc, hx] at *
    all_goals simp [hx]
  ·simp
 unfold mSay
 rw [hsay]
 by_cases hk : knownB M = false
 ·rw [if_pos hk]
  have hp : placeD d (wsAt l 0) = 11 := by unfold placeD; rw [if_pos (hkn.1 hk)]
  rw [hp, if_pos (show (11 : Nat) ≠ 0 by decide)]
  refine out_bad ?_
  unfold mFail
  simp only
  rw [failS_ok hbn]
  exact ⟨rfl, rfl, rfl, Nat.succ_ne_zero _⟩
 ·rw [if_neg hk]
  have hpl : placeD d (wsAt l 0) = if isArm (wsAt l 0).text = true then
   (if d.opn = false then 8 else if (wsAt l 0).text = kOn ∧ 7 < (lastD d).arms.length then 4 else if ((wsAt l 0).text = kTimeout ∧ d.tm = true) ∨ ((wsAt l 0).text = kEof ∧ d.ef = true) then 6 else 0)
   else if (wsAt l 0).text ≠ kScript ∧ (wsAt l 0).text ≠ kLabel ∧ 199 < d.ops.length then 4 else 0 := by
   unfold placeD
   rw [if_neg (fun h => hk (hkn.2 h))]
  have hw11 : (wsAt l 0).text = kScript ∨ isArm (wsAt l 0).text = true ∨ isOp (wsAt l 0).text = true := by
   have h2 : (shapeD (wsAt l 0).text).2 = true := by
    cases h3 : (shapeD (wsAt l 0).text).2 with
    | true => rfl
    | false => exact absurd (hkn.2 (Or.inr (Or.inl h3))) hk
   rw [shape_known] at h2
   simpa using h2
  clear hkn hk
  rw [hpl]
  clear hpl
  generalize hN : mNext M = N at *
  rw [← hlnn]
  rcases hw11 with ht | ht | ht
  ·rw [ht]
   unfold mSay1
   rw [if_pos (show kScript = kScript from rfl), if_neg (show ¬ isArm kScript = true by decide), if_neg (show ¬ (kScript ≠ kScript ∧ kScript ≠ kLabel ∧ 199 < d.ops.length) from fun h => h.1 rfl), if_neg (show ¬ ((0 : Nat) ≠ 0) by decide)]
   exact script_out hrn hbn hnn hwn hdn ht
  ·unfold mSay1
   rw [if_neg (show ¬ (wsAt l 0).text = kScript from fun h => by rw [h] at ht; exact absurd ht (by decide)), if_pos ht, if_pos ht]
   by_cases ho : d.opn = false
   ·rw [if_pos ho, if_pos (show (8 : Nat) ≠ 0 by decide)]
    exact arm_shut hrn hbn _ ho _
   rw [if_neg ho]
   have ho2 : d.opn = true := by simpa using ho
   unfold isArm at ht
   simp only [Bool.or_eq_true, decide_eq_true_eq] at ht
   rcases ht with ht | ht | ht
   ·rw [ht]
    by_cases h8 : 7 < (lastD d).arms.length
    ·rw [if_pos (show kOn = kOn ∧ 7 < (lastD d).arms.length from ⟨rfl, h8⟩), if_pos (show (4 : Nat) ≠ 0 by decide)]
     exact on_long hrn hbn ho2 h8 _
    ·rw [if_neg (show ¬ (kOn = kOn ∧ 7 < (lastD d).arms.length) from fun h => h8 h.2), if_neg (show ¬ ((kOn = kTimeout ∧ d.tm = true) ∨ (kOn = kEof ∧ d.ef = true)) from fun h => by rcases h with h | h <;> exact absurd h.1 (by decide)), if_neg (show ¬ ((0 : Nat) ≠ 0) by decide)]
     exact on_out hrn hbn hnn hwn hdn ht ho2 h8
   ·rw [ht, if_neg (show ¬ (kTimeout = kOn ∧ 7 < (lastD d).arms.length) from fun h => absurd h.1 (by decide))]
    cases htm : d.tm with
    | true =>
     rw [if_pos (show (kTimeout = kTimeout ∧ true = true) ∨ (kTimeout = kEof ∧ d.ef = true) from Or.inl ⟨rfl, rfl⟩), if_pos (show (6 : Nat) ≠ 0 by decide)]
     exact timeout_dup hrn hbn ho2 htm _
    | false =>
     rw [if_neg (show ¬ ((kTimeout = kTimeout ∧ false = true) ∨ (kTimeout = kEof ∧ d.ef = true)) from fun h => by rcases h with h | h; exact absurd h.2 (by decide); exact absurd h.1 (by decide)), if_neg (show ¬ ((0 : Nat) ≠ 0) by decide)]
     exact timeout_out hrn hbn hnn hwn hdn ht ho2 htm
   ·rw [ht, if_neg (show ¬ (kEof = kOn ∧ 7 < (lastD d).arms.length) from fun h => absurd h.1 (by decide))]
    cases htm : d.ef with
    | true =>
     rw [if_pos (show (kEof = kTimeout ∧ d.tm = true) ∨ (kEof = kEof ∧ true = true) from Or.inr ⟨rfl, rfl⟩), if_pos (show (6 : Nat) ≠ 0 by decide)]
     exact eof_dup hrn hbn ho2 htm _
    | false =>
     rw [if_neg (show ¬ ((kEof = kTimeout ∧ d.tm = true) ∨ (kEof = kEof ∧ false = true)) from fun h => by rcases h with h | h; exact absurd h.1 (by decide); exact absurd h.2 (by decide)), if_neg (show ¬ ((0 : Nat) ≠ 0) by decide)]
     exact eof_out hrn hbn hnn hwn hdn ht ho2 htm
  ·have hna : isArm (wsAt l 0).text = false := by
    unfold isOp at ht
    simp only [Bool.or_eq_true, decide_eq_true_eq] at ht
    rcases ht with ht | ht | ht | ht | ht | ht | ht <;> rw [ht] <;> rfl
   have hns : (wsAt l 0).text ≠ kScript := by
    intro h
    rw [h] at ht
    exact absurd ht (by decide)
   unfold mSay1
   have hna2 : ¬ isArm (wsAt l 0).text = true := by rw [hna]; simp
   rw [if_neg hns, if_neg hna2, if_neg hna2]
   by_cases hll : (wsAt l 0).text = kLabel
   ·rw [if_neg (show ¬ ((wsAt l 0).text ≠ kScript ∧ (wsAt l 0).text ≠ kLabel ∧ 199 < d.ops.length) from fun h => h.2.1 hll), if_neg (show ¬ ((0 : Nat) ≠ 0) by decide), hll]
    exact label_out hrn hbn hnn hwn hdn hll
   by_cases h2 : 199 < d.ops.length
   ·rw [if_pos (show (wsAt l 0).text ≠ kScript ∧ (wsAt l 0).text ≠ kLabel ∧ 199 < d.ops.length from ⟨hns, hll, h2⟩), if_pos (show (4 : Nat) ≠ 0 by decide)]
    have e := ops_long (m := N) hbn (by rw [hrn.ops]; omega) _ ht hll
    refine out_bad ?_
    rw [mRest_bad (by rw [e]; show (4 : Int) ≠ 0; decide), e]
    exact ⟨rfl, rfl, rfl, Nat.succ_ne_zero _⟩
   ·rw [if_neg (show ¬ ((wsAt l 0).text ≠ kScript ∧ (wsAt l 0).text ≠ kLabel ∧ 199 < d.ops.length) from fun h => h2 h.2.2), if_neg (show ¬ ((0 : Nat) ≠ 0) by decide)]
    have h3 : ¬ 200 ≤ N.ops.length := by rw [hrn.ops]; omega
    unfold isOp at ht
    simp only [Bool.or_eq_true, decide_eq_true_eq] at ht
    rcases ht with ht | ht | ht | ht | ht | ht | ht
    ·rw [ht]; exact send_out hrn hbn hnn hwn hdn ht h3
    ·rw [ht]; exact expect_out hrn hbn hnn hwn hdn ht h3
    ·rw [ht]; exact goto_out hrn hbn hnn hwn hdn ht h3
    ·rw [ht]; exact pause_out hrn hbn hnn hwn hdn ht h3
    ·rw [ht]; exact done_out hrn hbn hnn hwn ht h3
    ·rw [ht]; exact fail_out hrn hbn hnn hwn ht h3
    ·exact absurd ht hll
end
theorem go_same (l : List (List UInt8)) : ∀ (f i : Nat) (m : PM) (d : DM), Rel m d → m.st.bad = 0 → endP (mGo l f i m) = endD (dGo l f i d)
 | 0, i, m, d, hr, h0 => by
  unfold mGo dGo endP endD
  simp only
  rw [if_neg (by omega), hr.head]
  split
  ·rfl
  ·have e : ∀ (us : List UseM) (ops : List OpM), mRes m.labels us ops = dRes d.labels us ops := by
    intro us
    induction us with
    | nil => intro ops; rfl
    | cons u r ih =>
     intro ops
     unfold mRes dRes
     have h1 := hr.has u.name
     have h2 := hr.lb u.name
     cases hc : lbF u.name m.labels with
     | none =>
      rw [hc] at h2
      rw [if_pos (by rw [h2]; decide)]
     | some v =>
      have := hr.lbp _ _ hc
      rw [hc] at h2
      rw [if_neg (by rw [h2]; show ¬ v < 0; omega)]
      show mRes m.labels r (setUse ops u v) = _
      rw [ih, h2]
      rfl
   rw [e, hr.ops, hr.uses, hr.name, hr.dl, hr.jm]
   all_goals (split <;> rename_i h <;> rw [h])
 | f + 1, i, m, d, hr, h0 => by
  unfold mGo dGo
  rw [if_neg (by omega)]
  by_cases hi : idleB (l.getD i []) = true
  ·rw [if_pos hi]
   have e : mOne m i (l.getD i []) = m := by unfold mOne; rw [if_pos hi]
   rw [e]
   exact go_same l f (i + 1) m d hr h0
  ·rw [if_neg hi]
   have h := line_out hr h0 i (l.getD i []) (by simpa using hi)
   generalize mOne m i (l.getD i []) = m' at h ⊢
   generalize readE d (l.getD i []) = x at h ⊢
   unfold Out at h
   by_cases hx : x.2 = 0
   ·rw [if_pos hx] at h
    rw [if_neg (by omega)]
    exact go_same l f (i + 1) m' _ h.2 h.1
   ·rw [if_neg hx] at h
    rw [if_pos hx]
    have hb := h.ne
    have hg : ∀ f i, mGo l f i m' = m' := by
     intro f i
     cases f with
     | zero => rfl
     | succ f => unfold mGo; rw [if_pos hb]
    rw [hg]
    unfold endP endD
    simp only
    rw [if_pos hb, h.1, h.2.1, h.2.2.1]
theorem parse_same (s : List UInt8) : parseM s = parseD s :=
 go_same _ _ _ _ _ ⟨rfl, rfl, rfl, rfl, rfl, rfl, rfl, fun h => absurd h (by decide), fun h => absurd h (by decide), fun _ => rfl, fun k v h => (by cases h), fun p hp => (by cases hp)⟩ rfl
end Go.Proofs.YtaioaojfdngfdaaGreatDoor
