/- Parts of a chain of lemmas: ParE, ParF, ParG. Conditions: those of each theorem. -/
import Derived.Test.YtaioaojfdngfdaaGreatDoorNb04
set_option linter.unusedVariables false
set_option linter.unusedSimpArgs false
namespace Go.Proofs.YtaioaojfdngfdaaGreatDoor
/-- what is wrong of the word behind i others -/
def argE (l : List WordM) (width : Nat) (c : UInt8) (i : Nat) : Option (Nat × Nat) :=
 if l.length ≤ i + 1 then some (width, 3) else if wrongD c (wsAt l (i + 1)) ≠ 0 then some ((wsAt l (i + 1)).at_, wrongD c (wsAt l (i + 1))) else none
theorem form_cons (d : DM) (l : List WordM) (width : Nat) (c : UInt8) (r : List UInt8) (i : Nat) : formD d l width (c :: r) i =
 match argE l width c i with
 | some x => x
 | none => if (wsAt l 0).text = kLabel ∧ 0 ≤ findD (wsAt l 1).text d.labels then ((wsAt l 1).at_, 6) else formD d l width r (i + 1) := by
 conv => lhs; unfold formD
 unfold argE
 split
 ·rfl
 split
 ·rfl
 ·rfl
/-- wrong, at a column of the line -/
def Bad (s : St) (line : Int) (x : Nat × Nat) : Prop := s.bad = (x.2 : Nat) ∧ s.sl = line ∧ s.sc = (x.1 : Nat) + 1 ∧ x.2 ≠ 0
theorem Bad.ne {s : St} {line : Int} {x : Nat × Nat} (h : Bad s line x) : s.bad ≠ 0 := by have := h.1; have := h.2.2.2; omega
theorem fail_bad {s : St} {line : Int} {x : Nat × Nat} (h : Bad s line x) (l c e : Int) : failS l s c e = s := by unfold failS; rw [if_neg h.ne]
theorem word_bad {s : St} (h : s.bad ≠ 0) (line width : Int) (ws : List WordM) (q : Bool) : wordS line width ws s q = ((w0, false), s) := by unfold wordS; rw [if_pos h]
theorem name_bad {s : St} (h : s.bad ≠ 0) (line width : Int) (ws : List WordM) : nameS line width ws s = (w0, s) := by unfold nameS; rw [word_bad h]; simp
theorem ticks_bad {s : St} (h : s.bad ≠ 0) (line width : Int) (ws : List WordM) (a : Int) (b : Bool) : ticksS line width ws s a b = (0, s) := by unfold ticksS; rw [word_bad h]; simp
theorem text_bad {s : St} (h : s.bad ≠ 0) (line width : Int) (ws : List WordM) : textS line width ws s = ([], s) := by unfold textS; rw [word_bad h]; simp [textE, w0]
theorem pat_bad {s : St} (h : s.bad ≠ 0) (line width : Int) (ws : List WordM) : patternS line width ws s = ([], s) := by unfold patternS; rw [word_bad h]; simp
theorem failS_ne {s : St} (h : s.bad ≠ 0) (l c e : Int) : failS l s c e = s := by unfold failS; rw [if_neg h]
theorem failS_ok {s : St} (h : s.bad = 0) (l c e : Int) : failS l s c e = ⟨s.nx, l, c + 1, e⟩ := by unfold failS; rw [if_pos h]
/-- the next word as it should be -/
theorem word_ok {s : St} {line : Int} {width : Nat} {ws : List WordM} {q : Bool} {i : Nat} (h : s.bad = 0) (hn : s.nx = i + 1) (hl : ¬ ws.length ≤ i + 1) (hq : (wsAt ws (i + 1)).quoted = q) :
 wordS line width ws s q = ((wsAt ws (i + 1), true), ⟨i + 2, s.sl, s.sc, 0⟩) := by
 unfold wordS; rw [if_neg (by omega), hn, if_neg hl, if_neg (by simpa using hq), h]
theorem word_end {s : St} {line : Int} {width : Nat} {ws : List WordM} {q : Bool} {i : Nat} (h : s.bad = 0) (hn : s.nx = i + 1) (hl : ws.length ≤ i + 1) :
 (wordS line width ws s q).1.2 = false ∧ (wordS line width ws s q).1.1 = w0 ∧ Bad (wordS line width ws s q).2 line (width, 3) := by
 unfold wordS; rw [if_neg (by omega), hn, if_pos hl]
 exact ⟨rfl, rfl, rfl, rfl, rfl, Nat.succ_ne_zero _⟩
theorem word_form {s : St} {line : Int} {width : Nat} {ws : List WordM} {q : Bool} {i : Nat} (h : s.bad = 0) (hn : s.nx = i + 1) (hl : ¬ ws.length ≤ i + 1) (hq : (wsAt ws (i + 1)).quoted ≠ q) :
 (wordS line width ws s q).1.2 = false ∧ (wordS line width ws s q).1.1 = wsAt ws (i + 1) ∧ Bad (wordS line width ws s q).2 line ((wsAt ws (i + 1)).at_, 2) := by
 unfold wordS; rw [if_neg (by omega), hn, if_neg hl, if_pos hq]
 exact ⟨rfl, rfl, rfl, rfl, rfl, Nat.succ_ne_zero _⟩
/-- what a word of a kind comes to: wrong as told, or right, with its value -/
def Arg {α : Type} (r : α × St) (s : St) (line : Int) (ws : List WordM) (width : Nat) (c : UInt8) (i : Nat) (f : WordM → α) : Prop :=
 match argE ws width c i with
 | some x => Bad r.2 line x
 | none => r = (f (wsAt ws (i + 1)), ⟨i + 2, s.sl, s.sc, 0⟩)
theorem arg_end {α : Type} {r : α × St} {s : St} {line : Int} {ws : List WordM} {width : Nat} {c : UInt8} {i : Nat} {f : WordM → α} (hl : ws.length ≤ i + 1) (h : Bad r.2 line (width, 3)) : Arg r s line ws width c i f := by
 unfold Arg argE; rw [if_pos hl]; exact h
theorem arg_wrong {α : Type} {r : α × St} {s : St} {line : Int} {ws : List WordM} {width : Nat} {c : UInt8} {i e : Nat} {f : WordM → α} (hl : ¬ ws.length ≤ i + 1) (he : wrongD c (wsAt ws (i + 1)) = e) (h0 : e ≠ 0) (h : Bad r.2 line ((wsAt ws (i + 1)).at_, e)) : Arg r s line ws width c i f := by
 unfold Arg argE; rw [if_neg hl, he, if_pos h0]; exact h
theorem arg_right {α : Type} {r : α × St} {s : St} {line : Int} {ws : List WordM} {width : Nat} {c : UInt8} {i : Nat} {f : WordM → α} (hl : ¬ ws.length ≤ i + 1) (he : wrongD c (wsAt ws (i + 1)) = 0) (h : r = (f (wsAt ws (i + 1)), ⟨i + 2, s.sl, s.sc, 0⟩)) : Arg r s line ws width c i f := by
 unfold Arg argE; rw [if_neg hl, if_neg (by omega)]; exact h
theorem fail_now {i : Nat} {a b line : Int} {x e : Nat} (he : e ≠ 0) : Bad (failS line ⟨i, a, b, 0⟩ x (e : Nat)) line (x, e) := by
 rw [failS_ok rfl]; exact ⟨rfl, rfl, rfl, he⟩
section
variable {s : St} {line : Int} {ws : List WordM} {width i : Nat}
theorem name_arg (c : UInt8) (hc : c = 110 ∨ c = 108) (h : s.bad = 0) (hn : s.nx = i + 1) : Arg (nameS line width ws s) s line ws width c i (fun w => w) := by
 have hw : ∀ w : WordM, wrongD c w = if w.quoted = true then 2 else if nameL w.text = false then 10 else 0 := by
  intro w
  unfold wrongD
  rcases hc with rfl | rfl <;> cases w.quoted <;> simp
 by_cases hl : ws.length ≤ i + 1
 ·obtain ⟨h1, h2, h3⟩ := word_end (line := line) (width := width) (q := false) h hn hl
  refine arg_end hl ?_
  unfold nameS
  rw [h1, if_neg (by simp)]
  exact h3
 by_cases hq : (wsAt ws (i + 1)).quoted = true
 ·obtain ⟨h1, h2, h3⟩ := word_form (line := line) (width := width) (q := false) h hn hl (by rw [hq]; simp)
  refine arg_wrong (e := 2) hl (by rw [hw, if_pos hq]) (by decide) ?_
  unfold nameS
  rw [h1, if_neg (by simp)]
  exact h3
 ·have hk := word_ok (line := line) (width := width) (q := false) h hn hl (by simpa using hq)
  unfold nameS
  rw [hk]
  simp only [true_and]
  by_cases hnm : nameL (wsAt ws (i + 1)).text = false
  ·refine arg_wrong (e := 10) hl (by rw [hw, if_neg hq, if_pos hnm]) (by decide) ?_
   rw [if_pos hnm]
   exact fail_now (by decide)
  ·refine arg_right hl (by rw [hw, if_neg hq, if_neg hnm]) ?_
   rw [if_neg hnm]
theorem text_arg (h : s.bad = 0) (hn : s.nx = i + 1) : Arg (textS line width ws s) s line ws width 113 i (fun w => w.text) := by
 have hw : ∀ w : WordM, wrongD 113 w = if w.quoted = false then 2 else if w.text.length = 0 then 9 else if 256 < w.text.length then 4 else 0 := by
  intro w
  unfold wrongD
  cases w.quoted <;> simp
 by_cases hl : ws.length ≤ i + 1
 ·obtain ⟨h1, h2, h3⟩ := word_end (line := line) (width := width) (q := true) h hn hl
  refine arg_end hl ?_
  unfold textS textE
  rw [h1, if_pos rfl, if_neg (by decide)]
  exact h3
 by_cases hq : (wsAt ws (i + 1)).quoted = false
 ·obtain ⟨h1, h2, h3⟩ := word_form (line := line) (width := width) (q := true) h hn hl (by rw [hq]; simp)
  refine arg_wrong (e := 2) hl (by rw [hw, if_pos hq]) (by decide) ?_
  unfold textS textE
  rw [h1, if_pos rfl, if_neg (by decide)]
  exact h3
 ·have hk := word_ok (line := line) (width := width) (q := true) h hn hl (by simpa using hq)
  unfold textS textE
  rw [hk]
  simp only [Bool.true_eq_false, if_false]
  by_cases h9 : (wsAt ws (i + 1)).text.length = 0
  ·refine arg_wrong (e := 9) hl (by rw [hw, if_neg hq, if_pos h9]) (by decide) ?_
   rw [if_pos h9, if_pos (by decide)]
   exact fail_now (e := 9) (by decide)
  by_cases h4 : 256 < (wsAt ws (i + 1)).text.length
  ·refine arg_wrong (e := 4) hl (by rw [hw, if_neg hq, if_neg h9, if_pos h4]) (by decide) ?_
   rw [if_neg h9, if_pos h4, if_pos (by decide)]
   exact fail_now (e := 4) (by decide)
  ·refine arg_right hl (by rw [hw, if_neg hq, if_neg h9, if_neg h4]) ?_
   rw [if_neg h9, if_neg h4, if_neg (by decide)]
theorem pat_arg (h : s.bad = 0) (hn : s.nx = i + 1) : Arg (patternS line width ws s) s line ws width 112 i (fun w => w.text) := by
 have hw : ∀ w : WordM, wrongD 112 w = if w.quoted = false then 2 else if 64 < w.text.length then 4 else (checkS w.text).2 := by
  intro w
  unfold wrongD
  cases w.quoted <;> simp
 by_cases hl : ws.length ≤ i + 1
 ·obtain ⟨h1, h2, h3⟩ := word_end (line := line) (width := width) (q := true) h hn hl
  refine arg_end hl ?_
  unfold patternS
  rw [h1, if_pos rfl]
  exact h3
 by_cases hq : (wsAt ws (i + 1)).quoted = false
 ·obtain ⟨h1, h2, h3⟩ := word_form (line := line) (width := width) (q := true) h hn hl (by rw [hq]; simp)
  refine arg_wrong (e := 2) hl (by rw [hw, if_pos hq]) (by decide) ?_
  unfold patternS
  rw [h1, if_pos rfl]
  exact h3
 ·have hk := word_ok (line := line) (width := width) (q := true) h hn hl (by simpa using hq)
  unfold patternS
  rw [hk]
  simp only [Bool.true_eq_false, if_false]
  by_cases h4 : 64 < (wsAt ws (i + 1)).text.length
  ·refine arg_wrong (e := 4) hl (by rw [hw, if_neg hq, if_pos h4]) (by decide) ?_
   rw [if_pos h4]
   exact fail_now (e := 4) (by decide)
  rw [if_neg h4]
  by_cases h0 : (checkS (wsAt ws (i + 1)).text).2 = 0
  ·refine arg_right hl (by rw [hw, if_neg hq, if_neg h4, h0]) ?_
   rw [if_neg (by omega)]
  ·refine arg_wrong (e := (checkS (wsAt ws (i + 1)).text).2) hl (by rw [hw, if_neg hq, if_neg h4]) h0 ?_
   rw [if_pos (by omega)]
   exact fail_now h0
/-- the program's numbers are the document's -/
theorem num_same (t : List UInt8) (c : UInt8) (least most : Int) (hm : most = if c = 106 then 1000 else 1000000000000) (hl : least = if c = 100 then 1 else 0) (hx : ¬ (t = neverL ∧ (c = 100 ∨ c = 101))) (h0 : 0 ≤ (numberP t most).1) :
 numE t least most = ((numberD c t).2 : Nat) ∧ ((numberD c t).2 = 0 → (numberP t most).1 = (numberD c t).1) := by
 unfold numberD numE
 rw [if_neg hx, ← hm]
 by_cases hc : c = 100
 ·rw [if_pos hc] at hl
  by_cases hz : (numberP t most).2 = 0 ∧ (numberP t most).1 < least
  ·rw [if_pos hz, if_pos ⟨hz.1, hc, by omega⟩]
   exact ⟨rfl, fun h => absurd h (by decide)⟩
  ·rw [if_neg hz, if_neg (fun h => hz ⟨h.1, by omega⟩)]
   exact ⟨rfl, fun _ => rfl⟩
 ·rw [if_neg hc] at hl
  rw [if_neg (fun h => by omega), if_neg (fun h => hc h.2.1)]
  exact ⟨rfl, fun _ => rfl⟩
theorem tickP_ge (t : List UInt8) : 0 ≤ (tickP t).1 := by
 unfold tickP
 split
 ·simp
 split
 ·simp
 split
 ·simp
 split
 ·simp
 ·simp
theorem numberP_ge (t : List UInt8) (most : Int) : 0 ≤ (numberP t most).1 := by
 unfold numberP
 split
 ·simp
 ·exact tickP_ge t
theorem ticks_arg (c : UInt8) (least : Int) (ever : Bool) (hc : (c = 100 ∧ least = 1 ∧ ever = true) ∨ (c = 101 ∧ least = 0 ∧ ever = true) ∨ (c = 116 ∧ least = 0 ∧ ever = false)) (h : s.bad = 0) (hn : s.nx = i + 1) :
 Arg (ticksS line width ws s least ever) s line ws width c i (fun w => (numberD c w.text).1) := by
 have hw : ∀ w : WordM, wrongD c w = if w.quoted = true then 2 else (numberD c w.text).2 := by
  intro w
  unfold wrongD
  rcases hc with ⟨rfl, _⟩ | ⟨rfl, _⟩ | ⟨rfl, _⟩ <;> cases w.quoted <;> simp
 by_cases hl : ws.length ≤ i + 1
 ·obtain ⟨h1, h2, h3⟩ := word_end (line := line) (width := width) (q := false) h hn hl
  refine arg_end hl ?_
  unfold ticksS
  rw [h1, if_pos rfl]
  exact h3
 by_cases hq : (wsAt ws (i + 1)).quoted = true
 ·obtain ⟨h1, h2, h3⟩ := word_form (line := line) (width := width) (q := false) h hn hl (by rw [hq]; simp)
  refine arg_wrong (e := 2) hl (by rw [hw, if_pos hq]) (by decide) ?_
  unfold ticksS
  rw [h1, if_pos rfl]
  exact h3
 ·have hk := word_ok (line := line) (width := width) (q := false) h hn hl (by simpa using hq)
  unfold ticksS
  rw [hk]
  simp only [Bool.true_eq_false, if_false]
  by_cases hnv : ever = true ∧ (wsAt ws (i + 1)).text = neverL
  ·have hd : numberD c (wsAt ws (i + 1)).text = (9223372036854775807, 0) := by
    unfold numberD
    rw [if_pos ⟨hnv.2, by rcases hc with h | h | h; exact Or.inl h.1; exact Or.inr h.1; exact absurd hnv.1 (by rw [h.2.2]; simp)⟩]
   refine arg_right hl (by rw [hw, if_neg hq, hd]) ?_
   rw [if_pos hnv, hd]
  ·rw [if_neg hnv]
   have hx : ¬ ((wsAt ws (i + 1)).text = neverL ∧ (c = 100 ∨ c = 101)) := by
    rintro ⟨h1, h2⟩
    refine hnv ⟨?_, h1⟩
    rcases hc with h | h | h
    ·exact h.2.2
    ·exact h.2.2
    ·rcases h2 with h2 | h2 <;> rw [h.1] at h2 <;> exact absurd h2 (by decide)
   obtain ⟨e1, e2⟩ := num_same (wsAt ws (i + 1)).text c least 1000000000000 (by rcases hc with h | h | h <;> rw [h.1] <;> decide) (by rcases hc with h | h | h <;> rw [h.1, h.2.1] <;> decide) hx (numberP_ge _ _)
   unfold numS
   rw [e1]
   by_cases h0 : (numberD c (wsAt ws (i + 1)).text).2 = 0
   ·refine arg_right hl (by rw [hw, if_neg hq, h0]) ?_
    rw [if_neg (by omega), e2 h0]
   ·refine arg_wrong (e := (numberD c (wsAt ws (i + 1)).text).2) hl (by rw [hw, if_neg hq]) h0 ?_
    rw [if_pos (by omega)]
    exact fail_now h0
/-- the jumps of a head -/
def jumpsR (line : Int) (width : Int) (ws : List WordM) (s : St) (j : Int) : Int × St :=
 if (wordS line width ws s false).1.2 = true then numS line (wordS line width ws s false).2 (wordS line width ws s false).1.1 0 1000 else (j, (wordS line width ws s false).2)
theorem jumps_arg (j : Int) (h : s.bad = 0) (hn : s.nx = i + 1) : Arg (jumpsR line width ws s j) s line ws width 106 i (fun w => (numberD 106 w.text).1) := by
 have hw : ∀ w : WordM, wrongD 106 w = if w.quoted = true then 2 else (numberD 106 w.text).2 := by
  intro w
  unfold wrongD
  cases w.quoted <;> simp
 by_cases hl : ws.length ≤ i + 1
 ·obtain ⟨h1, h2, h3⟩ := word_end (line := line) (width := width) (q := false) h hn hl
  refine arg_end hl ?_
  unfold jumpsR
  rw [h1, if_neg (by simp)]
  exact h3
 by_cases hq : (wsAt ws (i + 1)).quoted = true
 ·obtain ⟨h1, h2, h3⟩ := word_form (line := line) (width := width) (q := false) h hn hl (by rw [hq]; simp)
  refine arg_wrong (e := 2) hl (by rw [hw, if_pos hq]) (by decide) ?_
  unfold jumpsR
  rw [h1, if_neg (by simp)]
  exact h3
 ·have hk := word_ok (line := line) (width := width) (q := false) h hn hl (by simpa using hq)
  unfold jumpsR
  rw [hk]
  simp only [if_true]
  obtain ⟨e1, e2⟩ := num_same (wsAt ws (i + 1)).text 106 0 1000 (by decide) (by decide) (fun h => by rcases h.2 with h | h <;> exact absurd h (by decide)) (numberP_ge _ _)
  unfold numS
  rw [e1]
  by_cases h0 : (numberD 106 (wsAt ws (i + 1)).text).2 = 0
  ·refine arg_right hl (by rw [hw, if_neg hq, h0]) ?_
   rw [if_neg (by omega), e2 h0]
  ·refine arg_wrong (e := (numberD 106 (wsAt ws (i + 1)).text).2) hl (by rw [hw, if_neg hq]) h0 ?_
   rw [if_pos (by omega)]
   exact fail_now h0
end
end Go.Proofs.YtaioaojfdngfdaaGreatDoor
namespace Go.Proofs.YtaioaojfdngfdaaGreatDoor
set_option linter.unusedSectionVars false
structure Rel (m : PM) (d : DM) : Prop where
 name : m.name = d.name
 dl : m.dl = d.dl
 jm : m.jm = d.jm
 ops : m.ops = d.ops
 uses : m.uses = d.uses
 head : m.head = d.head
 opn : m.opn = d.opn
 t0 : d.opn = true → m.t0 = d.tm
 t1 : d.opn = true → m.t1 = d.ef
 lb : ∀ k, findD k d.labels = (lbF k m.labels).getD (-1)
 lbp : ∀ k v, lbF k m.labels = some v → 0 ≤ v
 lbd : ∀ p ∈ d.labels, 0 ≤ p.2
/-- what comes of a line -/
def Out (m : PM) (d : DM) (line : Int) (x : Nat × Nat) : Prop := if x.2 = 0 then m.st.bad = 0 ∧ Rel m d else Bad m.st line x
theorem out_bad {m : PM} {d : DM} {line : Int} {x : Nat × Nat} (h : Bad m.st line x) : Out m d line x := by unfold Out; rw [if_neg h.2.2.2]; exact h
theorem out_ok {m : PM} {d : DM} {line : Int} (h : m.st.bad = 0) (hr : Rel m d) : Out m d line (0, 0) := ⟨h, hr⟩
theorem wordsGo_ne : ∀ (f : Nat) (L : List UInt8) (i : Nat) (out : List WordM), (wordsGo f L i out).2.2 = 0 → (wordsGo f L i out).1 ≠ []
 | 0, L, i, out, h => by unfold wordsGo at h; exact absurd h (Nat.succ_ne_zero _)
 | f + 1, L, i, out, h => by
  unfold wordsGo at h ⊢
  split at h
  ·exact absurd h (by assumption)
  rename_i h1
  rw [if_neg h1]
  split at h
  ·rename_i h2
   rw [if_pos h2]
   simp
  rename_i h2
  rw [if_neg h2]
  split at h
  ·exact absurd h (Nat.succ_ne_zero _)
  rename_i h3
  rw [if_neg h3]
  exact wordsGo_ne f L _ _ h
theorem wordsM_ne {s : List UInt8} (h : (wordsM s).2.2 = 0) (hi : idleB s = false) : (wordsM s).1 ≠ [] := by
 have hl : s.length ≠ 0 := by
  intro e
  unfold idleB at hi
  rw [e] at hi
  simp at hi
 unfold wordsM at h ⊢
 split at h
 ·exact absurd h (by decide)
 rename_i h1
 rw [if_neg h1, if_neg hl]
 exact wordsGo_ne _ _ _ _ h
section
variable {m : PM}
theorem mName1_bad (h : m.st.bad ≠ 0) : (mName1 m).st = m.st := by unfold mName1 mName; rw [name_bad h]
theorem mDl_bad (h : m.st.bad ≠ 0) : (mDl m).st = m.st := by unfold mDl mTicks; rw [ticks_bad h]
theorem mJumps_bad (h : m.st.bad ≠ 0) : (mJumps m).st = m.st := by unfold mJumps; rw [word_bad h]; simp
theorem mLabel_bad (h : m.st.bad ≠ 0) (how : Int) : (mLabel m how).st = m.st := by unfold mLabel mName; rw [name_bad h]
theorem mOp_bad (h : m.st.bad ≠ 0) (o : OpM) : (mOp m o).st = m.st := by unfold mOp; simp only; split; exact failS_ne h _ _ _; rfl
theorem mOp_long (h : m.st.bad = 0) (h2 : 200 ≤ m.ops.length) (o : OpM) : (mOp m o).st = ⟨m.st.nx, m.line, 1, 4⟩ := by unfold mOp; simp only; rw [if_pos h2, failS_ok h]; rfl
theorem mOp_ok (h2 : ¬ 200 ≤ m.ops.length) (o : OpM) : mOp m o = { m with ops := m.ops ++ [o] } := by unfold mOp; rw [if_neg h2]
theorem mSend_bad (h : (mOp m (oKind 1)).st.bad ≠ 0) : (mSend m).st = (mOp m (oKind 1)).st := by unfold mSend mLast mText; rw [text_bad h]
theorem mExpect_bad (h : (mOp m oExpect).st.bad ≠ 0) : (mExpect m).st = (mOp m oExpect).st := by unfold mExpect mLast mTicks; rw [ticks_bad h]
theorem mPause_bad (h : (mOp m (oKind 4)).st.bad ≠ 0) : (mPause m).st = (mOp m (oKind 4)).st := by unfold mPause mLast mTicks; rw [ticks_bad h]
theorem mRest_bad (h : m.st.bad ≠ 0) : mRest m = m := by unfold mRest; rw [if_neg (fun e => h e.1)]
end
/-- behind the last word -/
theorem rest_out {m : PM} {d d' : DM} {line : Int} {width i : Nat} {l : List WordM} (h : m.st.bad = 0) (hn : m.st.nx = i + 1) (hl : m.ws = l) (hln : m.line = line) (hr : ¬ i + 1 < l.length → Rel m d') : Out (mRest m) d' line (formD d l width [] i) := by
 subst hl hln
 unfold mRest formD
 rw [hn]
 by_cases hx : i + 1 < m.ws.length
 ·rw [if_pos ⟨h, hx⟩, if_pos hx]
  refine out_bad ?_
  unfold mFail
  simp only
  rw [failS_ok h]
  exact ⟨rfl, rfl, rfl, Nat.succ_ne_zero _⟩
 ·rw [if_neg (fun e => hx e.2), if_neg hx]
  exact out_ok h (hr hx)
theorem take_last1 {l : List WordM} (h : ¬ l.length ≤ 1) (h2 : ¬ 2 < l.length) : l.length - 1 = 1 := by omega
theorem take_last2 {l : List WordM} (h : ¬ l.length ≤ 2) (h2 : ¬ 3 < l.length) : l.length - 1 = 2 := by omega
/-- a line that is refused at its first word -/
theorem first_out {m : PM} {d : DM} {line : Int} {e : Nat} (hb : m.st.bad = e) (he : e ≠ 0) (hl : m.st.sl = line) (hc : m.st.sc = 1) : Out m d line (0, e) := out_bad ⟨hb, hl, by rw [hc]; rfl, he⟩
theorem last_getD (l : List WordM) (n : Nat) (h1 : ¬ l.length ≤ n) (h2 : ¬ n + 1 < l.length) : wsAt l (l.length - 1) = wsAt l n := by
 have : l.length - 1 = n := by omega
 rw [this]
end Go.Proofs.YtaioaojfdngfdaaGreatDoor
namespace Go.Proofs.YtaioaojfdngfdaaGreatDoor
set_option linter.unusedSectionVars false
theorem set_snoc {α : Type} (l : List α) (a b : α) : (l ++ [a]).set ((l ++ [a]).length - 1) b = l ++ [b] := by
 simp [List.set_append]
section
variable {m : PM} {d : DM} {l : List WordM} {width : Nat}
theorem mShut_ops : (mShut m).ops = m.ops := rfl
theorem ops_send (h2 : ¬ 200 ≤ m.ops.length) : mOps m kSend = { m with opn := false, ops := m.ops ++ [{ oKind 1 with text := bs (textS m.line m.width m.ws m.st).1 }], st := (textS m.line m.width m.ws m.st).2 } := by
 unfold mOps
 rw [if_pos rfl]
 unfold mSend mLast mText
 rw [mOp_ok (m := mShut m) h2]
 simp only [set_snoc]
 rfl
theorem ops_expect (h2 : ¬ 200 ≤ m.ops.length) : mOps m kExpect = { m with opn := true, t0 := false, t1 := false, ops := m.ops ++ [{ oExpect with n := (ticksS m.line m.width m.ws m.st 0 true).1 }], st := (ticksS m.line m.width m.ws m.st 0 true).2 } := by
 unfold mOps
 rw [if_neg (by decide), if_pos rfl]
 unfold mExpect mLast mTicks
 rw [mOp_ok (m := mShut m) h2]
 simp only [set_snoc]
 rfl
theorem ops_pause (h2 : ¬ 200 ≤ m.ops.length) : mOps m kPause = { m with opn := false, ops := m.ops ++ [{ oKind 4 with n := (ticksS m.line m.width m.ws m.st 0 false).1 }], st := (ticksS m.line m.width m.ws m.st 0 false).2 } := by
 unfold mOps
 rw [if_neg (by decide), if_neg (by decide), if_neg (by decide), if_pos rfl]
 unfold mPause mLast mTicks
 rw [mOp_ok (m := mShut m) h2]
 simp only [set_snoc]
 rfl
theorem ops_goto (h2 : ¬ 200 ≤ m.ops.length) : mOps m kGoto = { m with opn := false, ops := m.ops ++ [oKind 3], st := (nameS m.line m.width m.ws m.st).2, uses := m.uses ++ [⟨(nameS m.line m.width m.ws m.st).1.text, m.line, ((nameS m.line m.width m.ws m.st).1.at_ : Nat) + 1, (m.ops.length : Nat), -1⟩] } := by
 unfold mOps
 rw [if_neg (by decide), if_neg (by decide), if_pos rfl]
 rw [mOp_ok (m := mShut m) h2]
 unfold mLabel mName
 simp [mShut]
theorem ops_done (h2 : ¬ 200 ≤ m.ops.length) : mOps m kDone = { m with opn := false, ops := m.ops ++ [oKind 5] } := by
 unfold mOps
 rw [if_neg (by decide), if_neg (by decide), if_neg (by decide), if_neg (by decide), if_pos rfl, mOp_ok (m := mShut m) h2]
 rfl
theorem ops_fail (h2 : ¬ 200 ≤ m.ops.length) : mOps m kFail = { m with opn := false, ops := m.ops ++ [oKind 6] } := by
 unfold mOps
 rw [if_neg (by decide), if_neg (by decide), if_neg (by decide), if_neg (by decide), if_neg (by decide), if_pos rfl, mOp_ok (m := mShut m) h2]
 rfl
theorem ops_label : mOps m kLabel = mLab (mShut m) := by
 unfold mOps
 rw [if_neg (by decide), if_neg (by decide), if_neg (by decide), if_neg (by decide), if_neg (by decide), if_neg (by decide), if_pos rfl]
theorem ops_long (h : m.st.bad = 0) (h2 : 200 ≤ m.ops.length) (t : List UInt8) (ht : isOp t = true) (hl : t ≠ kLabel) : (mOps m t).st = ⟨m.st.nx, m.line, 1, 4⟩ := by
 have hs : ∀ o, (mOp (mShut m) o).st = ⟨m.st.nx, m.line, 1, 4⟩ := fun o => mOp_long (m := mShut m) h h2 o
 have hb : ∀ o, (mOp (mShut m) o).st.bad ≠ 0 := fun o => by rw [hs]; show (4 : Int) ≠ 0; decide
 unfold isOp at ht
 simp only [Bool.or_eq_true, decide_eq_true_eq] at ht
 rcases ht with rfl | rfl | rfl | rfl | rfl | rfl | rfl
 ·unfold mOps
  rw [if_pos rfl, mSend_bad (hb _), hs]
 ·unfold mOps
  rw [if_neg (by decide), if_pos rfl, mExpect_bad (hb _), hs]
 ·unfold mOps
  rw [if_neg (by decide), if_neg (by decide), if_pos rfl, mLabel_bad (hb _), hs]
 ·unfold mOps
  rw [if_neg (by decide), if_neg (by decide), if_neg (by decide), if_pos rfl, mPause_bad (hb _), hs]
 ·unfold mOps
  rw [if_neg (by decide), if_neg (by decide), if_neg (by decide), if_neg (by decide), if_pos rfl, hs]
 ·unfold mOps
  rw [if_neg (by decide), if_neg (by decide), if_neg (by decide), if_neg (by decide), if_neg (by decide), if_pos rfl, hs]
 ·exact absurd rfl hl
/-- the words of a line of one more word -/
theorem send_out (hr : Rel m d) (h0 : m.st.bad = 0) (hn : m.st.nx = 1) (hw : m.ws = l) (hwd : m.width = (width : Nat)) (ht : (wsAt l 0).text = kSend) (h2 : ¬ 200 ≤ m.ops.length) : Out (mRest (mOps m kSend)) (takeD d l m.line) m.line (formD d l width [113] 0) := by
 have a := text_arg (s := m.st) (line := m.line) (ws := l) (width := width) (i := 0) h0 hn
 rw [ops_send h2, hw, hwd, form_cons]
 unfold Arg at a
 generalize textS m.line width l m.st = r at a ⊢
 generalize argE l width 113 0 = o at a ⊢
 cases o with
 | some x =>
  simp only at a ⊢
  refine out_bad ?_
  rw [mRest_bad (Bad.ne (line := m.line) (x := x) a)]
  exact a
 | none =>
  simp only at a ⊢
  subst a
  rw [ht, if_neg (fun h => absurd h.1 (by decide))]
  refine rest_out rfl rfl rfl rfl (fun hx => ?_)
  have e : takeD d l m.line = { d with ops := d.ops ++ [{ oKind 1 with text := bs (wsAt l 1).text }], opn := false, tm := false, ef := false } := by
   unfold takeD dOp dRest opDoc
   rw [ht]
   rfl
  rw [e]
  exact ⟨hr.name, hr.dl, hr.jm, by show _ ++ _ = _ ++ _; rw [hr.ops], hr.uses, hr.head, rfl, fun h => absurd h (by simp), fun h => absurd h (by simp), hr.lb, hr.lbp, hr.lbd⟩
theorem expect_out (hr : Rel m d) (h0 : m.st.bad = 0) (hn : m.st.nx = 1) (hw : m.ws = l) (hwd : m.width = (width : Nat)) (ht : (wsAt l 0).text = kExpect) (h2 : ¬ 200 ≤ m.ops.length) : Out (mRest (mOps m kExpect)) (takeD d l m.line) m.line (formD d l width [101] 0) := by
 have a := ticks_arg (s := m.st) (line := m.line) (ws := l) (width := width) (i := 0) 101 0 true (Or.inr (Or.inl ⟨rfl, rfl, rfl⟩)) h0 hn
 rw [ops_expect h2, hw, hwd, form_cons]
 unfold Arg at a
 generalize ticksS m.line width l m.st 0 true = r at a ⊢
 generalize argE l width 101 0 = o at a ⊢
 cases o with
 | some x =>
  simp only at a ⊢
  refine out_bad ?_
  rw [mRest_bad (Bad.ne (line := m.line) (x := x) a)]
  exact a
 | none =>
  simp only at a ⊢
  subst a
  rw [ht, if_neg (fun h => absurd h.1 (by decide))]
  refine rest_out rfl rfl rfl rfl (fun hx => ?_)
  have e : takeD d l m.line = { d with ops := d.ops ++ [{ oExpect with n := (numberD 101 (wsAt l 1).text).1 }], opn := true, tm := false, ef := false } := by
   unfold takeD dOp dRest opDoc
   rw [ht]
   rfl
  rw [e]
  exact ⟨hr.name, hr.dl, hr.jm, by show _ ++ _ = _ ++ _; rw [hr.ops], hr.uses, hr.head, rfl, fun h => rfl, fun h => rfl, hr.lb, hr.lbp, hr.lbd⟩
theorem pause_out (hr : Rel m d) (h0 : m.st.bad = 0) (hn : m.st.nx = 1) (hw : m.ws = l) (hwd : m.width = (width : Nat)) (ht : (wsAt l 0).text = kPause) (h2 : ¬ 200 ≤ m.ops.length) : Out (mRest (mOps m kPause)) (takeD d l m.line) m.line (formD d l width [116] 0) := by
 have a := ticks_arg (s := m.st) (line := m.line) (ws := l) (width := width) (i := 0) 116 0 false (Or.inr (Or.inr ⟨rfl, rfl, rfl⟩)) h0 hn
 rw [ops_pause h2, hw, hwd, form_cons]
 unfold Arg at a
 generalize ticksS m.line width l m.st 0 false = r at a ⊢
 generalize argE l width 116 0 = o at a ⊢
 cases o with
 | some x =>
  simp only at a ⊢
  refine out_bad ?_
  rw [mRest_bad (Bad.ne (line := m.line) (x := x) a)]
  exact a
 | none =>
  simp only at a ⊢
  subst a
  rw [ht, if_neg (fun h => absurd h.1 (by decide))]
  refine rest_out rfl rfl rfl rfl (fun hx => ?_)
  have e : takeD d l m.line = { d with ops := d.ops ++ [{ oKind 4 with n := (numberD 116 (wsAt l 1).text).1 }], opn := false, tm := false, ef := false } := by
   unfold takeD dOp dRest opDoc
   rw [ht]
   rfl
  rw [e]
  exact ⟨hr.name, hr.dl, hr.jm, by show _ ++ _ = _ ++ _; rw [hr.ops], hr.uses, hr.head, rfl, fun h => absurd h (by simp), fun h => absurd h (by simp), hr.lb, hr.lbp, hr.lbd⟩
theorem goto_out (hr : Rel m d) (h0 : m.st.bad = 0) (hn : m.st.nx = 1) (hw : m.ws = l) (hwd : m.width = (width : Nat)) (ht : (wsAt l 0).text = kGoto) (h2 : ¬ 200 ≤ m.ops.length) : Out (mRest (mOps m kGoto)) (takeD d l m.line) m.line (formD d l width [108] 0) := by
 have a := name_arg (s := m.st) (line := m.line) (ws := l) (width := width) (i := 0) 108 (Or.inr rfl) h0 hn
 have hle : l.length ≤ 1 → argE l width 108 0 = some (width, 3) := fun h => by unfold argE; rw [if_pos h]
 rw [ops_goto h2, hw, hwd, form_cons]
 unfold Arg at a
 generalize nameS m.line width l m.st = r at a ⊢
 generalize argE l width 108 0 = o at a hle ⊢
 cases o with
 | some x =>
  simp only at a ⊢
  refine out_bad ?_
  rw [mRest_bad (Bad.ne (line := m.line) (x := x) a)]
  exact a
 | none =>
  simp only at a ⊢
  subst a
  rw [ht, if_neg (fun h => absurd h.1 (by decide))]
  refine rest_out rfl rfl rfl rfl (fun hx => ?_)
  have e : takeD d l m.line = { d with ops := d.ops ++ [oKind 3], opn := false, tm := false, ef := false, uses := d.uses ++ [⟨(wsAt l (l.length - 1)).text, m.line, ((wsAt l (l.length - 1)).at_ : Nat) + 1, ((d.ops ++ [oKind 3]).length : Nat) - 1, -1⟩] } := by
   unfold takeD dOp dRest opDoc
   rw [ht]
   rfl
  rw [e, last_getD l 1 (fun h => by have := hle h; cases this) hx]
  refine ⟨hr.name, hr.dl, hr.jm, by show _ ++ _ = _ ++ _; rw [hr.ops], ?_, hr.head, rfl, fun h => absurd h (by simp), fun h => absurd h (by simp), hr.lb, hr.lbp, hr.lbd⟩
  show m.uses ++ _ = d.uses ++ _
  rw [hr.uses, hr.ops]
  simp
theorem done_out (hr : Rel m d) (h0 : m.st.bad = 0) (hn : m.st.nx = 1) (hw : m.ws = l) (ht : (wsAt l 0).text = kDone) (h2 : ¬ 200 ≤ m.ops.length) : Out (mRest (mOps m kDone)) (takeD d l m.line) m.line (formD d l width [] 0) := by
 rw [ops_done h2]
 refine rest_out h0 hn hw rfl (fun hx => ?_)
 have e : takeD d l m.line = { d with ops := d.ops ++ [oKind 5], opn := false, tm := false, ef := false } := by
  unfold takeD dOp dRest opDoc
  rw [ht]
  rfl
 rw [e]
 exact ⟨hr.name, hr.dl, hr.jm, by show _ ++ _ = _ ++ _; rw [hr.ops], hr.uses, hr.head, rfl, fun h => absurd h (by simp), fun h => absurd h (by simp), hr.lb, hr.lbp, hr.lbd⟩
theorem fail_out (hr : Rel m d) (h0 : m.st.bad = 0) (hn : m.st.nx = 1) (hw : m.ws = l) (ht : (wsAt l 0).text = kFail) (h2 : ¬ 200 ≤ m.ops.length) : Out (mRest (mOps m kFail)) (takeD d l m.line) m.line (formD d l width [] 0) := by
 rw [ops_fail h2]
 refine rest_out h0 hn hw rfl (fun hx => ?_)
 have e : takeD d l m.line = { d with ops := d.ops ++ [oKind 6], opn := false, tm := false, ef := false } := by
  unfold takeD dOp dRest opDoc
  rw [ht]
  rfl
 rw [e]
 exact ⟨hr.name, hr.dl, hr.jm, by show _ ++ _ = _ ++ _; rw [hr.ops], hr.uses, hr.head, rfl, fun h => absurd h (by simp), fun h => absurd h (by simp), hr.lb, hr.lbp, hr.lbd⟩
theorem findD_snoc (k n : List UInt8) (v : Int) : ∀ ls : List (List UInt8 × Int), (∀ p ∈ ls, 0 ≤ p.2) → findD k (ls ++ [(n, v)]) = if 0 ≤ findD k ls then findD k ls else if n = k then v else -1
 | [], _ => by simp [findD]
 | (a, b) :: r, h => by
  show (if a = k then b else findD k (r ++ [(n, v)])) = _
  rw [show findD k ((a, b) :: r) = if a = k then b else findD k r from rfl]
  by_cases hk : a = k
  ·have := h (a, b) (by simp)
   rw [if_pos hk, if_pos hk, if_pos this]
  ·rw [if_neg hk, if_neg hk, findD_snoc k n v r (fun p hp => h p (by simp [hp]))]
end
end Go.Proofs.YtaioaojfdngfdaaGreatDoor
