/- What stands in one script changes none of those beside it: plain. No program. Conditions: those of each theorem. -/
import Derived.Test.YtaioaojfdngfdaaGreatDoorLinE
namespace Go.Proofs.YtaioaojfdngfdaaGreatDoor
open Go.RowKit
/-- the lines of a text that begin no script -/
def lessL (s : List UInt8) : List (List UInt8) := (linesM s).filter (fun l => !headB l)
theorem take_name (d : DM) (l : List WordM) (line : Int) (h : (wsAt l 0).text ≠ kScript) : (takeD d l line).name = d.name ∧ (takeD d l line).head = d.head := by
  have h1 : (dOp d l).name = d.name ∧ (dOp d l).head = d.head := by unfold dOp; split <;> exact ⟨rfl, rfl⟩
  unfold takeD dRest
  rw [if_neg h]
  split
  · exact h1
  split
  · exact h1
  split
  · exact h1
  split
  · exact h1
  split
  · exact h1
  · exact h1
theorem read_script {d : DM} {s : List UInt8} (h : d.head = true) (h0 : ¬ (readE d s).2 ≠ 0) : (wsAt (wordsM s).1 0).text ≠ kScript := by
  intro e
  apply h0
  unfold readE
  split
  · rename_i h1; exact h1
  split
  · rename_i h1; exact h1
  · rename_i h1
    exfalso
    apply h1
    unfold placeD
    rw [if_pos (Or.inr (Or.inr (by rw [e, h]; simp)))]
    decide
theorem dGo_name (l : List (List UInt8)) : ∀ (f i : Nat) (d : DM), d.head = true → (dGo l f i d).1.name = d.name ∧ (dGo l f i d).1.head = true ∧ ∀ x, (dGo l f i d).2 = some x → x.2.2 ≠ 0
  | 0, _, d, h => ⟨rfl, h, fun _ e => by cases e⟩
  | f + 1, i, d, h => by
    rw [dGo_succ]
    split
    · exact dGo_name l f (i + 1) d h
    split
    · rename_i h1
      refine ⟨rfl, h, fun x e => ?_⟩
      injection e with e
      subst e
      exact h1
    · rename_i h1
      obtain ⟨a, b⟩ := take_name d (wordsM (l.getD i [])).1 ((i : Nat) + 1) (read_script h h1)
      have := dGo_name l f (i + 1) _ (b.trans h)
      rw [a] at this
      exact this
theorem endD_name {x : DM × Option (Nat × Nat × Nat)} (h : ∀ y, x.2 = some y → y.2.2 ≠ 0) (h0 : (endD x).2.2 = 0) : (endD x).1.name = x.1.name := by
  obtain ⟨d, o⟩ := x
  cases o with
  | some y =>
    exfalso
    have h1 := h y rfl
    have h2 : ((y.2.2 : Nat) : Int) = 0 := h0
    omega
  | none =>
    unfold endD at h0 ⊢
    simp only at h0 ⊢
    by_cases hh : d.head = false
    · rw [if_pos hh] at h0; cases h0
    · rw [if_neg hh] at h0 ⊢
      cases hr : dRes d.labels d.uses d.ops with
      | mk ops u =>
        rw [hr] at h0
        cases u with
        | none => rfl
        | some u => cases h0
theorem parseL_name {h : List UInt8} {nm : ByteArray} (r : List (List UInt8)) (h1 : idleB h = false) (h2 : (readE d0 h).2 = 0) (h3 : (takeD d0 (wordsM h).1 1).head = true) (h4 : (takeD d0 (wordsM h).1 1).name = nm)
    (h0 : (parseL (h :: r)).2.2 = 0) : (parseL (h :: r)).1.name = nm := by
  have e : dGo (h :: r) (h :: r).length 0 d0 = dGo (h :: r) r.length 1 (takeD d0 (wordsM h).1 1) := by
    show dGo (h :: r) (r.length + 1) 0 d0 = _
    rw [dGo_succ]
    have g : (h :: r).getD 0 [] = h := rfl
    rw [g, if_neg (by rw [h1]; simp), if_neg (by rw [h2]; simp)]
    rfl
  obtain ⟨a, b, c⟩ := dGo_name (h :: r) r.length 1 _ h3
  unfold parseL at h0 ⊢
  rw [e] at h0 ⊢
  rw [endD_name c h0, a, h4]
def hA : List UInt8 := [115, 99, 114, 105, 112, 116, 32, 97, 32, 110, 101, 118, 101, 114, 32, 51]
def hB : List UInt8 := [115, 99, 114, 105, 112, 116, 32, 98, 32, 53, 32, 49]
def hC : List UInt8 := [115, 99, 114, 105, 112, 116, 32, 99, 32, 57, 32, 48]
def noth : List UInt8 := [110, 111, 116, 104, 105, 110, 103]
theorem nameA (r : List (List UInt8)) (h : (parseL (hA :: r)).2.2 = 0) : (parseL (hA :: r)).1.name = ⟨#[97]⟩ := parseL_name r (by decide +kernel) (by decide +kernel) (by decide +kernel) (by decide +kernel) h
theorem nameB' (r : List (List UInt8)) (h : (parseL (hB :: r)).2.2 = 0) : (parseL (hB :: r)).1.name = ⟨#[98]⟩ := parseL_name r (by decide +kernel) (by decide +kernel) (by decide +kernel) (by decide +kernel) h
theorem nameC (r : List (List UInt8)) (h : (parseL (hC :: r)).2.2 = 0) : (parseL (hC :: r)).1.name = ⟨#[99]⟩ := parseL_name r (by decide +kernel) (by decide +kernel) (by decide +kernel) (by decide +kernel) h
theorem errB : (parseL [hB, noth]).2.2 = 11 := by decide +kernel
theorem nlA : NoNl hA := by unfold NoNl; decide
theorem nlB : NoNl hB := by unfold NoNl; decide
theorem nlC : NoNl hC := by unfold NoNl; decide
theorem nlN : NoNl noth := by unfold NoNl; decide
theorem cutGo_no : ∀ (l r : List (List UInt8)) (i : Nat) (p : PartM), (∀ s ∈ l, headB s = false) → cutGo (l ++ r) i p = cutGo r (i + l.length) ⟨p.line, p.l ++ l⟩
  | [], r, i, p, _ => by simp
  | s :: l, r, i, p, h => by
    show cutGo (s :: (l ++ r)) i p = _
    conv => lhs; unfold cutGo
    rw [if_neg (by rw [h s (List.mem_cons_self ..)]; simp), cutGo_no l r (i + 1) _ (fun x hx => h x (List.mem_cons_of_mem _ hx))]
    simp [Nat.add_assoc, Nat.add_comm 1]
theorem cutGo_head (s : List UInt8) (r : List (List UInt8)) (i : Nat) (p : PartM) (h : headB s = true) : cutGo (s :: r) i p = p :: cutGo r (i + 1) ⟨i + 1, [s]⟩ := by
  conv => lhs; unfold cutGo
  rw [if_pos h]
/-- lines that begin no script, and have no end within them -/
structure FewOk (l : List (List UInt8)) : Prop where
  no : ∀ s ∈ l, headB s = false
  nl : ∀ s ∈ l, NoNl s
theorem few_ok (s : List UInt8) : FewOk (lessL s) := by
  refine ⟨fun l hl => ?_, fun l hl => ?_⟩
  · have := (List.mem_filter.1 hl).2
    simpa using this
  · exact linesM_no s l (List.mem_filter.1 hl).1
theorem noth_ok : FewOk [noth] := ⟨by decide, fun s hs => by rw [List.mem_singleton] at hs; subst hs; exact nlN⟩
theorem nl_cons {s : List UInt8} {l : List (List UInt8)} (h : NoNl s) (h2 : ∀ x ∈ l, NoNl x) : ∀ x ∈ s :: l, NoNl x := by
  intro x hx
  rcases List.mem_cons.1 hx with rfl | hx
  · exact h
  · exact h2 x hx
theorem nl_app {a b : List (List UInt8)} (h : ∀ x ∈ a, NoNl x) (h2 : ∀ x ∈ b, NoNl x) : ∀ x ∈ a ++ b, NoNl x := by
  intro x hx
  rcases List.mem_append.1 hx with hx | hx
  · exact h x hx
  · exact h2 x hx
theorem nl_nil : ∀ x ∈ [([] : List UInt8)], NoNl x := by
  intro x hx
  rw [List.mem_singleton] at hx
  subst hx
  exact fun _ h => by cases h
theorem cut_one {a : List (List UInt8)} (ha : FewOk a) : cutM (encL (hA :: a)) = [⟨1, hA :: (a ++ [[]])⟩] := by
  unfold cutM
  rw [linesM_end _ (nl_cons nlA ha.nl)]
  show dropP (cutGo (hA :: (a ++ [[]])) 0 ⟨1, []⟩) = _
  rw [cutGo_head _ _ _ _ (by decide), cutGo_no a [[]] _ _ ha.no]
  conv => lhs; unfold cutGo
  rw [if_neg (by decide)]
  conv => lhs; unfold cutGo
  rw [drop_neg (by decide)]
  simp
theorem cut_three {a b c : List (List UInt8)} (ha : FewOk a) (hb : FewOk b) (hc : FewOk c) : cutM (encL (hA :: (a ++ hB :: (b ++ hC :: c)))) = [⟨1, hA :: a⟩, ⟨a.length + 2, hB :: b⟩, ⟨a.length + b.length + 3, hC :: (c ++ [[]])⟩] := by
  unfold cutM
  rw [linesM_end _ (nl_cons nlA (nl_app ha.nl (nl_cons nlB (nl_app hb.nl (nl_cons nlC hc.nl)))))]
  have e : hA :: (a ++ hB :: (b ++ hC :: c)) ++ [[]] = hA :: (a ++ hB :: (b ++ hC :: (c ++ [[]]))) := by simp
  rw [e, cutGo_head _ _ _ _ (by decide), cutGo_no a _ _ _ ha.no, cutGo_head _ _ _ _ (by decide), cutGo_no b _ _ _ hb.no, cutGo_head _ _ _ _ (by decide), cutGo_no c _ _ _ hc.no]
  conv => lhs; unfold cutGo
  rw [if_neg (by decide)]
  conv => lhs; unfold cutGo
  rw [drop_neg (by decide)]
  simp
  omega
theorem has_nil (n : ByteArray) : hasM [] n = false := rfl
theorem scr_name (r : ProgM × (Int × Int) × Int) (p : PartM) (o : List ScrM) (nm : ByteArray) (h : r.2.2 = 0 → r.1.name = nm) : (readScr r p o).err = 0 → (readScr r p o).prog.name = nm := by
  unfold readScr
  split
  · rename_i h1; intro h2; exact absurd h2 h1
  · split
    · intro h2; cases h2
    · rename_i h1 _; intro _; exact h (by omega)
theorem no_has {o : List ScrM} {nm : ByteArray} (h : ∀ s ∈ o, s.err = 0 → s.prog.name ≠ nm) : hasM o nm = false := by
  unfold hasM
  rw [List.any_eq_false]
  intro s hs
  unfold isScr
  intro h2
  rw [Bool.and_eq_true, decide_eq_true_eq, decide_eq_true_eq] at h2
  exact h s hs h2.1 h2.2
/-- what a script is, where it stands, whatever stands ahead of it -/
structure Like (s t : ScrM) : Prop where
  prog : s.prog = t.prog
  err : s.err = t.err
  y : s.y = t.y
  x : s.err = 0 ∨ s.x - s.line = t.x - t.line
theorem like_scr (r : ProgM × (Int × Int) × Int) (p q : PartM) (o u : List ScrM) (h1 : r.2.2 = 0 → hasM o r.1.name = false) (h2 : r.2.2 = 0 → hasM u r.1.name = false) : Like (readScr r p o) (readScr r q u) := by
  unfold readScr
  split
  · refine ⟨rfl, rfl, rfl, Or.inr ?_⟩
    show r.2.1.1 + (p.line : Int) - 1 - (p.line : Int) = r.2.1.1 + (q.line : Int) - 1 - (q.line : Int)
    omega
  · rename_i h
    rw [h1 (by omega), h2 (by omega)]
    exact ⟨rfl, rfl, rfl, Or.inl rfl⟩
theorem scr_line (r : ProgM × (Int × Int) × Int) (p : PartM) (o : List ScrM) : (readScr r p o).line = p.line := by
  unfold readScr
  split
  · rfl
  split <;> rfl
theorem idle_nil : idleB [] = true := rfl
theorem load_three {a b c : List (List UInt8)} (ha : FewOk a) (hb : FewOk b) (hc : FewOk c) (hl : (encL (hA :: (a ++ hB :: (b ++ hC :: c)))).length ≤ 40000) :
    ∃ s1 s2 s3, loadM (encL (hA :: (a ++ hB :: (b ++ hC :: c)))) = ([s1, s2, s3], 0) ∧ s1 = readScr (parseL (hA :: a)) ⟨1, hA :: a⟩ [] ∧ s2 = readScr (parseL (hB :: b)) ⟨a.length + 2, hB :: b⟩ [s1] ∧
      s3 = readScr (parseL (hC :: c)) ⟨a.length + b.length + 3, hC :: (c ++ [[]])⟩ [s1, s2] := by
  refine ⟨_, _, _, ?_, rfl, rfl, rfl⟩
  unfold loadM
  rw [cut_three ha hb hc, if_neg (by omega), if_neg (by simp)]
  show (readAll _ [], (0 : Int)) = _
  unfold readAll readAll readAll readAll readM
  rw [parseM_join _ _ nlA ha.nl, parseM_join _ _ nlB hb.nl, parseM_join _ _ nlC (nl_app hc.nl nl_nil), show hC :: (c ++ [[]]) = (hC :: c) ++ [[]] from rfl, parseL_idle _ _ idle_nil]
  rfl
theorem load_alone {a : List (List UInt8)} (ha : FewOk a) (hl : (encL (hA :: a)).length ≤ 40000) : loadM (encL (hA :: a)) = ([readScr (parseL (hA :: a)) ⟨1, hA :: (a ++ [[]])⟩ []], 0) := by
  unfold loadM
  rw [cut_one ha, if_neg (by omega), if_neg (by simp)]
  show (readAll _ [], (0 : Int)) = _
  unfold readAll readAll readM
  rw [parseM_join _ _ nlA (nl_app ha.nl nl_nil), show hA :: (a ++ [[]]) = (hA :: a) ++ [[]] from rfl, parseL_idle _ _ idle_nil]
  rfl
theorem apart_law {a b c : List (List UInt8)} (ha : FewOk a) (hb : FewOk b) (hc : FewOk c) (hl : (encL (hA :: (a ++ hB :: (b ++ hC :: c)))).length ≤ 20000) (hl2 : (encL (hA :: (a ++ hB :: ([noth] ++ hC :: c)))).length ≤ 20000) :
    ∃ s1 s2 s3 t2 t3 u1, loadM (encL (hA :: (a ++ hB :: (b ++ hC :: c)))) = ([s1, s2, s3], 0) ∧ loadM (encL (hA :: (a ++ hB :: ([noth] ++ hC :: c)))) = ([s1, t2, t3], 0) ∧ loadM (encL (hA :: a)) = ([u1], 0) ∧
      u1.prog = s1.prog ∧ u1.err = s1.err ∧ t2.err = 11 ∧ Like s3 t3 := by
  obtain ⟨s1, s2, s3, e1, f1, f2, f3⟩ := load_three ha hb hc (by omega)
  obtain ⟨r1, t2, t3, e2, g1, g2, g3⟩ := load_three ha noth_ok hc (by omega)
  have hs : r1 = s1 := g1.trans f1.symm
  subst hs
  have hsub : (encL (hA :: a)).length ≤ 40000 := by
    have : encL (hA :: (a ++ hB :: (b ++ hC :: c))) = encL (hA :: a) ++ encL (hB :: (b ++ hC :: c)) := by unfold encL; simp
    rw [this, List.length_append] at hl
    omega
  refine ⟨r1, s2, s3, t2, t3, _, e1, e2, load_alone ha hsub, ?_, ?_, ?_, ?_⟩
  · rw [f1]
    unfold readScr
    split
    · rfl
    · rfl
  · rw [f1]
    unfold readScr
    split
    · rfl
    · rfl
  · rw [g2]
    unfold readScr
    rw [if_pos (by rw [errB]; decide)]
    exact errB
  · rw [f3, g3]
    have n1 : r1.err = 0 → r1.prog.name = ⟨#[97]⟩ := by rw [f1]; exact scr_name _ _ _ _ (nameA a)
    have n2 : s2.err = 0 → s2.prog.name = ⟨#[98]⟩ := by rw [f2]; exact scr_name _ _ _ _ (nameB' b)
    have n3 : t2.err = 0 → t2.prog.name = ⟨#[98]⟩ := by rw [g2]; exact scr_name _ _ _ _ (nameB' [noth])
    refine like_scr _ _ _ _ _ (fun h => no_has ?_) (fun h => no_has ?_)
    · rw [nameC c h]
      intro s hs h0
      simp only [List.mem_cons, List.not_mem_nil, or_false] at hs
      rcases hs with rfl | rfl
      · rw [n1 h0]; decide
      · rw [n2 h0]; decide
    · rw [nameC c h]
      intro s hs h0
      simp only [List.mem_cons, List.not_mem_nil, or_false] at hs
      rcases hs with rfl | rfl
      · rw [n1 h0]; decide
      · rw [n3 h0]; decide
end Go.Proofs.YtaioaojfdngfdaaGreatDoor
