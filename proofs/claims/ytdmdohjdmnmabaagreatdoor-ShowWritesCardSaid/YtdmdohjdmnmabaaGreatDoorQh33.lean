/- Parts of a chain of lemmas: Uniq, ProT. Conditions: those of each theorem. -/
import Derived.Test.YtdmdohjdmnmabaaGreatDoorQh32
import Derived.Test.YtdmdohjdmnmabaaGreatDoorQh22
namespace Go.Proofs.YtdmdohjdmnmabaaGreatDoor
open Go.RowKit
set_option linter.unusedVariables false

theorem strict_eq : ∀ (a b : List Int), a.Pairwise (· < ·) → b.Pairwise (· < ·) → (∀ y, y ∈ a ↔ y ∈ b) → a = b := by
 intro a
 induction a with
 | nil =>
  intro b _ _ h
  cases b with
  | nil => rfl
  | cons x r => exact absurd ((h x).2 (by simp)) (by simp)
 | cons x r ih =>
  intro b ha hb h
  cases b with
  | nil => exact absurd ((h x).1 (by simp)) (by simp)
  | cons y s =>
   rw [List.pairwise_cons] at ha hb
   have hxy : x = y := by
    have h1 : x ∈ y :: s := (h x).1 (by simp)
    have h2 : y ∈ x :: r := (h y).2 (by simp)
    rcases List.mem_cons.1 h1 with h1 | h1
    ·exact h1
    ·rcases List.mem_cons.1 h2 with h2 | h2
     ·exact h2.symm
     ·have := hb.1 x h1; have := ha.1 y h2; omega
   subst hxy
   congr 1
   refine ih s ha.2 hb.2 (fun z => ⟨fun hz => ?_, fun hz => ?_⟩)
   ·rcases List.mem_cons.1 ((h z).1 (List.mem_cons_of_mem _ hz)) with e | e
    ·have := ha.1 z hz; omega
    ·exact e
   ·rcases List.mem_cons.1 ((h z).2 (List.mem_cons_of_mem _ hz)) with e | e
    ·have := hb.1 z hz; omega
    ·exact e
theorem compUp (d : Array Int) (hs : ∀ i j, i ≤ j → j < d.size → d[i]! ≤ d[j]!) : ∀ m, m ≤ d.size → (Lib.compactUpTo d m).Pairwise (· < ·) ∧ (∀ y, y ∈ Lib.compactUpTo d m ↔ ∃ j, j < m ∧ d[j]! = y) := by
 intro m
 induction m with
 | zero => intro _; simp [Lib.compactUpTo]
 | succ m ih =>
  intro hm
  obtain ⟨h1, h2⟩ := ih (by omega)
  rw [Lib.compactUpTo_succ]
  by_cases hk : Lib.keeps d m = true
  ·rw [if_pos hk]
   constructor
   ·rw [List.pairwise_append]
    refine ⟨h1, List.pairwise_singleton _ _, fun a ha b hb => ?_⟩
    simp at hb; subst hb
    obtain ⟨j, hj, rfl⟩ := (h2 a).1 ha
    have hle := hs j (m - 1) (by omega) (by omega)
    have hle2 := hs (m - 1) m (by omega) (by omega)
    have hne : d[m]! ≠ d[m - 1]! := by
     unfold Lib.keeps at hk
     rcases of_decide_eq_true hk with h | h
     ·omega
     ·exact h
    omega
   ·intro y
    rw [List.mem_append, h2 y]
    constructor
    ·rintro (⟨j, hj, e⟩ | h)
     ·exact ⟨j, by omega, e⟩
     ·simp at h; exact ⟨m, by omega, h.symm⟩
    ·rintro ⟨j, hj, e⟩
     by_cases hjm : j = m
     ·subst hjm; exact Or.inr (by simp [e])
     ·exact Or.inl ⟨j, by omega, e⟩
  ·rw [if_neg hk, List.append_nil]
   refine ⟨h1, fun y => ?_⟩
   rw [h2 y]
   constructor
   ·rintro ⟨j, hj, e⟩; exact ⟨j, by omega, e⟩
   ·rintro ⟨j, hj, e⟩
    by_cases hjm : j = m
    ·subst hjm
     have hk' : ¬ (j = 0 ∨ d[j]! ≠ d[j - 1]!) := fun h => hk (decide_eq_true h)
     refine ⟨j - 1, by omega, ?_⟩
     rw [← e]
     by_cases h0 : d[j]! = d[j - 1]!
     ·exact h0.symm
     ·exact absurd (Or.inr h0) hk'
    ·exact ⟨j, by omega, e⟩
/-- sorted, each once: what Sort and Compact leave -/
def uniq (l : List Int) : List Int := Lib.compact (l.mergeSort fun x y => decide (x ≤ y))
theorem uniq_spec (l : List Int) : (uniq l).Pairwise (· < ·) ∧ ∀ y, y ∈ uniq l ↔ y ∈ l := by
 have hp : (l.mergeSort fun x y => decide (x ≤ y)).Pairwise (fun x y => decide (x ≤ y) = true) := List.pairwise_mergeSort (fun a b c h1 h2 => by simp at *; omega) (fun a b => by simp; omega) l
 obtain ⟨S, hS⟩ : ∃ S, S = l.mergeSort fun x y => decide (x ≤ y) := ⟨_, rfl⟩
 have hm : ∀ y, y ∈ S ↔ y ∈ l := fun y => by rw [hS]; exact List.mem_mergeSort
 unfold uniq
 rw [← hS] at hp ⊢
 have hs : ∀ i j, i ≤ j → j < S.toArray.size → S.toArray[i]! ≤ S.toArray[j]! := by
  intro i j hij hj
  have hj' : j < S.length := by simpa using hj
  have hi' : i < S.length := by omega
  by_cases he : i = j
  ·subst he; omega
  ·have := List.pairwise_iff_getElem.1 hp i j hi' hj' (by omega)
   simpa [hi', hj'] using this
 obtain ⟨h1, h2⟩ := compUp S.toArray hs S.length (by simp)
 refine ⟨h1, fun y => ?_⟩
 rw [← hm y]
 refine (h2 y).trans ⟨?_, ?_⟩
 ·rintro ⟨j, hj, e⟩
  rw [← e]
  simp [hj]
 ·intro h
  obtain ⟨j, hj, e⟩ := List.getElem_of_mem h
  exact ⟨j, hj, by simp [hj, e]⟩
/-- one put where it belongs, if it is not there -/
def insU (x : Int) : List Int → List Int
 | [] => [x]
 | a :: r => if a < x then a :: insU x r else if a = x then a :: r else x :: a :: r
theorem insU_mem (x : Int) (s : List Int) : ∀ y, y ∈ insU x s ↔ y = x ∨ y ∈ s := by
 induction s with
 | nil => intro y; simp [insU]
 | cons a r ih =>
  intro y
  unfold insU
  by_cases h1 : a < x
  ·rw [if_pos h1, List.mem_cons, ih y, List.mem_cons]
   constructor
   ·rintro (h | h | h) <;> simp [h]
   ·rintro (h | h | h) <;> simp [h]
  ·rw [if_neg h1]
   by_cases h2 : a = x
   ·rw [if_pos h2]; subst h2; simp
   ·rw [if_neg h2]; simp
theorem insU_strict (x : Int) (s : List Int) (h : s.Pairwise (· < ·)) : (insU x s).Pairwise (· < ·) := by
 induction s with
 | nil => simp [insU]
 | cons a r ih =>
  rw [List.pairwise_cons] at h
  unfold insU
  by_cases h1 : a < x
  ·rw [if_pos h1, List.pairwise_cons]
   refine ⟨fun y hy => ?_, ih h.2⟩
   rcases (insU_mem x r y).1 hy with e | e
   ·omega
   ·exact h.1 y e
  ·rw [if_neg h1]
   by_cases h2 : a = x
   ·rw [if_pos h2, List.pairwise_cons]; exact h
   ·rw [if_neg h2, List.pairwise_cons, List.pairwise_cons]
    refine ⟨fun y hy => ?_, h⟩
    rcases List.mem_cons.1 hy with e | e
    ·omega
    ·have := h.1 y e; omega
theorem insU_all (l : List Int) : ∀ (s : List Int), s.Pairwise (· < ·) → (l.foldl (fun s x => insU x s) s).Pairwise (· < ·) ∧ ∀ y, y ∈ l.foldl (fun s x => insU x s) s ↔ y ∈ l ∨ y ∈ s := by
 induction l with
 | nil => intro s h; exact ⟨h, fun y => by simp⟩
 | cons x r ih =>
  intro s h
  obtain ⟨h1, h2⟩ := ih (insU x s) (insU_strict x s h)
  refine ⟨h1, fun y => ?_⟩
  rw [List.foldl_cons, h2 y, insU_mem, List.mem_cons]
  constructor
  ·rintro (h | h | h) <;> simp [h]
  ·rintro ((h | h) | h) <;> simp [h]
theorem uniq_ins (l : List Int) : l.foldl (fun s x => insU x s) [] = uniq l := by
 obtain ⟨h1, h2⟩ := insU_all l [] List.Pairwise.nil
 obtain ⟨h3, h4⟩ := uniq_spec l
 exact strict_eq _ _ h1 h3 (fun y => by rw [h2 y, h4 y]; simp)
end Go.Proofs.YtdmdohjdmnmabaaGreatDoor
namespace Go.Proofs.YtdmdohjdmnmabaaGreatDoor
set_option linter.unusedVariables false
set_option linter.unusedSimpArgs false

theorem inI_small {n : Int} (h : -1000000000000 ≤ n) (h2 : n ≤ 1000000000000) : InI n := ⟨by omega, by omega⟩
theorem inI_toB {k : Nat} {t : Int} (hk : k ≤ 1000) (h : toB k t = true) : InI t := by
 unfold toB comesB at h
 simp at h
 exact inI_small (by omega) (by omega)
/-- an op of a good script may be written -/
theorem opW_good {k : Nat} {o : OpM} (h : opE k o = 0) (hk : k ≤ 1000) : OpW o := by
 unfold opE at h
 split at h
 ·simp at h
 split at h
 ·simp at h
 rename_i h0 hb
 have hb' : bareB o = true := by simpa using hb
 unfold bareB at hb'
 simp only [Bool.and_eq_true, Bool.or_eq_true, decide_eq_true_eq] at hb'
 obtain ⟨⟨⟨b1, b2⟩, b3⟩, b4⟩ := hb'
 by_cases h2 : o.kind = 2
 ·rw [if_neg (by omega), if_pos h2] at h
  obtain ⟨ht, he⟩ := expectE_to h
  unfold expectE at h
  split at h
  ·simp at h
  rename_i hn
  split at h
  ·simp at h
  rename_i ha
  split at h
  ·rename_i h1; exact absurd h h1
  rename_i hf
  have hf' : firstE (o.arms.map (armE k)) = 0 := by omega
  refine ⟨by omega, fun a hm => ?_, by omega, ?_, ?_, inI_toB hk ht, inI_toB hk he⟩
  ·have e := firstE_all _ hf' _ (List.mem_map.2 ⟨a, hm, rfl⟩)
   unfold armE at e
   split at e
   ·simp at e
   rename_i e1
   split at e
   ·rename_i e2; exact absurd e e2
   split at e
   ·rename_i e3
    unfold comesB at e3
    simp at e3
    exact ⟨by omega, inI_small (by omega) (by omega)⟩
   ·simp at e
  ·have hn' : (nevB o.n || tickB 0 o.n) = true := eq_true_of_ne_false hn
   unfold nevB tickB at hn'
   simp at hn'
   exact ⟨by omega, by omega⟩
  ·rcases b3 with b3 | b3
   ·omega
   ·rw [b3]; exact inI_small (by omega) (by omega)
 ·have b5 : o.arms.length = 0 ∧ o.onT = 0 ∧ o.onE = 0 := by
   rcases b4 with b4 | ⟨⟨b4, b5⟩, b6⟩
   ·exact absurd b4 h2
   ·exact ⟨b4, b5, b6⟩
  obtain ⟨c1, c2, c3⟩ := b5
  have c4 : o.arms = [] := List.length_eq_zero_iff.1 c1
  have i0 : InI 0 := inI_small (by omega) (by omega)
  refine ⟨by omega, by rw [c4]; simp, ?_, ?_, ?_, by rw [c2]; exact i0, by rw [c3]; exact i0⟩
  ·rcases b1 with b1 | b1
   ·rw [if_pos b1] at h
    split at h
    ·simp at h
    split at h
    ·simp at h
    omega
   ·omega
  ·rcases b2 with (b2 | b2) | b2
   ·exact absurd b2 h2
   ·rw [if_neg (by omega), if_neg (by omega), if_neg (by omega), if_pos b2] at h
    split at h
    ·rename_i h4
     unfold tickB at h4
     simp at h4
     exact inI_small (by omega) (by omega)
    ·simp at h
   ·rw [b2]; exact i0
  ·rcases b3 with b3 | b3
   ·rw [if_neg (by omega), if_neg (by omega), if_pos b3] at h
    split at h
    ·rename_i h4
     unfold comesB at h4
     simp at h4
     exact inI_small (by omega) (by omega)
    ·simp at h
   ·rw [b3]; exact i0
/-- the ops that come of one, also those below 0 -/
def jumpsL (o : OpM) : List Int := if o.kind = 2 then o.arms.map (fun a => a.to) ++ [o.onT, o.onE] else if o.kind = 3 then [o.to] else []
def jmpsL (l : List OpM) : List Int := l.flatMap jumpsL
def nnB (x : Int) : Bool := !decide (x < 0)
/-- the ops to which a script jumps -/
def tgts (l : List OpM) : List Int := uniq ((jmpsL l).filter nnB)
/-- the document's way -/
def insG (s : List Int) (x : Int) : List Int := if x < 0 then s else insU x s
theorem foldG (l : List Int) : ∀ s : List Int, l.foldl insG s = (l.filter nnB).foldl (fun s x => insU x s) s := by
 induction l with
 | nil => intro s; rfl
 | cons x r ih =>
  intro s
  rw [List.foldl_cons, ih]
  unfold insG
  by_cases h : x < 0
  ·rw [if_pos h, List.filter_cons_of_neg (by simp [nnB, h])]
  ·rw [if_neg h, List.filter_cons_of_pos (by simp [nnB]; omega)]
   rfl
theorem tgts_ins (l : List OpM) : (jmpsL l).foldl insG [] = tgts l := by rw [foldG, uniq_ins]; rfl
def headT (p : ProgM) : List UInt8 := lineT [[115, 99, 114, 105, 112, 116], p.name.data.toList, tkT p.deadline, Lib.itoa p.jumps]
def lbT (i : Nat) : List UInt8 := lineT [[108, 97, 98, 101, 108], labelT i]
def atT (f : OpM → List UInt8) (ops : List OpM) (i : Nat) : List UInt8 := match ops[i]? with
 | some o => f o
 | none => []
def stepT (f : OpM → List UInt8) (T : List Int) (ops : List OpM) (i : Nat) : List UInt8 := (if (i : Int) ∈ T then lbT i else []) ++ atT f ops i
def bodyT (f : OpM → List UInt8) (T : List Int) (ops : List OpM) : Nat → List UInt8
 | 0 => []
 | k + 1 => bodyT f T ops k ++ stepT f T ops k
/-- a script's text -/
def progT (p : ProgM) : List UInt8 := headT p ++ bodyT opT (tgts p.ops) p.ops (p.ops.length + 1)
def progD (p : ProgM) : List UInt8 := headT p ++ bodyT opD (tgts p.ops) p.ops (p.ops.length + 1)
theorem body_congr {f g : OpM → List UInt8} {ops : List OpM} (T : List Int) (h : ∀ o ∈ ops, f o = g o) : ∀ k, bodyT f T ops k = bodyT g T ops k
 | 0 => rfl
 | k + 1 => by
  have e : atT f ops k = atT g ops k := by
   unfold atT
   split
   ·rename_i o ho; exact h o (List.mem_of_getElem? ho)
   ·rfl
  unfold bodyT stepT
  rw [body_congr T h k, e]
theorem progT_doc {p : ProgM} (h : goodM p = true) : progT p = progD p := by
 unfold progT progD
 rw [body_congr _ (fun o ho => opT_doc (good_op h o ho))]
theorem head_facts {p : ProgM} (h : goodM p = true) : InI p.deadline ∧ 0 ≤ p.jumps ∧ p.jumps ≤ 1000 ∧ p.ops.length ≤ 200 ∧ p.name.size ≤ 16 := by
 have hh : headE p = 0 := by
  unfold goodM at h
  rw [decide_eq_true_eq] at h
  unfold wrongM at h
  by_cases hh : headE p = 0
  ·exact hh
  ·rw [if_pos hh] at h; exact h
 unfold headE at hh
 split at hh
 ·simp at hh
 rename_i h1
 split at hh
 ·simp at hh
 rename_i h2
 split at hh
 ·simp at hh
 rename_i h3
 have h1' : nameB p.name = true := by simpa using h1
 have h2' : ((nevB p.deadline || tickB 1 p.deadline) && decide (0 ≤ p.jumps) && decide (p.jumps ≤ 1000)) = true := eq_true_of_ne_false h2
 unfold nevB tickB at h2'
 simp at h2'
 unfold nameB nameL at h1'
 simp at h1'
 refine ⟨⟨by omega, by omega⟩, by omega, by omega, by omega, ?_⟩
 have := h1'.1.1.2
 simpa using this
theorem ops_good {p : ProgM} (h : goodM p = true) : ∀ o ∈ p.ops, OpW o := fun o ho => opW_good (good_op h o ho) (by have := (head_facts h).2.2.2.1; omega)
theorem lb_len (i : Nat) (h : i ≤ 1000000) : (lbT i).length ≤ 40 := by
 have := line2_len [108, 97, 98, 101, 108] (labelT i)
 have h2 := label_len (n := (i : Int)) (by omega) (by omega)
 unfold lbT
 simp at this ⊢
 omega
theorem at_len {ops : List OpM} (h : ∀ o ∈ ops, OpW o) (i : Nat) : (atT opT ops i).length ≤ 1000000 := by
 unfold atT
 split
 ·rename_i o ho; exact op_len (h o (List.mem_of_getElem? ho))
 ·simp
theorem body_len {ops : List OpM} (T : List Int) (h : ∀ o ∈ ops, OpW o) : ∀ k, k ≤ 1000000 → (bodyT opT T ops k).length ≤ 1000040 * k
 | 0, _ => by simp [bodyT]
 | k + 1, hk => by
  have h1 := body_len T h k (by omega)
  have h2 := at_len h k
  have h3 := lb_len k (by omega)
  unfold bodyT stepT
  rw [List.length_append, List.length_append]
  have h4 : (if (k : Int) ∈ T then lbT k else []).length ≤ 40 := by
   split
   ·omega
   ·simp
  omega
end Go.Proofs.YtdmdohjdmnmabaaGreatDoor
