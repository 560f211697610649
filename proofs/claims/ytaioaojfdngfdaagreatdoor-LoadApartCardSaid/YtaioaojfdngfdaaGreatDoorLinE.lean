/- Lines joined, and read: plain. No program. Conditions: those of each theorem. -/
import Derived.Test.YtaioaojfdngfdaaGreatDoorNb47
import Derived.Lib.Join
namespace Go.Proofs.YtaioaojfdngfdaaGreatDoor
open Go.RowKit
/-- lines, each with its end -/
def encL (l : List (List UInt8)) : List UInt8 := l.flatMap (fun s => s ++ [10])
def NoNl (s : List UInt8) : Prop := ∀ c ∈ s, c ≠ 10
theorem linesGo_no : ∀ (r cur : List UInt8), NoNl cur → ∀ l ∈ linesGo r cur, NoNl l
  | [], cur, h, l, hl => by
    unfold linesGo at hl
    rw [List.mem_singleton] at hl
    subst hl
    exact h
  | c :: r, cur, h, l, hl => by
    unfold linesGo at hl
    split at hl
    · rcases List.mem_cons.1 hl with rfl | hl
      · exact h
      · exact linesGo_no r [] (fun _ h => by cases h) l hl
    · rename_i hc
      refine linesGo_no r (cur ++ [c]) (fun x hx => ?_) l hl
      rcases List.mem_append.1 hx with hx | hx
      · exact h x hx
      · rw [List.mem_singleton] at hx
        subst hx
        exact hc
theorem linesM_no (s : List UInt8) : ∀ l ∈ linesM s, NoNl l := linesGo_no s [] (fun _ h => by cases h)
theorem linesGo_skip : ∀ (s r cur : List UInt8), NoNl s → linesGo (s ++ r) cur = linesGo r (cur ++ s)
  | [], r, cur, _ => by simp
  | c :: s, r, cur, h => by
    have h1 : c ≠ 10 := h c (List.mem_cons_self ..)
    show linesGo (c :: (s ++ r)) cur = _
    conv => lhs; unfold linesGo
    rw [if_neg h1, linesGo_skip s r (cur ++ [c]) (fun x hx => h x (List.mem_cons_of_mem _ hx))]
    simp
theorem linesM_enc : ∀ (l : List (List UInt8)) (r : List UInt8), (∀ s ∈ l, NoNl s) → linesM (encL l ++ r) = l ++ linesM r
  | [], r, _ => rfl
  | s :: l, r, h => by
    have e : encL (s :: l) ++ r = s ++ (10 :: (encL l ++ r)) := by unfold encL; simp
    have e2 : linesM (encL (s :: l) ++ r) = linesGo (10 :: (encL l ++ r)) ([] ++ s) := by rw [e]; exact linesGo_skip s _ [] (h s (List.mem_cons_self ..))
    rw [e2]
    conv => lhs; unfold linesGo
    rw [if_pos rfl]
    show ([] ++ s) :: linesM (encL l ++ r) = _
    rw [linesM_enc l r (fun x hx => h x (List.mem_cons_of_mem _ hx))]
    rfl
theorem linesM_end (l : List (List UInt8)) (h : ∀ s ∈ l, NoNl s) : linesM (encL l) = l ++ [[]] := by
  have := linesM_enc l [] h
  rw [List.append_nil] at this
  rw [this]
  rfl
theorem lines_join : ∀ (r : List (List UInt8)) (x cur : List UInt8), NoNl x → (∀ y ∈ r, NoNl y) → linesGo (x ++ Lib.joinTail [10] r) cur = (cur ++ x) :: r
  | [], x, cur, hx, _ => by
    rw [linesGo_skip x _ cur hx]
    rfl
  | y :: r, x, cur, hx, h => by
    rw [linesGo_skip x _ cur hx]
    have e : Lib.joinTail [10] (y :: r) = 10 :: (y ++ Lib.joinTail [10] r) := by unfold Lib.joinTail; simp
    rw [e]
    conv => lhs; unfold linesGo
    rw [if_pos rfl, lines_join r y [] (h y (List.mem_cons_self ..)) (fun z hz => h z (List.mem_cons_of_mem _ hz))]
    rfl
theorem linesM_join (x : List UInt8) (r : List (List UInt8)) (hx : NoNl x) (h : ∀ y ∈ r, NoNl y) : linesM (Lib.join (x :: r) [10]) = x :: r := by
  rw [Lib.join_cons]
  exact lines_join r x [] hx h
/-- the script of lines -/
def parseL (l : List (List UInt8)) : ProgM × (Int × Int) × Int := endD (dGo l l.length 0 d0)
theorem parseM_join (x : List UInt8) (r : List (List UInt8)) (hx : NoNl x) (h : ∀ y ∈ r, NoNl y) : parseM (Lib.join (x :: r) [10]) = parseL (x :: r) := by
  rw [parse_same]
  unfold parseD parseL
  rw [linesM_join x r hx h]
theorem dGo_succ (l : List (List UInt8)) (f i : Nat) (d : DM) : dGo l (f + 1) i d = if idleB (l.getD i []) = true then dGo l f (i + 1) d else if (readE d (l.getD i [])).2 ≠ 0 then (d, some (i, readE d (l.getD i []))) else dGo l f (i + 1) (takeD d (wordsM (l.getD i [])).1 ((i : Nat) + 1)) := rfl
theorem dGo_left (l t : List (List UInt8)) : ∀ (f i : Nat) (d : DM), i + f ≤ l.length → dGo (l ++ t) f i d = dGo l f i d
  | 0, _, _, _ => rfl
  | f + 1, i, d, h => by
    have e : (l ++ t).getD i [] = l.getD i [] := by
      rw [List.getD_eq_getElem?_getD, List.getD_eq_getElem?_getD, List.getElem?_append_left (by omega)]
    rw [dGo_succ, dGo_succ, e, dGo_left l t f (i + 1) d (by omega), dGo_left l t f (i + 1) _ (by omega)]
theorem dGo_add (l : List (List UInt8)) (g : Nat) : ∀ (f i : Nat) (d : DM), dGo l (f + g) i d = if (dGo l f i d).2 = none then dGo l g (i + f) (dGo l f i d).1 else dGo l f i d
  | 0, i, d => by rw [Nat.zero_add]; rfl
  | f + 1, i, d => by
    rw [show f + 1 + g = (f + g) + 1 by omega, dGo_succ, dGo_succ, show i + (f + 1) = i + 1 + f by omega]
    split
    · exact dGo_add l g f (i + 1) d
    split
    · rfl
    · exact dGo_add l g f (i + 1) _
/-- a line behind all others that says nothing -/
theorem parseL_idle (l : List (List UInt8)) (s : List UInt8) (h : idleB s = true) : parseL (l ++ [s]) = parseL l := by
  unfold parseL
  rw [List.length_append, dGo_add, dGo_left l [s] l.length 0 d0 (by omega)]
  split
  · rename_i h1
    have e : (l ++ [s]).getD (0 + l.length) [] = s := by rw [List.getD_eq_getElem?_getD]; simp
    show endD (dGo (l ++ [s]) (0 + 1) (0 + l.length) (dGo l l.length 0 d0).1) = _
    rw [dGo_succ, e, if_pos h]
    show endD ((dGo l l.length 0 d0).1, none) = _
    rw [← h1]
  · rfl
end Go.Proofs.YtaioaojfdngfdaaGreatDoor
