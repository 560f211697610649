/- Parts of a chain of lemmas: LinE, RtA, RtB, RtC, RtD, RtE, ShowBackP. Conditions: those of each theorem. -/
import Derived.Test.YtaioaojfdngfdaaGreatDoorNb37
import Derived.Test.YtaioaojfdngfdaaGreatDoorNb46
import Derived.Test.YtaioaojfdngfdaaGreatDoorNb23
import Derived.Lib.Join
import Derived.LaidLaws
import Derived.MakeChecks
import Derived.Lib.LaidTab
set_option linter.unusedVariables false
set_option linter.unusedSimpArgs false
namespace Go.Proofs.YtaioaojfdngfdaaGreatDoor
open Go.RowKit
/-- lines, each with its end -/
def encL (l : List (List UInt8)) : List UInt8 := l.flatMap (fun s => s ++ [10])
def NoNl (s : List UInt8) : Prop := ∀ c ∈ s, c ≠ 10
theorem linesGo_no : ∀ (r cur : List UInt8), NoNl cur → ∀ l ∈ linesGo r cur, NoNl l
 | [], cur, h, l, hl => by
  unfold linesGo at hl
  rw [List.mem_singleton] at hl
  subst hl
  exact h
 | c :: r, cur, h, l, hl => by
  unfold linesGo at hl
  split at hl
  ·rcases List.mem_cons.1 hl with rfl | hl
   ·exact h
   ·exact linesGo_no r [] (fun _ h => by cases h) l hl
  ·rename_i hc
   refine linesGo_no r (cur ++ [c]) (fun x hx => ?_) l hl
   rcases List.mem_append.1 hx with hx | hx
   ·exact h x hx
   ·rw [List.mem_singleton] at hx
    subst hx
    exact hc
theorem linesM_no (s : List UInt8) : ∀ l ∈ linesM s, NoNl l := linesGo_no s [] (fun _ h => by cases h)
theorem linesGo_skip : ∀ (s r cur : List UInt8), NoNl s → linesGo (s ++ r) cur = linesGo r (cur ++ s)
 | [], r, cur, _ => by simp
 | c :: s, r, cur, h => by
  have h1 : c ≠ 10 := h c (List.mem_cons_self ..)
  show linesGo (c :: (s ++ r)) cur = _
  conv => lhs; unfold linesGo
  rw [if_neg h1, linesGo_skip s r (cur ++ [c]) (fun x hx => h x (List.mem_cons_of_mem _ hx))]
  simp
theorem linesM_enc : ∀ (l : List (List UInt8)) (r : List UInt8), (∀ s ∈ l, NoNl s) → linesM (encL l ++ r) = l ++ linesM r
 | [], r, _ => rfl
 | s :: l, r, h => by
  have e : encL (s :: l) ++ r = s ++ (10 :: (encL l ++ r)) := by unfold encL; simp
  have e2 : linesM (encL (s :: l) ++ r) = linesGo (10 :: (encL l ++ r)) ([] ++ s) := by rw [e]; exact linesGo_skip s _ [] (h s (List.mem_cons_self ..))
  rw [e2]
  conv => lhs; unfold linesGo
  rw [if_pos rfl]
  show ([] ++ s) :: linesM (encL l ++ r) = _
  rw [linesM_enc l r (fun x hx => h x (List.mem_cons_of_mem _ hx))]
  rfl
theorem linesM_end (l : List (List UInt8)) (h : ∀ s ∈ l, NoNl s) : linesM (encL l) = l ++ [[]] := by
 have := linesM_enc l [] h
 rw [List.append_nil] at this
 rw [this]
 rfl
theorem lines_join : ∀ (r : List (List UInt8)) (x cur : List UInt8), NoNl x → (∀ y ∈ r, NoNl y) → linesGo (x ++ Lib.joinTail [10] r) cur = (cur ++ x) :: r
 | [], x, cur, hx, _ => by
  rw [linesGo_skip x _ cur hx]
  rfl
 | y :: r, x, cur, hx, h => by
  rw [linesGo_skip x _ cur hx]
  have e : Lib.joinTail [10] (y :: r) = 10 :: (y ++ Lib.joinTail [10] r) := by unfold Lib.joinTail; simp
  rw [e]
  conv => lhs; unfold linesGo
  rw [if_pos rfl, lines_join r y [] (h y (List.mem_cons_self ..)) (fun z hz => h z (List.mem_cons_of_mem _ hz))]
  rfl
theorem linesM_join (x : List UInt8) (r : List (List UInt8)) (hx : NoNl x) (h : ∀ y ∈ r, NoNl y) : linesM (Lib.join (x :: r) [10]) = x :: r := by
 rw [Lib.join_cons]
 exact lines_join r x [] hx h
/-- the script of lines -/
def parseL (l : List (List UInt8)) : ProgM × (Int × Int) × Int := endD (dGo l l.length 0 d0)
theorem parseM_join (x : List UInt8) (r : List (List UInt8)) (hx : NoNl x) (h : ∀ y ∈ r, NoNl y) : parseM (Lib.join (x :: r) [10]) = parseL (x :: r) := by
 rw [parse_same]
 unfold parseD parseL
 rw [linesM_join x r hx h]
theorem dGo_succ (l : List (List UInt8)) (f i : Nat) (d : DM) : dGo l (f + 1) i d = if idleB (l.getD i []) = true then dGo l f (i + 1) d else if (readE d (l.getD i [])).2 ≠ 0 then (d, some (i, readE d (l.getD i []))) else dGo l f (i + 1) (takeD d (wordsM (l.getD i [])).1 ((i : Nat) + 1)) := rfl
theorem dGo_left (l t : List (List UInt8)) : ∀ (f i : Nat) (d : DM), i + f ≤ l.length → dGo (l ++ t) f i d = dGo l f i d
 | 0, _, _, _ => rfl
 | f + 1, i, d, h => by
  have e : (l ++ t).getD i [] = l.getD i [] := by
   rw [List.getD_eq_getElem?_getD, List.getD_eq_getElem?_getD, List.getElem?_append_left (by omega)]
  rw [dGo_succ, dGo_succ, e, dGo_left l t f (i + 1) d (by omega), dGo_left l t f (i + 1) _ (by omega)]
theorem dGo_add (l : List (List UInt8)) (g : Nat) : ∀ (f i : Nat) (d : DM), dGo l (f + g) i d = if (dGo l f i d).2 = none then dGo l g (i + f) (dGo l f i d).1 else dGo l f i d
 | 0, i, d => by rw [Nat.zero_add]; rfl
 | f + 1, i, d => by
  rw [show f + 1 + g = (f + g) + 1 by omega, dGo_succ, dGo_succ, show i + (f + 1) = i + 1 + f by omega]
  split
  ·exact dGo_add l g f (i + 1) d
  split
  ·rfl
  ·exact dGo_add l g f (i + 1) _
/-- a line behind all others that says nothing -/
theorem parseL_idle (l : List (List UInt8)) (s : List UInt8) (h : idleB s = true) : parseL (l ++ [s]) = parseL l := by
 unfold parseL
 rw [List.length_append, dGo_add, dGo_left l [s] l.length 0 d0 (by omega)]
 split
 ·rename_i h1
  have e : (l ++ [s]).getD (0 + l.length) [] = s := by rw [List.getD_eq_getElem?_getD]; simp
  show endD (dGo (l ++ [s]) (0 + 1) (0 + l.length) (dGo l l.length 0 d0).1) = _
  rw [dGo_succ, e, if_pos h]
  show endD ((dGo l l.length 0 d0).1, none) = _
  rw [← h1]
 ·rfl
theorem hex_val : ∀ d : Fin 16, valH (hexD d.val) = (d.val : Int) := by decide
theorem hex_ge : ∀ d : Fin 16, 48 ≤ (hexD d.val).toNat := by decide
theorem hex_back (b : UInt8) : UInt8.ofNat (16 * (valH (hexD (b.toNat / 16))).toNat + (valH (hexD (b.toNat % 16))).toNat) = b ∧ ¬ valH (hexD (b.toNat / 16)) < 0 ∧ ¬ valH (hexD (b.toNat % 16)) < 0 := by
 have hb := b.toNat_lt
 have h1 := hex_val ⟨b.toNat / 16, by omega⟩
 have h2 := hex_val ⟨b.toNat % 16, by omega⟩
 simp only at h1 h2
 rw [h1, h2]
 refine ⟨?_, by omega, by omega⟩
 rw [Int.toNat_natCast, Int.toNat_natCast, Nat.div_add_mod]
 simp
theorem one_sign (b : UInt8) (r : List UInt8) : oneAt (signT b ++ r) 0 = (b, (signT b).length, true) ∧ atB (signT b ++ r) 0 ≠ 34 := by
 have two : ∀ e x : UInt8, escB e = some x → oneAt ([92, e] ++ r) 0 = (x, 2, true) := by
  intro e x h
  have h0 : atB ([92, e] ++ r) 0 = 92 := rfl
  have h1 : atB ([92, e] ++ r) (0 + 1) = e := rfl
  have h2 : ¬ ([92, e] ++ r).length ≤ 0 := by simp
  have h3 : ¬ ([92, e] ++ r).length ≤ 0 + 1 := by simp
  unfold oneAt
  rw [if_neg h2, h0, if_neg (by decide), if_neg (by decide), if_neg h3, h1, h]
 unfold signT
 split
 ·rename_i h
  refine ⟨two b b ?_, by show (92 : UInt8) ≠ 34; decide⟩
  rcases h with rfl | rfl <;> rfl
 split
 ·rename_i h; subst h
  exact ⟨two 110 10 rfl, by show (92 : UInt8) ≠ 34; decide⟩
 split
 ·rename_i h; subst h
  exact ⟨two 114 13 rfl, by show (92 : UInt8) ≠ 34; decide⟩
 split
 ·rename_i h; subst h
  exact ⟨two 116 9 rfl, by show (92 : UInt8) ≠ 34; decide⟩
 split
 ·obtain ⟨e1, e2, e3⟩ := hex_back b
  generalize hexD (b.toNat / 16) = x at *
  generalize hexD (b.toNat % 16) = y at *
  have h0 : atB ([92, 120, x, y] ++ r) 0 = 92 := rfl
  have h1 : atB ([92, 120, x, y] ++ r) (0 + 1) = 120 := rfl
  have h2 : atB ([92, 120, x, y] ++ r) (0 + 2) = x := rfl
  have h3 : atB ([92, 120, x, y] ++ r) (0 + 3) = y := rfl
  have hl : ([92, 120, x, y] ++ r).length = 4 + r.length := by simp; omega
  refine ⟨?_, by rw [h0]; decide⟩
  unfold oneAt
  rw [hl, if_neg (by omega), h0, if_neg (by decide), if_neg (by decide), if_neg (by omega), h1]
  show (if (120 : UInt8) ≠ 120 then _ else _) = _
  rw [if_neg (by decide), if_neg (by omega), h2, if_neg e2, if_neg (by omega), h3, if_neg e3, e1]
  rfl
 ·rename_i h1 h2 h3 h4 h5
  have h0 : atB ([b] ++ r) 0 = b := rfl
  have hb : ¬ (b.toNat < 32 ∨ 126 < b.toNat ∨ b = 34) := by
   intro h
   rcases h with h | h | h
   ·exact h5 (Or.inl (UInt8.lt_iff_toNat_lt.2 h))
   ·exact h5 (Or.inr (UInt8.lt_iff_toNat_lt.2 h))
   ·exact h1 (Or.inl h)
  refine ⟨?_, by rw [h0]; exact fun h => h1 (Or.inl h)⟩
  unfold oneAt
  rw [h0, if_neg (by simp), if_neg hb, if_pos (fun h => h1 (Or.inr h))]
  rfl
theorem readGo_signs : ∀ (l r L : List UInt8) (f i : Nat) (out : List UInt8), L.drop i = signsT l ++ 34 :: r → l.length < f → readGo f L i out = (out ++ l, i + (signsT l).length + 1, 0)
 | [], r, L, 0, i, out, _, h => by simp at h
 | [], r, L, f + 1, i, out, hd, _ => by
  have hi : i < L.length := by
   have := congrArg List.length hd
   simp [signsT] at this
   omega
  have ha : atB L i = 34 := by
   have := atB_drop L i 0
   rw [hd] at this
   exact this.symm
  unfold readGo
  rw [if_pos ⟨hi, ha⟩]
  simp [signsT]
 | b :: l, r, L, 0, i, out, _, h => by simp at h
 | b :: l, r, L, f + 1, i, out, hd, h => by
  have e : signsT (b :: l) = signT b ++ signsT l := by unfold signsT; simp
  rw [e, List.append_assoc] at hd
  obtain ⟨h1, h2⟩ := one_sign b (signsT l ++ 34 :: r)
  have hi : i ≤ L.length := by
   rcases Nat.lt_or_ge L.length i with hl | hl
   ·rw [List.drop_eq_nil_of_le (by omega)] at hd
    have := congrArg List.length hd
    simp at this
   ·exact hl
  have h3 : oneAt L i = (b, (signT b).length, true) := by rw [← oneAt_drop L i hi, hd, h1]
  have h4 : atB L i ≠ 34 := by
   have := atB_drop L i 0
   rw [hd] at this
   rw [← Nat.add_zero i, ← this]
   exact h2
  unfold readGo
  rw [if_neg (fun h => h4 h.2), h3, if_pos rfl]
  show readGo f L (i + (signT b).length) (out ++ [b]) = _
  rw [readGo_signs l r L f (i + (signT b).length) (out ++ [b]) ?_ (by simpa using h), e]
  ·simp; omega
  ·rw [← List.drop_drop, hd, List.drop_left]
theorem qRead_quote (l r : List UInt8) : qReadM (quoteT l ++ r) = (l, (quoteT l).length, 0) := by
 have hq : quoteT l ++ r = 34 :: (signsT l ++ 34 :: r) := by unfold quoteT; simp
 have hl : l.length ≤ (signsT l).length := by
  induction l with
  | nil => simp
  | cons b l ih =>
   have := (sign_len b).1
   have e : signsT (b :: l) = signT b ++ signsT l := by unfold signsT; simp
   rw [e, List.length_append, List.length_cons]
   have := ih (by unfold quoteT; simp)
   omega
 unfold qReadM
 rw [hq, if_pos ⟨by simp, rfl⟩, readGo_signs l r _ _ 1 [] rfl (by simp; omega)]
 unfold quoteT
 simp
 omega
/-- a word to be written -/
inductive Tok where
 | bare (t : List UInt8)
 | quo (t : List UInt8)
def Tok.out : Tok → List UInt8
 | .bare t => t
 | .quo t => quoteT t
def Tok.word (k : Nat) : Tok → WordM
 | .bare t => ⟨t, false, k⟩
 | .quo t => ⟨t, true, k⟩
def Tok.ok : Tok → Prop
 | .bare t => t ≠ [] ∧ ∀ b ∈ t, plainB b = true
 | .quo t => True
def toksAt : Nat → List Tok → List WordM
 | _, [] => []
 | k, t :: r => t.word k :: toksAt (k + t.out.length + 1) r
def Edge (r : List UInt8) : Prop := r = [] ∨ ∃ q, r = 32 :: q
theorem drop_le {L r : List UInt8} {i : Nat} (h : L.drop i = r) (hr : r ≠ []) : i ≤ L.length := by
 rcases Nat.lt_or_ge L.length i with hl | hl
 ·rw [List.drop_eq_nil_of_le (by omega)] at h
  exact absurd h.symm hr
 ·exact hl
theorem bareN_tok : ∀ (t r : List UInt8), (∀ b ∈ t, plainB b = true) → Edge r → bareN (t ++ r) = t.length
 | [], r, _, he => by
  rcases he with rfl | ⟨q, rfl⟩ <;> rfl
 | b :: t, r, h, he => by
  have h1 := h b (List.mem_cons_self ..)
  have h2 := bareN_tok t r (fun x hx => h x (List.mem_cons_of_mem _ hx)) he
  unfold bareN at h2 ⊢
  rw [List.cons_append, List.takeWhile_cons, if_pos h1, List.length_cons, h2, List.length_cons]
theorem tok_pos {t : Tok} (h : t.ok) : 1 ≤ t.out.length := by
 cases t with
 | bare t =>
  cases t with
  | nil => exact absurd rfl h.1
  | cons a r => simp [Tok.out]
 | quo t => simp [Tok.out, quoteT]
theorem wordAt_tok (t : Tok) (ht : t.ok) (L r : List UInt8) (i : Nat) (hd : L.drop i = t.out ++ r) (he : Edge r) : wordAt L i = (t.word i, t.out.length, 0) := by
 have hp := tok_pos ht
 have hi : i < L.length := by
  have := congrArg List.length hd
  rw [List.length_drop, List.length_append] at this
  omega
 have ha : atB L i = atB (t.out ++ r) 0 := by
  have := atB_drop L i 0
  rw [hd] at this
  exact this.symm
 cases t with
 | bare t =>
  obtain ⟨h0, h1⟩ := ht
  have hb : atB L i ≠ 34 := by
   rw [ha]
   cases t with
   | nil => exact absurd rfl h0
   | cons a q =>
    show a ≠ 34
    have := h1 a (List.mem_cons_self ..)
    intro e
    subst e
    exact absurd this (by decide)
  have hn := bareN_tok t r h1 he
  have hl : t.length ≠ 0 := fun e => h0 (List.eq_nil_of_length_eq_zero e)
  unfold wordAt
  rw [if_neg (fun h => hb h.2), hd]
  show (if bareN (t ++ r) = 0 then _ else (WordM.mk ((t ++ r).take (bareN (t ++ r))) false i, bareN (t ++ r), 0)) = _
  rw [hn, if_neg hl, List.take_left]
  rfl
 | quo t =>
  have hb : atB L i = 34 := ha
  unfold wordAt
  rw [if_pos ⟨hi, hb⟩, hd]
  show (WordM.mk (qReadM (quoteT t ++ r)).1 true i, (qReadM (quoteT t ++ r)).2.1, (qReadM (quoteT t ++ r)).2.2) = _
  rw [qRead_quote]
  rfl
theorem edge_words (ts : List Tok) : Edge ((ts.map Tok.out).flatMap (fun x => 32 :: x)) := by
 cases ts with
 | nil => exact Or.inl rfl
 | cons t r => exact Or.inr ⟨_, by simp; rfl⟩
theorem wordsGo_toks : ∀ (ts : List Tok) (t : Tok) (L : List UInt8) (f i : Nat) (out : List WordM), L.drop i = wordsT ((t :: ts).map Tok.out) → (∀ x ∈ t :: ts, x.ok) → ts.length < f → wordsGo f L i out = (out ++ toksAt i (t :: ts), 0, 0)
 | ts, t, L, 0, i, out, _, _, h => by omega
 | ts, t, L, f + 1, i, out, hd, hk, hf => by
  have hd' : L.drop i = t.out ++ (ts.map Tok.out).flatMap (fun x => 32 :: x) := hd
  have hw := wordAt_tok t (hk t (List.mem_cons_self ..)) L _ i hd' (edge_words ts)
  have hp := tok_pos (hk t (List.mem_cons_self ..))
  have hlen := congrArg List.length hd'
  rw [List.length_drop, List.length_append] at hlen
  unfold wordsGo
  rw [hw]
  simp only [ne_eq, not_true_eq_false, if_false]
  cases ts with
  | nil =>
   simp at hlen
   rw [if_pos (by omega)]
   rfl
  | cons u us =>
   have hn : ¬ i + t.out.length = L.length := by
    simp at hlen
    omega
   have hdr : L.drop (i + t.out.length) = 32 :: wordsT ((u :: us).map Tok.out) := by
    rw [← List.drop_drop, hd', List.drop_left]
    simp [wordsT]
   have hc : atB L (i + t.out.length) = 32 := by
    have := atB_drop L (i + t.out.length) 0
    rw [hdr] at this
    exact this.symm
   rw [if_neg hn, if_neg (by rw [hc]; simp)]
   rw [wordsGo_toks us u L f (i + t.out.length + 1) (out ++ [t.word i]) ?_ (fun x hx => hk x (List.mem_cons_of_mem _ hx)) (by simp at hf; omega)]
   ·simp [toksAt]
   ·rw [← List.drop_drop, hdr]
    rfl
theorem toks_len : ∀ (ts : List Tok), (∀ x ∈ ts, x.ok) → ts.length ≤ (wordsT (ts.map Tok.out)).length
 | [], _ => by simp
 | t :: ts, h => by
  have h1 := tok_pos (h t (List.mem_cons_self ..))
  have h2 : ∀ us : List Tok, us.length ≤ ((us.map Tok.out).flatMap (fun x => 32 :: x)).length := by
   intro us
   induction us with
   | nil => simp
   | cons u us ih => simp at ih ⊢; omega
  have := h2 ts
  show _ ≤ (t.out ++ (ts.map Tok.out).flatMap (fun x => 32 :: x)).length
  rw [List.length_append, List.length_cons]
  omega
/-- the words of a line of words -/
theorem words_toks (t : Tok) (ts : List Tok) (hk : ∀ x ∈ t :: ts, x.ok) (hl : (wordsT ((t :: ts).map Tok.out)).length ≤ 1200) : wordsM (wordsT ((t :: ts).map Tok.out)) = (toksAt 0 (t :: ts), 0, 0) := by
 have h1 := toks_len (t :: ts) hk
 rw [List.length_cons] at h1
 generalize hL : wordsT ((t :: ts).map Tok.out) = L at *
 unfold wordsM
 rw [if_neg (by omega), if_neg (by omega), wordsGo_toks ts t L _ 0 [] hL.symm hk (by omega)]
 rfl
theorem sign_nl (b : UInt8) : ∀ c ∈ signT b, c ≠ 10 := by
 intro c hc
 have hx : ∀ d : Fin 16, hexD d.val ≠ 10 := by decide
 have hb := b.toNat_lt
 unfold signT at hc
 split at hc
 ·rename_i h
  simp at hc
  rcases hc with rfl | rfl
  ·decide
  ·rcases h with rfl | rfl <;> decide
 split at hc
 ·simp at hc; rcases hc with rfl | rfl <;> decide
 split at hc
 ·simp at hc; rcases hc with rfl | rfl <;> decide
 split at hc
 ·simp at hc; rcases hc with rfl | rfl <;> decide
 split at hc
 ·simp at hc
  rcases hc with rfl | rfl | rfl | rfl
  ·decide
  ·decide
  ·exact hx ⟨b.toNat / 16, by omega⟩
  ·exact hx ⟨b.toNat % 16, by omega⟩
 ·rename_i h _ _ _
  simp at hc
  subst hc
  assumption
theorem tok_nl {t : Tok} (h : t.ok) : NoNl t.out := by
 cases t with
 | bare t =>
  intro c hc e
  subst e
  exact absurd (h.2 10 hc) (by decide)
 | quo t =>
  intro c hc
  simp only [Tok.out, quoteT, List.mem_cons, List.mem_append, List.not_mem_nil, or_false] at hc
  rcases hc with rfl | hc | rfl
  ·decide
  ·unfold signsT at hc
   obtain ⟨b, _, hb⟩ := List.mem_flatMap.1 hc
   exact sign_nl b c hb
  ·decide
theorem words_nl (t : Tok) (ts : List Tok) (hk : ∀ x ∈ t :: ts, x.ok) : NoNl (wordsT ((t :: ts).map Tok.out)) := by
 intro c hc
 rcases List.mem_append.1 (show c ∈ t.out ++ (ts.map Tok.out).flatMap (fun x => 32 :: x) from hc) with hc | hc
 ·exact tok_nl (hk t (List.mem_cons_self ..)) c hc
 ·obtain ⟨x, hx, hc⟩ := List.mem_flatMap.1 hc
  obtain ⟨u, hu, rfl⟩ := List.mem_map.1 hx
  rcases List.mem_cons.1 hc with rfl | hc
  ·decide
  ·exact tok_nl (hk u (List.mem_cons_of_mem _ hu)) c hc
theorem words_says (t : Tok) (ts : List Tok) (ht : t.ok) (hs : (t.out ++ (ts.map Tok.out).flatMap (fun x => 32 :: x)).getD 0 0 ≠ 35) : idleB (wordsT ((t :: ts).map Tok.out)) = false := by
 have hp := tok_pos ht
 unfold idleB
 rw [Bool.or_eq_false_iff, decide_eq_false_iff_not, decide_eq_false_iff_not]
 refine ⟨?_, hs⟩
 show ¬ (t.out ++ (ts.map Tok.out).flatMap (fun x => 32 :: x)).length = 0
 rw [List.length_append]
 omega
theorem dig_fin : ∀ d : Fin 10, digB' (digB d.val) = true ∧ (digB d.val).toNat = 48 + d.val ∧ okC (digB d.val) = true ∧ plainB (digB d.val) = true ∧ (d.val ≠ 0 → digB d.val ≠ 48) := by decide
theorem dec_facts : ∀ u : Nat, (Lib.decDigits u).all digB' = true ∧ valFrom 0 (Lib.decDigits u) = u ∧ Lib.decDigits u ≠ [] ∧ (u ≠ 0 → atB (Lib.decDigits u) 0 ≠ 48) ∧ (Lib.decDigits u).all okC = true ∧ ∀ b ∈ Lib.decDigits u, plainB b = true := by
 intro u
 induction u using Nat.strongRecOn with
 | _ u ih =>
  by_cases h : u < 10
  ·obtain ⟨a, b, c, e, f⟩ := dig_fin ⟨u, h⟩
   simp only at a b c e f
   rw [dec_one h]
   refine ⟨by simp [a], ?_, by simp, fun h0 => f h0, by simp [c], fun x hx => ?_⟩
   ·show 10 * 0 + ((digB u).toNat - 48) = u
    omega
   ·rw [List.mem_singleton] at hx
    subst hx
    exact e
  ·obtain ⟨a, b, c, e, f, g⟩ := ih (u / 10) (by omega)
   obtain ⟨a', b', c', e', f'⟩ := dig_fin ⟨u % 10, by omega⟩
   simp only at a' b' c' e' f'
   rw [dec_big h]
   refine ⟨by rw [List.all_append, a]; simp [a'], ?_, by simp, fun _ => ?_, by rw [List.all_append, f]; simp [c'], fun x hx => ?_⟩
   ·rw [valFrom_snoc, b, b']
    omega
   ·have := e (by omega)
    cases hd : Lib.decDigits (u / 10) with
    | nil => exact absurd hd c
    | cons x r => rw [hd] at this; exact this
   ·rcases List.mem_append.1 hx with hx | hx
    ·exact g x hx
    ·rw [List.mem_singleton] at hx
     subst hx
     exact e'
theorem tickP_dec {u : Nat} (h : u < 9223372036854775807) : tickP (Lib.decDigits u) = ((u : Int), 0) := by
 obtain ⟨a, b, c, e, _, _⟩ := dec_facts u
 have h1 : Lib.decDigits u ≠ neverL := by
  intro h1
  rw [h1] at a
  exact absurd a (by decide)
 have h2 : ¬ ((Lib.decDigits u).length = 0 ∨ (1 < (Lib.decDigits u).length ∧ atB (Lib.decDigits u) 0 = 48)) := by
  intro h2
  rcases h2 with h2 | ⟨h2, h3⟩
  ·exact c (List.eq_nil_of_length_eq_zero h2)
  ·by_cases h0 : u = 0
   ·subst h0
    rw [dec_one (by omega)] at h2
    simp at h2
   ·exact e h0 h3
 unfold tickP
 rw [if_neg h1, if_neg h2, if_neg (by rw [a]; simp), b, if_neg (by omega)]
theorem numberP_dec {u : Nat} {most : Int} (h : (u : Int) ≤ most) (hm : most < 9223372036854775807) : numberP (Lib.decDigits u) most = ((u : Int), 0) := by
 unfold numberP
 rw [tickP_dec (by omega)]
 rw [if_neg (by simp only; omega)]
theorem itoa_nat {n : Int} (h : 0 ≤ n) : Lib.itoa n = Lib.decDigits n.toNat := by unfold Lib.itoa; rw [if_neg (by omega)]
theorem nn_of {n : Int} (h : 0 ≤ n) : nnT n = n := by unfold nnT; rw [if_neg (by omega)]
theorem tk_num {n : Int} (h : 0 ≤ n) (h2 : n ≤ 1000000000000) : tkT n = Lib.decDigits n.toNat := by
 unfold tkT
 rw [if_neg (by omega), nn_of h, itoa_nat h]
theorem dec_never (u : Nat) : Lib.decDigits u ≠ neverL := by
 intro h1
 have a := (dec_facts u).1
 rw [h1] at a
 exact absurd a (by decide)
theorem numD_dec {k : UInt8} {n most : Int} (h : 0 ≤ n) (h2 : n ≤ most) (hm : most = if k = 106 then 1000 else 1000000000000) (h1 : k = 100 → n ≠ 0) : numberD k (Lib.decDigits n.toNat) = (n, 0) := by
 have hp : numberP (Lib.decDigits n.toNat) (if k = 106 then 1000 else 1000000000000) = (n, 0) := by
  rw [← hm, numberP_dec (by omega) (by rw [hm]; split <;> omega), Int.toNat_of_nonneg h]
 unfold numberD
 rw [hp, if_neg (fun h => dec_never _ h.1), if_neg (fun h => h1 h.2.1 h.2.2)]
theorem numD_tk {k : UInt8} {n : Int} (hk : k = 100 ∨ k = 101) (h : (nevB n || tickB (if k = 100 then 1 else 0) n) = true) : numberD k (tkT n) = (n, 0) := by
 by_cases hn : n = 9223372036854775807
 ·subst hn
  have e : tkT 9223372036854775807 = neverL := rfl
  rw [e]
  unfold numberD
  rw [if_pos ⟨rfl, hk⟩]
 ·have ht : (if k = 100 then (1 : Int) else 0) ≤ n ∧ n ≤ 1000000000000 := by
   unfold nevB tickB at h
   simp [hn] at h
   exact h
  have h0 : 0 ≤ n := by split at ht <;> omega
  rw [tk_num h0 ht.2]
  refine numD_dec (most := 1000000000000) h0 ht.2 ?_ ?_
  ·rcases hk with rfl | rfl <;> rfl
  ·intro e
   rw [if_pos e] at ht
   omega
theorem tk_ok (n : Int) : Tok.ok (.bare (tkT n)) := by
 unfold tkT
 split
 ·exact ⟨by simp, by decide⟩
 ·have h : 0 ≤ nnT n := by unfold nnT; split <;> omega
  rw [itoa_nat h]
  exact ⟨(dec_facts _).2.2.1, (dec_facts _).2.2.2.2.2⟩
theorem itoa_ok {n : Int} (h : 0 ≤ n) : Tok.ok (.bare (Lib.itoa n)) := by
 rw [itoa_nat h]
 exact ⟨(dec_facts _).2.2.1, (dec_facts _).2.2.2.2.2⟩
theorem okC_plain {b : UInt8} (h : okC b = true) : plainB b = true := by
 unfold okC at h
 simp only [Bool.or_eq_true, Bool.and_eq_true, decide_eq_true_eq] at h
 unfold plainB
 simp only [Bool.and_eq_true, decide_eq_true_eq]
 refine ⟨by omega, by omega, ?_, ?_⟩
 ·intro e; subst e; revert h; decide
 ·intro e; subst e; revert h; decide
theorem name_ok {l : List UInt8} (h : nameL l = true) : Tok.ok (.bare l) := by
 unfold nameL at h
 simp only [Bool.and_eq_true, decide_eq_true_eq] at h
 refine ⟨h.1.1.1, fun b hb => okC_plain ?_⟩
 exact List.all_eq_true.1 h.2 b hb
theorem label_name {n : Int} (h : 0 ≤ n) (h2 : n ≤ 1000) : nameL (labelT n) = true := by
 unfold labelT
 rw [nn_of h, itoa_nat h]
 have hl : (Lib.decDigits n.toNat).length ≤ 4 := dec_len_go 3 n.toNat (by omega)
 unfold nameL
 simp only [Bool.and_eq_true, decide_eq_true_eq]
 refine ⟨⟨⟨by simp, by simp; omega⟩, (show 97 ≤ (108 : UInt8).toNat by decide)⟩, ?_⟩
 rw [List.all_cons, (dec_facts _).2.2.2.2.1]
 rfl
theorem label_inj {a b : Int} (ha : 0 ≤ a) (hb : 0 ≤ b) (h : labelT a = labelT b) : a = b := by
 unfold labelT at h
 injection h with _ h
 rw [nn_of ha, nn_of hb, itoa_nat ha, itoa_nat hb] at h
 have := congrArg (valFrom 0) h
 rw [(dec_facts _).2.1, (dec_facts _).2.1] at this
 omega
theorem label_short {n : Int} (h : 0 ≤ n) (h2 : n ≤ 1000) : (labelT n).length ≤ 16 := by
 have := label_name h h2
 unfold nameL at this
 simp only [Bool.and_eq_true, decide_eq_true_eq] at this
 exact this.1.1.2
theorem tk_short {n : Int} (h : InI n) : (tkT n).length ≤ 30 := by
 have := tk_len h.2
 omega
/-- lines, one by one -/
def dGoL : List (List UInt8) → Nat → DM → DM × Option (Nat × Nat × Nat)
 | [], _, d => (d, none)
 | s :: r, i, d => if idleB s = true then dGoL r (i + 1) d else if (readE d s).2 ≠ 0 then (d, some (i, readE d s)) else dGoL r (i + 1) (takeD d (wordsM s).1 ((i : Nat) + 1))
theorem dGo_L : ∀ (l pre : List (List UInt8)) (d : DM), dGo (pre ++ l) l.length pre.length d = dGoL l pre.length d
 | [], pre, d => rfl
 | s :: r, pre, d => by
  have e : (pre ++ s :: r).getD pre.length [] = s := by rw [List.getD_eq_getElem?_getD]; simp
  have ih := dGo_L r (pre ++ [s])
  rw [List.append_assoc, List.length_append] at ih
  show dGo (pre ++ s :: r) (r.length + 1) pre.length d = _
  unfold dGo dGoL
  rw [e]
  split
  ·exact ih d
  split
  ·rfl
  ·exact ih _
theorem parseL_L (l : List (List UInt8)) : parseL l = endD (dGoL l 0 d0) := by
 unfold parseL
 have := dGo_L l [] d0
 rw [List.nil_append] at this
 exact congrArg endD this
/-- lines that bring what holds so far to what holds behind them -/
def Fed (ls : List (List UInt8)) (P Q : DM → Prop) : Prop := ∀ i d, P d → ∃ d', (∀ rest, dGoL (ls ++ rest) i d = dGoL rest (i + ls.length) d') ∧ Q d'
theorem Fed.nil (P : DM → Prop) : Fed [] P P := fun i d h => ⟨d, fun _ => rfl, h⟩
theorem Fed.app {a b : List (List UInt8)} {P Q R : DM → Prop} (h1 : Fed a P Q) (h2 : Fed b Q R) : Fed (a ++ b) P R := by
 intro i d h
 obtain ⟨d1, e1, q⟩ := h1 i d h
 obtain ⟨d2, e2, r⟩ := h2 (i + a.length) d1 q
 refine ⟨d2, fun rest => ?_, r⟩
 rw [List.append_assoc, e1, e2, List.length_append, Nat.add_assoc]
theorem Fed.one {s : List UInt8} {P Q : DM → Prop} (h1 : idleB s = false) (h2 : ∀ d, P d → (readE d s).2 = 0 ∧ ∀ line, Q (takeD d (wordsM s).1 line)) : Fed [s] P Q := by
 intro i d h
 obtain ⟨a, b⟩ := h2 d h
 refine ⟨_, fun rest => ?_, b ((i : Nat) + 1)⟩
 show dGoL (s :: rest) i d = _
 conv => lhs; unfold dGoL
 rw [if_neg (by rw [h1]; simp), if_neg (by rw [a]; simp)]
 rfl
theorem fmOk {d : DM} {l : List WordM} {width : Nat} {c : UInt8} {r : List UInt8} {i : Nat} (h1 : i + 1 < l.length) (h2 : wrongD c (wsAt l (i + 1)) = 0) (h3 : (wsAt l 0).text = kLabel → findD (wsAt l 1).text d.labels < 0)
 (h4 : (formD d l width r (i + 1)).2 = 0) : (formD d l width (c :: r) i).2 = 0 := by
 unfold formD
 rw [if_neg (by omega), if_neg (by rw [h2]; simp), if_neg (fun h => by have := h3 h.1; omega)]
 exact h4
theorem fmNil {d : DM} {l : List WordM} {width i : Nat} (h : l.length ≤ i + 1) : (formD d l width [] i).2 = 0 := by
 unfold formD
 rw [if_neg (by omega)]
/-- a line that is taken -/
theorem Fed.line {kw : List UInt8} {ts : List Tok} {P Q : DM → Prop} (hk : ∀ x ∈ Tok.bare kw :: ts, x.ok) (hl : (wordsT ((Tok.bare kw :: ts).map Tok.out)).length ≤ 1200) (h35 : kw.getD 0 0 ≠ 35)
 (h : ∀ d, P d → placeD d ⟨kw, false, 0⟩ = 0 ∧ (formD d (toksAt 0 (Tok.bare kw :: ts)) (wordsT ((Tok.bare kw :: ts).map Tok.out)).length (shapeD kw).1 0).2 = 0 ∧ ∀ line, Q (takeD d (toksAt 0 (Tok.bare kw :: ts)) line)) :
 Fed [wordsT ((Tok.bare kw :: ts).map Tok.out)] P Q := by
 have hw := words_toks (.bare kw) ts hk hl
 have h0 := hk _ (List.mem_cons_self ..)
 refine Fed.one (words_says _ _ h0 ?_) (fun d hd => ?_)
 ·cases kw with
  | nil => exact absurd rfl h0.1
  | cons a r => exact h35
 ·obtain ⟨a, b, c⟩ := h d hd
  rw [hw]
  refine ⟨?_, c⟩
  unfold readE
  rw [hw]
  have e : wsAt (toksAt 0 (Tok.bare kw :: ts)) 0 = ⟨kw, false, 0⟩ := rfl
  simp only [ne_eq, not_true_eq_false, if_false, e, a]
  exact b
abbrev Key := List UInt8 × Int × Int
def keyU (u : UseM) : Key := (u.name, u.op, u.how)
def blankA (a : ArmM) : ArmM := { a with «to» := 0 }
/-- an op ahead of its labels -/
def blank (o : OpM) : OpM := if o.kind = 2 then { o with arms := o.arms.map blankA, onT := -1, onE := -1 } else if o.kind = 3 then { o with «to» := 0 } else o
def armU (q : Nat) : Nat → List ArmM → List Key
 | _, [] => []
 | j, a :: r => (labelT a.to, (q : Int), (j : Int)) :: armU q (j + 1) r
def toutU (q : Nat) (o : OpM) : List Key := if 0 ≤ o.onT then [(labelT o.onT, (q : Int), -2)] else []
def eofU (q : Nat) (o : OpM) : List Key := if 0 ≤ o.onE then [(labelT o.onE, (q : Int), -3)] else []
def useOf (q : Nat) (o : OpM) : List Key := if o.kind = 2 then armU q 0 o.arms ++ toutU q o ++ eofU q o else if o.kind = 3 then [(labelT o.to, (q : Int), -1)] else []
def usesFrom : Nat → List OpM → List Key
 | _, [] => []
 | q, o :: r => useOf q o ++ usesFrom (q + 1) r
theorem usesFrom_app : ∀ (a b : List OpM) (q : Nat), usesFrom q (a ++ b) = usesFrom q a ++ usesFrom (q + a.length) b
 | [], b, q => by simp [usesFrom]
 | o :: a, b, q => by
  show useOf q o ++ usesFrom (q + 1) (a ++ b) = useOf q o ++ usesFrom (q + 1) a ++ _
  rw [usesFrom_app a b (q + 1), List.append_assoc, List.length_cons, Nat.add_assoc, Nat.add_comm 1]
/-- the labels ahead of an op -/
def Lb (T : List Int) (k : Nat) (ls : List (List UInt8 × Int)) : Prop := ∀ t : Nat, findD (labelT t) ls = if (t : Int) ∈ T ∧ t < k then (t : Int) else -1
/-- what has been read of a script: ops, uses, the labels ahead of some op -/
structure Sx (p : ProgM) (T : List Int) (ops : List OpM) (us : List Key) (k : Nat) (d : DM) : Prop where
 head : d.head = true
 name : d.name = p.name
 dl : d.dl = p.deadline
 jm : d.jm = p.jumps
 ops : d.ops = ops
 us : d.uses.map keyU = us
 lb : Lb T k d.labels
structure OpnD (tm ef : Bool) (d : DM) : Prop where
 opn : d.opn = true
 tm : d.tm = tm
 ef : d.ef = ef
theorem findD_app (k : List UInt8) (n : List UInt8) (v : Int) : ∀ l : List (List UInt8 × Int), (∀ x ∈ l, 0 ≤ x.2) → findD k (l ++ [(n, v)]) = if 0 ≤ findD k l then findD k l else if n = k then v else -1
 | [], _ => by
  show findD k [(n, v)] = _
  unfold findD findD
  rw [if_neg (show ¬ (0 : Int) ≤ -1 by omega)]
 | (m, x) :: l, h => by
  have hx : (0 : Int) ≤ x := h (m, x) (List.mem_cons_self ..)
  show findD k ((m, x) :: (l ++ [(n, v)])) = _
  unfold findD
  by_cases e : m = k
  ·rw [if_pos e, if_pos e, if_pos hx]
  ·rw [if_neg e, if_neg e]
   exact findD_app k n v l (fun y hy => h y (List.mem_cons_of_mem _ hy))
theorem wrong_b {c : UInt8} {t : List UInt8} {k : Nat} (hc : c = 110 ∨ c = 108) (h : nameL t = true) : wrongD c ⟨t, false, k⟩ = 0 := by
 unfold wrongD
 simp only [h]
 rcases hc with rfl | rfl <;> simp
theorem wrong_n {c : UInt8} {t : List UInt8} {k : Nat} {n : Int} (hc : c = 100 ∨ c = 101 ∨ c = 116 ∨ c = 106) (h : numberD c t = (n, 0)) : wrongD c ⟨t, false, k⟩ = 0 := by
 unfold wrongD
 simp only [h]
 rcases hc with rfl | rfl | rfl | rfl <;> simp
theorem wrong_t {t : List UInt8} {k : Nat} (h : t.length ≠ 0) (h2 : t.length ≤ 256) : wrongD 113 ⟨t, true, k⟩ = 0 := by
 unfold wrongD
 have : ¬ 256 < t.length := by omega
 simp [h, this]
theorem wrong_p {t : List UInt8} {k : Nat} (h : t.length ≤ 64) (h2 : (checkS t).2 = 0) : wrongD 112 ⟨t, true, k⟩ = 0 := by
 unfold wrongD
 have : ¬ 64 < t.length := by omega
 simp [h2, this]
theorem notLab {kw : List UInt8} {ts : List Tok} {P : Prop} (h : kw ≠ kLabel) : (wsAt (toksAt 0 (Tok.bare kw :: ts)) 0).text = kLabel → P := fun e => absurd e h
theorem place_in {d : DM} {kw : List UInt8} (h : d.head = true) (ho : isOp kw = true) (hl : d.ops.length < 200 ∨ kw = kLabel) : placeD d ⟨kw, false, 0⟩ = 0 := by
 have hs : kw ≠ kScript := by intro e; subst e; exact absurd ho (by decide)
 have ha : isArm kw = false := by
  unfold isOp at ho
  simp only [Bool.or_eq_true, decide_eq_true_eq] at ho
  rcases ho with e | e | e | e | e | e | e <;> subst e <;> rfl
 unfold placeD
 rw [if_neg ?_]
 ·show (if isArm kw = true then _ else _) = _
  rw [ha, if_neg (by simp), if_neg]
  rintro ⟨_, h2, h3⟩
  rcases hl with hl | hl
  ·omega
  ·exact h2 hl
 ·rintro (h1 | h1 | h1)
  ·cases h1
  ·rw [shape_known, ho] at h1
   simp at h1
  ·rw [h] at h1
   simp at h1
   exact hs h1
theorem place_armD {d : DM} {kw : List UInt8} (h : d.head = true) (ha : isArm kw = true) (ho : d.opn = true) (h8 : kw = kOn → (lastD d).arms.length ≤ 7) (ht : kw = kTimeout → d.tm = false) (he : kw = kEof → d.ef = false) : placeD d ⟨kw, false, 0⟩ = 0 := by
 have hs : kw ≠ kScript := by intro e; subst e; exact absurd ha (by decide)
 unfold placeD
 rw [if_neg ?_]
 ·show (if isArm kw = true then _ else _) = _
  rw [if_pos ha, if_neg (by rw [ho]; simp), if_neg (fun h => by have := h8 h.1; omega), if_neg]
  rintro (⟨h1, h2⟩ | ⟨h1, h2⟩)
  ·rw [ht h1] at h2; cases h2
  ·rw [he h1] at h2; cases h2
 ·rintro (h1 | h1 | h1)
  ·cases h1
  ·rw [shape_known, ha] at h1
   simp at h1
  ·rw [h] at h1
   simp at h1
   exact hs h1
section
variable {p : ProgM} {T : List Int}
/-- a label's line -/
theorem fed_label {ops : List OpM} {us : List Key} {k : Nat} (hk : k ≤ 1000) (hT : (k : Int) ∈ T) (hnn : k = ops.length) : Fed [wordsT [kLabel, labelT k]] (fun d => Sx p T ops us k d ∧ ∀ x ∈ d.labels, 0 ≤ x.2) (fun d => Sx p T ops us (k + 1) d ∧ ∀ x ∈ d.labels, 0 ≤ x.2) := by
 have hn := label_name (n := (k : Int)) (by omega) (by omega)
 have hs := label_short (n := (k : Int)) (by omega) (by omega)
 refine Fed.line (kw := kLabel) (ts := [.bare (labelT k)]) ?_ ?_ (by decide) (fun d hd => ?_)
 ·intro x hx
  simp only [List.mem_cons, List.not_mem_nil, or_false] at hx
  rcases hx with rfl | rfl
  ·exact ⟨by decide, by decide⟩
  ·exact name_ok hn
 ·show (kLabel ++ ([32] ++ labelT k ++ [])).length ≤ 1200
  simp [kLabel]
  omega
 ·obtain ⟨⟨h1, h2, h3, h4, h5, h6, h7⟩, h8⟩ := hd
  have hf : findD (labelT k) d.labels = -1 := by rw [h7 k, if_neg (fun h => by omega)]
  refine ⟨place_in h1 (by decide) (Or.inr rfl), ?_, fun line => ?_⟩
  ·refine fmOk (by simp [toksAt]) (wrong_b (Or.inl rfl) hn) (fun _ => ?_) (fmNil (by simp [toksAt]))
   show findD (labelT k) d.labels < 0
   omega
  ·have e : takeD d (toksAt 0 [Tok.bare kLabel, Tok.bare (labelT k)]) line = { d with labels := d.labels ++ [(labelT k, ((d.ops.length : Nat) : Int))], opn := false } := rfl
   rw [e]
   refine ⟨⟨h1, h2, h3, h4, h5, h6, fun t => ?_⟩, fun x hx => ?_⟩
   ·show findD (labelT t) (d.labels ++ [(labelT k, ((d.ops.length : Nat) : Int))]) = _
    rw [findD_app _ _ _ _ h8, h7 t, h5, ← hnn]
    by_cases ht : (t : Int) ∈ T ∧ t < k
    ·rw [if_pos ht, if_pos (by omega), if_pos ⟨ht.1, by omega⟩]
    ·rw [if_neg ht, if_neg (by omega)]
     by_cases hk2 : k = t
     ·subst hk2
      rw [if_pos rfl, if_pos ⟨hT, by omega⟩]
     ·rw [if_neg (fun h => hk2 (by have := label_inj (by omega) (by omega) h; omega)), if_neg (fun h => ht ⟨h.1, by omega⟩)]
   ·rcases List.mem_append.1 hx with hx | hx
    ·exact h8 x hx
    ·rw [List.mem_singleton] at hx
     subst hx
     show (0 : Int) ≤ ((d.ops.length : Nat) : Int)
     omega
theorem lb_skip {k : Nat} {ls : List (List UInt8 × Int)} (h : Lb T k ls) (hT : ¬ (k : Int) ∈ T) : Lb T (k + 1) ls := by
 intro t
 rw [h t]
 by_cases ht : (t : Int) ∈ T ∧ t < k
 ·rw [if_pos ht, if_pos ⟨ht.1, by omega⟩]
 ·rw [if_neg ht, if_neg]
  rintro ⟨h1, h2⟩
  by_cases e : t = k
  ·subst e; exact hT h1
  ·exact ht ⟨h1, by omega⟩
/-- what holds of the labels' ops, too -/
def Sy (p : ProgM) (T : List Int) (ops : List OpM) (us : List Key) (k : Nat) (d : DM) : Prop := Sx p T ops us k d ∧ ∀ x ∈ d.labels, 0 ≤ x.2
/-- a line of an op that adds it, and may use a label -/
theorem fed_op {ops : List OpM} {us : List Key} {k : Nat} {kw : List UInt8} {ts : List Tok} {o : OpM} {ul : List Key} (hkw : isOp kw = true) (hk : ∀ x ∈ Tok.bare kw :: ts, x.ok) (hl : (wordsT ((Tok.bare kw :: ts).map Tok.out)).length ≤ 1200) (h35 : kw.getD 0 0 ≠ 35) (h200 : ops.length < 200)
 (hf : ∀ d w, (formD d (toksAt 0 (Tok.bare kw :: ts)) w (shapeD kw).1 0).2 = 0)
 (ht : ∀ d line, ∃ ux, takeD d (toksAt 0 (Tok.bare kw :: ts)) line = { d with ops := d.ops ++ [o], opn := decide (kindD kw = 2), tm := false, ef := false, uses := d.uses ++ ux } ∧ (d.ops.length = ops.length → ux.map keyU = ul)) :
 Fed [wordsT ((Tok.bare kw :: ts).map Tok.out)] (Sy p T ops us k) (fun d => Sy p T (ops ++ [o]) (us ++ ul) k d ∧ (kw = kExpect → OpnD false false d)) := by
 refine Fed.line hk hl h35 (fun d hd => ?_)
 obtain ⟨⟨h1, h2, h3, h4, h5, h6, h7⟩, h8⟩ := hd
 refine ⟨place_in h1 hkw (Or.inl (by rw [h5]; exact h200)), hf d _, fun line => ?_⟩
 obtain ⟨ux, e, e2⟩ := ht d line
 rw [e]
 refine ⟨⟨⟨h1, h2, h3, h4, by show d.ops ++ [o] = _; rw [h5], by show (d.uses ++ ux).map keyU = _; rw [List.map_append, h6, e2 (by rw [h5])], h7⟩, h8⟩, fun hk2 => ⟨?_, rfl, rfl⟩⟩
 show decide (kindD kw = 2) = true
 rw [hk2]
 rfl
/-- an arm's line -/
theorem fed_arm {A : List OpM} {o1 : OpM} {us : List Key} {k : Nat} {tm ef : Bool} (a : ArmM) (ht : 0 ≤ a.to) (ht2 : a.to ≤ 1000) (hp : a.pat.size ≤ 64) (hc : (checkS a.pat.data.toList).2 = 0) (h8 : o1.arms.length ≤ 7) :
 Fed [wordsT [kOn, quoteT a.pat.data.toList, labelT a.to]] (fun d => Sy p T (A ++ [o1]) us k d ∧ OpnD tm ef d)
  (fun d => Sy p T (A ++ [{ o1 with arms := o1.arms ++ [blankA a] }]) (us ++ [(labelT a.to, (A.length : Int), (o1.arms.length : Int))]) k d ∧ OpnD tm ef d) := by
 have hn := label_name ht ht2
 have hs := label_short ht ht2
 have hq := quote_len a.pat.data.toList
 have hpl : a.pat.data.toList.length = a.pat.size := by rw [Array.length_toList]; rfl
 refine Fed.line (kw := kOn) (ts := [.quo a.pat.data.toList, .bare (labelT a.to)]) ?_ ?_ (by decide) (fun d hd => ?_)
 ·intro x hx
  simp only [List.mem_cons, List.not_mem_nil, or_false] at hx
  rcases hx with rfl | rfl | rfl
  ·exact ⟨by decide, by decide⟩
  ·exact trivial
  ·exact name_ok hn
 ·show (kOn ++ (32 :: quoteT a.pat.data.toList ++ (32 :: labelT a.to ++ []))).length ≤ 1200
  simp [kOn]
  omega
 ·obtain ⟨⟨⟨h1, h2, h3, h4, h5, h6, h7⟩, h9⟩, h10, h11, h12⟩ := hd
  have hlast : lastD d = o1 := by
   unfold lastD
   rw [h5, List.getD_eq_getElem?_getD, List.length_append]
   simp
  refine ⟨place_armD h1 (by decide) h10 (fun _ => by rw [hlast]; exact h8) (fun h => absurd h (by decide)) (fun h => absurd h (by decide)), ?_, fun line => ?_⟩
  ·refine fmOk (by simp [toksAt]) (wrong_p (by omega) hc) (notLab (by decide)) ?_
   exact fmOk (by simp [toksAt]) (wrong_b (Or.inr rfl) hn) (notLab (by decide)) (fmNil (by simp [toksAt]))
  ·obtain ⟨c, hc2⟩ : ∃ c, takeD d (toksAt 0 [Tok.bare kOn, Tok.quo a.pat.data.toList, Tok.bare (labelT a.to)]) line = { d with ops := d.ops.set (d.ops.length - 1) (addArm (lastD d) a.pat.data.toList), uses := d.uses ++ [⟨labelT a.to, line, c, ((d.ops.set (d.ops.length - 1) (addArm (lastD d) a.pat.data.toList)).length : Nat) - 1, ((lastD d).arms.length : Nat)⟩] } := ⟨_, rfl⟩
   rw [hc2, hlast, h5]
   have hset : (A ++ [o1]).set ((A ++ [o1]).length - 1) (addArm o1 a.pat.data.toList) = A ++ [{ o1 with arms := o1.arms ++ [blankA a] }] := by
    rw [List.length_append, List.set_append_right _ _ (by simp)]
    simp [addArm, blankA]
   rw [hset]
   refine ⟨⟨⟨h1, h2, h3, h4, rfl, ?_, h7⟩, h9⟩, h10, h11, h12⟩
   show (d.uses ++ [_]).map keyU = _
   rw [List.map_append, h6]
   simp [keyU]
/-- the line of an op's end by time, or by the end of what comes -/
theorem fed_way {A : List OpM} {o1 : OpM} {us : List Key} {k : Nat} {tm ef : Bool} (t : Int) (ht : 0 ≤ t) (ht2 : t ≤ 1000) (w : Bool) (hw : (if w = true then ef else tm) = false) :
 Fed [wordsT [if w = true then kEof else kTimeout, labelT t]] (fun d => Sy p T (A ++ [o1]) us k d ∧ OpnD tm ef d)
  (fun d => Sy p T (A ++ [o1]) (us ++ [(labelT t, (A.length : Int), if w = true then -3 else -2)]) k d ∧ OpnD (tm || !w) (ef || w) d) := by
 have hn := label_name ht ht2
 have hs := label_short ht ht2
 have hk : ∀ kw, (kw = kEof ∨ kw = kTimeout) → ∀ x ∈ Tok.bare kw :: [Tok.bare (labelT t)], x.ok := by
  intro kw hkw x hx
  simp only [List.mem_cons, List.not_mem_nil, or_false] at hx
  rcases hx with rfl | rfl
  ·rcases hkw with rfl | rfl <;> exact ⟨by decide, by decide⟩
  ·exact name_ok hn
 have hl : ∀ kw, (kw = kEof ∨ kw = kTimeout) → (wordsT ((Tok.bare kw :: [Tok.bare (labelT t)]).map Tok.out)).length ≤ 1200 := by
  intro kw hkw
  show (kw ++ (32 :: labelT t ++ [])).length ≤ 1200
  rcases hkw with rfl | rfl <;> (simp [kEof, kTimeout]; omega)
 cases w with
 | true =>
  refine Fed.line (kw := kEof) (ts := [.bare (labelT t)]) (hk _ (Or.inl rfl)) (hl _ (Or.inl rfl)) (by decide) (fun d hd => ?_)
  obtain ⟨⟨⟨h1, h2, h3, h4, h5, h6, h7⟩, h9⟩, h10, h11, h12⟩ := hd
  refine ⟨place_armD h1 (by decide) h10 (fun h => absurd h (by decide)) (fun h => absurd h (by decide)) (fun _ => by rw [h12]; exact hw), ?_, fun line => ?_⟩
  ·exact fmOk (by simp [toksAt]) (wrong_b (Or.inr rfl) hn) (notLab (by decide)) (fmNil (by simp [toksAt]))
  ·obtain ⟨c, hc2⟩ : ∃ c, takeD d (toksAt 0 [Tok.bare kEof, Tok.bare (labelT t)]) line = { d with ef := true, uses := d.uses ++ [⟨labelT t, line, c, (d.ops.length : Nat) - 1, -3⟩] } := ⟨_, rfl⟩
   rw [hc2]
   refine ⟨⟨⟨h1, h2, h3, h4, h5, ?_, h7⟩, h9⟩, h10, by show d.tm = _; rw [h11]; simp, by simp⟩
   show (d.uses ++ [_]).map keyU = _
   rw [List.map_append, h6, h5]
   simp [keyU]
 | false =>
  refine Fed.line (kw := kTimeout) (ts := [.bare (labelT t)]) (hk _ (Or.inr rfl)) (hl _ (Or.inr rfl)) (by decide) (fun d hd => ?_)
  obtain ⟨⟨⟨h1, h2, h3, h4, h5, h6, h7⟩, h9⟩, h10, h11, h12⟩ := hd
  refine ⟨place_armD h1 (by decide) h10 (fun h => absurd h (by decide)) (fun _ => by rw [h11]; exact hw) (fun h => absurd h (by decide)), ?_, fun line => ?_⟩
  ·exact fmOk (by simp [toksAt]) (wrong_b (Or.inr rfl) hn) (notLab (by decide)) (fmNil (by simp [toksAt]))
  ·obtain ⟨c, hc2⟩ : ∃ c, takeD d (toksAt 0 [Tok.bare kTimeout, Tok.bare (labelT t)]) line = { d with tm := true, uses := d.uses ++ [⟨labelT t, line, c, (d.ops.length : Nat) - 1, -2⟩] } := ⟨_, rfl⟩
   rw [hc2]
   refine ⟨⟨⟨h1, h2, h3, h4, h5, ?_, h7⟩, h9⟩, h10, by simp, by show d.ef = _; rw [h12]; simp⟩
   show (d.uses ++ [_]).map keyU = _
   rw [List.map_append, h6, h5]
   simp [keyU]
end
def armLine (a : ArmM) : List UInt8 := wordsT [kOn, quoteT a.pat.data.toList, labelT a.to]
def toutLs (o : OpM) : List (List UInt8) := if 0 ≤ o.onT then [wordsT [kTimeout, labelT o.onT]] else []
def eofLs (o : OpM) : List (List UInt8) := if 0 ≤ o.onE then [wordsT [kEof, labelT o.onE]] else []
/-- the lines of an op -/
def opLs (o : OpM) : List (List UInt8) := if o.kind = 1 then [wordsT [kSend, quoteT o.text.data.toList]] else if o.kind = 2 then [wordsT [kExpect, tkT o.n]] ++ o.arms.map armLine ++ toutLs o ++ eofLs o
 else if o.kind = 3 then [wordsT [kGoto, labelT o.to]] else if o.kind = 4 then [wordsT [kPause, tkT o.n]] else [wordsT [wordT o.kind]]
theorem encL_app (a b : List (List UInt8)) : encL (a ++ b) = encL a ++ encL b := by unfold encL; simp
theorem encL_one (s : List UInt8) : encL [s] = s ++ [10] := by unfold encL; simp
theorem encL_arms (l : List ArmM) : encL (l.map armLine) = l.flatMap armT := by
 induction l with
 | nil => rfl
 | cons a r ih =>
  show encL ([armLine a] ++ r.map armLine) = _
  rw [encL_app, ih, encL_one]
  rfl
theorem opLs_text (o : OpM) : encL (opLs o) = opT o := by
 unfold opLs opT
 by_cases h1 : o.kind = 1
 ·rw [if_pos h1, if_pos h1, encL_one, h1]; rfl
 rw [if_neg h1, if_neg h1]
 by_cases h2 : o.kind = 2
 ·rw [if_pos h2, if_pos h2, encL_app, encL_app, encL_app, encL_arms, encL_one]
  unfold expectT toutLs eofLs
  rw [h2]
  have e1 : encL (if 0 ≤ o.onT then [wordsT [kTimeout, labelT o.onT]] else []) = if 0 ≤ o.onT then lineT [[116, 105, 109, 101, 111, 117, 116], labelT o.onT] else [] := by
   split
   ·rw [encL_one]; rfl
   ·rfl
  have e2 : encL (if 0 ≤ o.onE then [wordsT [kEof, labelT o.onE]] else []) = if 0 ≤ o.onE then lineT [[101, 111, 102], labelT o.onE] else [] := by
   split
   ·rw [encL_one]; rfl
   ·rfl
  rw [e1, e2]
  rfl
 rw [if_neg h2, if_neg h2]
 by_cases h3 : o.kind = 3
 ·rw [if_pos h3, if_pos h3, encL_one, h3]; rfl
 rw [if_neg h3, if_neg h3]
 by_cases h4 : o.kind = 4
 ·rw [if_pos h4, if_pos h4, encL_one, h4]; rfl
 ·rw [if_neg h4, if_neg h4, encL_one]; rfl
section
variable {p : ProgM} {T : List Int}
theorem fed_arms {A : List OpM} {k : Nat} {tm ef : Bool} : ∀ (l : List ArmM) (o1 : OpM) (us : List Key), (∀ a ∈ l, 0 ≤ a.to ∧ a.to ≤ 1000 ∧ a.pat.size ≤ 64 ∧ (checkS a.pat.data.toList).2 = 0) → o1.arms.length + l.length ≤ 8 →
 Fed (l.map armLine) (fun d => Sy p T (A ++ [o1]) us k d ∧ OpnD tm ef d) (fun d => Sy p T (A ++ [{ o1 with arms := o1.arms ++ l.map blankA }]) (us ++ armU A.length o1.arms.length l) k d ∧ OpnD tm ef d)
 | [], o1, us, _, _ => by
  have e : ({ o1 with arms := o1.arms ++ [].map blankA } : OpM) = o1 := by simp
  show Fed [] _ (fun d => Sy p T (A ++ [{ o1 with arms := o1.arms ++ [].map blankA }]) (us ++ []) k d ∧ _)
  rw [e, List.append_nil]
  exact Fed.nil _
 | a :: l, o1, us, h, h8 => by
  obtain ⟨a1, a2, a3, a4⟩ := h a (List.mem_cons_self ..)
  rw [List.length_cons] at h8
  have f1 := fed_arm (p := p) (T := T) (A := A) (o1 := o1) (us := us) (k := k) (tm := tm) (ef := ef) a a1 a2 a3 a4 (by omega)
  have f2 := fed_arms (A := A) (k := k) (tm := tm) (ef := ef) l { o1 with arms := o1.arms ++ [blankA a] } (us ++ [(labelT a.to, (A.length : Int), (o1.arms.length : Int))]) (fun x hx => h x (List.mem_cons_of_mem _ hx)) (by simp; omega)
  have f := f1.app f2
  simp only [List.append_assoc, List.length_append, List.length_cons, List.length_nil, Nat.zero_add] at f
  exact f
theorem sy_weak {ops : List OpM} {us : List Key} {k : Nat} {R : DM → Prop} {ls : List (List UInt8)} {P : DM → Prop} (h : Fed ls P (fun d => Sy p T ops us k d ∧ R d)) : Fed ls P (Sy p T ops us k) := by
 intro i d hd
 obtain ⟨d', e, q⟩ := h i d hd
 exact ⟨d', e, q.1⟩
theorem armE_facts {n : Nat} {a : ArmM} (h : armE n a = 0) (hn : n ≤ 200) : 0 ≤ a.to ∧ a.to ≤ 1000 ∧ a.pat.size ≤ 64 ∧ (checkS a.pat.data.toList).2 = 0 := by
 unfold armE at h
 split at h
 ·cases h
 split at h
 ·rename_i h1; exact absurd h h1
 split at h
 ·rename_i h1 h2 h3
  unfold comesB at h3
  simp at h3
  unfold patE at h2
  exact ⟨h3.1, by omega, by omega, by omega⟩
 ·cases h
theorem bs_nil {b : ByteArray} (h : b.size = 0) : b = ⟨#[]⟩ := by
 obtain ⟨d⟩ := b
 exact congrArg ByteArray.mk (Array.eq_empty_of_size_eq_zero h)
theorem bs_back (b : ByteArray) : bs b.data.toList = b := by simp [bs]
theorem fed_ops {n : Nat} {ops : List OpM} {us : List Key} {k : Nat} {o : OpM} (h : opE n o = 0) (hn : n ≤ 200) (h200 : ops.length < 200) : Fed (opLs o) (Sy p T ops us k) (Sy p T (ops ++ [blank o]) (us ++ useOf ops.length o) k) := by
 unfold opE at h
 split at h
 ·cases h
 rename_i hr
 split at h
 ·cases h
 rename_i hb
 have hb' : bareB o = true := by simpa using hb
 unfold bareB at hb'
 simp only [Bool.and_eq_true, Bool.or_eq_true, decide_eq_true_eq] at hb'
 obtain ⟨⟨⟨b1, b2⟩, b3⟩, b4⟩ := hb'
 obtain ⟨kind, text, nn, tt, arms, oT, oE⟩ := o
 simp only at h hr b1 b2 b3 b4
 have hbare : kind ≠ 2 → arms = [] ∧ oT = 0 ∧ oE = 0 := by
  intro h2
  rcases b4 with b4 | ⟨⟨b4, b5⟩, b6⟩
  ·exact absurd b4 h2
  ·exact ⟨List.eq_nil_of_length_eq_zero b4, b5, b6⟩
 have htext : kind ≠ 1 → text = ⟨#[]⟩ := by
  intro h1
  rcases b1 with b1 | b1
  ·exact absurd b1 h1
  ·exact bs_nil b1
 by_cases h1 : kind = 1
 ·subst h1
  obtain ⟨rfl, rfl, rfl⟩ := hbare (by decide)
  obtain rfl : nn = 0 := by simpa using b2
  obtain rfl : tt = 0 := by simpa using b3
  rw [if_pos rfl] at h
  split at h
  ·cases h
  split at h
  ·cases h
  rename_i c1 c2
  have hq := quote_len text.data.toList
  have hpl : text.data.toList.length = text.size := by rw [Array.length_toList]; rfl
  refine sy_weak (fed_op (kw := kSend) (ts := [.quo text.data.toList]) (ul := []) rfl ?_ ?_ (by decide) h200 (fun d w => ?_) (fun d line => ⟨[], ?_, fun _ => rfl⟩))
  ·intro x hx
   simp only [List.mem_cons, List.not_mem_nil, or_false] at hx
   rcases hx with rfl | rfl
   ·exact ⟨by decide, by decide⟩
   ·exact trivial
  ·show (kSend ++ (32 :: quoteT text.data.toList ++ [])).length ≤ 1200
   simp [kSend]
   omega
  ·exact fmOk (by simp [toksAt]) (wrong_t (by omega) (by omega)) (notLab (by decide)) (fmNil (by simp [toksAt]))
  ·rw [List.append_nil]
   have e : blank ⟨1, text, 0, 0, [], 0, 0⟩ = ⟨1, bs text.data.toList, 0, 0, [], 0, 0⟩ := by rw [bs_back]; rfl
   rw [e]
   rfl
 by_cases h2 : kind = 2
 ·subst h2
  obtain rfl := htext (by decide)
  obtain rfl : tt = 0 := by simpa using b3
  rw [if_neg (by decide), if_pos rfl] at h
  obtain ⟨ht, he⟩ := expectE_to h
  unfold expectE at h
  split at h
  ·cases h
  rename_i hnv
  split at h
  ·cases h
  rename_i ha
  split at h
  ·rename_i h3; exact absurd h h3
  rename_i hfst
  simp only at hnv ha hfst ht he
  have hfst' : firstE (arms.map (armE n)) = 0 := by omega
  have harm : ∀ a ∈ arms, 0 ≤ a.to ∧ a.to ≤ 1000 ∧ a.pat.size ≤ 64 ∧ (checkS a.pat.data.toList).2 = 0 := fun a hm => armE_facts (firstE_a _ hfst' _ (List.mem_map.2 ⟨a, hm, rfl⟩)) hn
  have hnv' : (nevB nn || tickB 0 nn) = true := eq_true_of_ne_false hnv
  have hnum : numberD 101 (tkT nn) = (nn, 0) := numD_tk (Or.inr rfl) hnv'
  have hin : InI nn := by
   unfold nevB tickB at hnv'
   simp at hnv'
   exact ⟨by omega, by omega⟩
  have hts := tk_short hin
  have hto : ∀ t : Int, toB n t = true → t ≤ 1000 ∧ (¬ 0 ≤ t → t = -1) := by
   intro t h
   unfold toB comesB at h
   simp at h
   omega
  have f1 := fed_op (p := p) (T := T) (ops := ops) (us := us) (k := k) (kw := kExpect) (ts := [.bare (tkT nn)]) (o := ⟨2, ⟨#[]⟩, nn, 0, [], -1, -1⟩) (ul := []) rfl (by
   intro x hx
   simp only [List.mem_cons, List.not_mem_nil, or_false] at hx
   rcases hx with rfl | rfl
   ·exact ⟨by decide, by decide⟩
   ·exact tk_ok nn) (by
   show (kExpect ++ (32 :: tkT nn ++ [])).length ≤ 1200
   simp [kExpect]
   omega) (by decide) h200 (fun d w => fmOk (by simp [toksAt]) (wrong_n (Or.inr (Or.inl rfl)) hnum) (notLab (by decide)) (fmNil (by simp [toksAt]))) (fun d line => ⟨[], by
   rw [List.append_nil]
   have e : takeD d (toksAt 0 [Tok.bare kExpect, Tok.bare (tkT nn)]) line = { d with ops := d.ops ++ [⟨2, ⟨#[]⟩, (numberD 101 (tkT nn)).1, 0, [], -1, -1⟩], opn := decide (kindD kExpect = 2), tm := false, ef := false } := rfl
   rw [e, hnum], fun _ => rfl⟩)
  have f1' : Fed [wordsT [kExpect, tkT nn]] (Sy p T ops us k) (fun d => Sy p T (ops ++ [⟨2, ⟨#[]⟩, nn, 0, [], -1, -1⟩]) (us ++ []) k d ∧ OpnD false false d) := by
   intro i d hd
   obtain ⟨d', e, q1, q2⟩ := f1 i d hd
   exact ⟨d', e, q1, q2 rfl⟩
  rw [List.append_nil] at f1'
  have f2 := fed_arms (p := p) (T := T) (A := ops) (k := k) (tm := false) (ef := false) arms ⟨2, ⟨#[]⟩, nn, 0, [], -1, -1⟩ us harm (by simp; omega)
  simp only [List.nil_append, List.length_nil] at f2
  have f12 := f1'.app f2
  obtain ⟨t1, t2⟩ := hto oT ht
  obtain ⟨e1, e2⟩ := hto oE he
  have f3 : ∀ us', Fed (toutLs ⟨2, ⟨#[]⟩, nn, 0, arms, oT, oE⟩) (fun d => Sy p T (ops ++ [⟨2, ⟨#[]⟩, nn, 0, arms.map blankA, -1, -1⟩]) us' k d ∧ OpnD false false d)
   (fun d => Sy p T (ops ++ [⟨2, ⟨#[]⟩, nn, 0, arms.map blankA, -1, -1⟩]) (us' ++ toutU ops.length ⟨2, ⟨#[]⟩, nn, 0, arms, oT, oE⟩) k d ∧ ∃ x, OpnD x false d) := by
   intro us'
   unfold toutLs toutU
   simp only
   by_cases h0 : 0 ≤ oT
   ·rw [if_pos h0, if_pos h0]
    intro i d hd
    obtain ⟨d', e, q1, q2⟩ := fed_way (p := p) (T := T) (A := ops) (o1 := ⟨2, ⟨#[]⟩, nn, 0, arms.map blankA, -1, -1⟩) (us := us') (k := k) (tm := false) (ef := false) oT h0 t1 false rfl i d hd
    exact ⟨d', e, q1, _, q2⟩
   ·rw [if_neg h0, if_neg h0, List.append_nil]
    intro i d hd
    exact ⟨d, fun _ => rfl, hd.1, _, hd.2⟩
  have f4 : ∀ us', Fed (eofLs ⟨2, ⟨#[]⟩, nn, 0, arms, oT, oE⟩) (fun d => Sy p T (ops ++ [⟨2, ⟨#[]⟩, nn, 0, arms.map blankA, -1, -1⟩]) us' k d ∧ ∃ x, OpnD x false d)
   (Sy p T (ops ++ [⟨2, ⟨#[]⟩, nn, 0, arms.map blankA, -1, -1⟩]) (us' ++ eofU ops.length ⟨2, ⟨#[]⟩, nn, 0, arms, oT, oE⟩) k) := by
   intro us'
   unfold eofLs eofU
   simp only
   by_cases h0 : 0 ≤ oE
   ·rw [if_pos h0, if_pos h0]
    intro i d hd
    obtain ⟨hd1, x, hd2⟩ := hd
    obtain ⟨d', e, q1, q2⟩ := fed_way (p := p) (T := T) (A := ops) (o1 := ⟨2, ⟨#[]⟩, nn, 0, arms.map blankA, -1, -1⟩) (us := us') (k := k) (tm := x) (ef := false) oE h0 e1 true rfl i d ⟨hd1, hd2⟩
    exact ⟨d', e, q1⟩
   ·rw [if_neg h0, if_neg h0, List.append_nil]
    intro i d hd
    exact ⟨d, fun _ => rfl, hd.1⟩
  have f := (f12.app (f3 _)).app (f4 _)
  have e : blank ⟨2, ⟨#[]⟩, nn, 0, arms, oT, oE⟩ = ⟨2, ⟨#[]⟩, nn, 0, arms.map blankA, -1, -1⟩ := rfl
  have e3 : useOf ops.length ⟨2, ⟨#[]⟩, nn, 0, arms, oT, oE⟩ = armU ops.length 0 arms ++ toutU ops.length ⟨2, ⟨#[]⟩, nn, 0, arms, oT, oE⟩ ++ eofU ops.length ⟨2, ⟨#[]⟩, nn, 0, arms, oT, oE⟩ := rfl
  rw [e, e3]
  have e4 : opLs ⟨2, ⟨#[]⟩, nn, 0, arms, oT, oE⟩ = [wordsT [kExpect, tkT nn]] ++ arms.map armLine ++ toutLs ⟨2, ⟨#[]⟩, nn, 0, arms, oT, oE⟩ ++ eofLs ⟨2, ⟨#[]⟩, nn, 0, arms, oT, oE⟩ := rfl
  rw [e4]
  simp only [List.append_assoc] at f ⊢
  exact f
 obtain ⟨rfl, rfl, rfl⟩ := hbare h2
 obtain rfl := htext h1
 by_cases h3 : kind = 3
 ·subst h3
  obtain rfl : nn = 0 := by simpa using b2
  rw [if_neg (by decide), if_neg (by decide), if_pos rfl] at h
  split at h
  ·rename_i hc
   unfold comesB at hc
   simp at hc
   have hnm := label_name (n := tt) hc.1 (by omega)
   have hs := label_short (n := tt) hc.1 (by omega)
   refine sy_weak (fed_op (kw := kGoto) (ts := [.bare (labelT tt)]) rfl ?_ ?_ (by decide) h200 (fun d w => ?_) (fun d line => ⟨[⟨labelT tt, line, _, ((d.ops ++ [oKind 3]).length : Nat) - 1, -1⟩], rfl, fun e => ?_⟩))
   ·intro x hx
    simp only [List.mem_cons, List.not_mem_nil, or_false] at hx
    rcases hx with rfl | rfl
    ·exact ⟨by decide, by decide⟩
    ·exact name_ok hnm
   ·show (kGoto ++ (32 :: labelT tt ++ [])).length ≤ 1200
    simp [kGoto]
    omega
   ·exact fmOk (by simp [toksAt]) (wrong_b (Or.inr rfl) hnm) (notLab (by decide)) (fmNil (by simp [toksAt]))
   ·simp [keyU, useOf, e]
  ·cases h
 obtain rfl : tt = 0 := by simpa [h3] using b3
 by_cases h4 : kind = 4
 ·subst h4
  rw [if_neg (by decide), if_neg (by decide), if_neg (by decide), if_pos rfl] at h
  split at h
  ·rename_i hc
   have hc' := hc
   unfold tickB at hc'
   simp at hc'
   have hnum : numberD 116 (tkT nn) = (nn, 0) := by
    rw [tk_num hc'.1 hc'.2]
    exact numD_dec (most := 1000000000000) hc'.1 hc'.2 rfl (fun h => absurd h (by decide))
   have hts := tk_short (n := nn) ⟨by omega, by omega⟩
   refine sy_weak (fed_op (kw := kPause) (ts := [.bare (tkT nn)]) (ul := []) rfl ?_ ?_ (by decide) h200 (fun d w => ?_) (fun d line => ⟨[], ?_, fun _ => rfl⟩))
   ·intro x hx
    simp only [List.mem_cons, List.not_mem_nil, or_false] at hx
    rcases hx with rfl | rfl
    ·exact ⟨by decide, by decide⟩
    ·exact tk_ok nn
   ·show (kPause ++ (32 :: tkT nn ++ [])).length ≤ 1200
    simp [kPause]
    omega
   ·exact fmOk (by simp [toksAt]) (wrong_n (Or.inr (Or.inr (Or.inl rfl))) hnum) (notLab (by decide)) (fmNil (by simp [toksAt]))
   ·rw [List.append_nil]
    have e : takeD d (toksAt 0 [Tok.bare kPause, Tok.bare (tkT nn)]) line = { d with ops := d.ops ++ [⟨4, ⟨#[]⟩, (numberD 116 (tkT nn)).1, 0, [], 0, 0⟩], opn := decide (kindD kPause = 2), tm := false, ef := false } := rfl
    rw [e, hnum]
    rfl
  ·cases h
 obtain rfl : nn = 0 := by simpa [h2, h4] using b2
 obtain rfl | rfl : kind = 5 ∨ kind = 6 := by omega
 ·refine sy_weak (fed_op (kw := kDone) (ts := []) (ul := []) rfl ?_ (by decide) (by decide) h200 (fun d w => fmNil (by simp [toksAt])) (fun d line => ⟨[], by rw [List.append_nil]; rfl, fun _ => rfl⟩))
  intro x hx
  rw [List.mem_singleton] at hx
  subst hx
  exact ⟨by decide, by decide⟩
 ·refine sy_weak (fed_op (kw := kFail) (ts := []) (ul := []) rfl ?_ (by decide) (by decide) h200 (fun d w => fmNil (by simp [toksAt])) (fun d line => ⟨[], by rw [List.append_nil]; rfl, fun _ => rfl⟩))
  intro x hx
  rw [List.mem_singleton] at hx
  subst hx
  exact ⟨by decide, by decide⟩
end
/-- the uses with their labels' ops put in -/
def resK (ls : List (List UInt8 × Int)) : List Key → List OpM → Option (List OpM)
 | [], ops => some ops
 | x :: r, ops => if findD x.1 ls < 0 then none else resK ls r (setUse ops ⟨x.1, 0, 0, x.2.1, x.2.2⟩ (findD x.1 ls))
theorem dRes_key (ls : List (List UInt8 × Int)) : ∀ (us : List UseM) (ops x : List OpM), resK ls (us.map keyU) ops = some x → dRes ls us ops = (x, none)
 | [], ops, x, h => by injection h with h; subst h; rfl
 | u :: r, ops, x, h => by
  have h' : (if findD u.name ls < 0 then none else resK ls (r.map keyU) (setUse ops u (findD u.name ls))) = some x := h
  unfold dRes
  split at h'
  ·cases h'
  ·rename_i h1
   rw [if_neg h1]
   exact dRes_key ls r _ x h'
theorem resK_app (ls : List (List UInt8 × Int)) : ∀ (a b : List Key) (ops : List OpM), resK ls (a ++ b) ops = (resK ls a ops).bind (resK ls b)
 | [], b, ops => rfl
 | x :: a, b, ops => by
  show (if findD x.1 ls < 0 then none else resK ls (a ++ b) _) = _
  conv => rhs; unfold resK
  split
  ·rfl
  ·exact resK_app ls a b _
theorem resK_one {ls : List (List UInt8 × Int)} {n : List UInt8} {q h t : Int} (ops : List OpM) (hf : findD n ls = t) (ht : 0 ≤ t) : resK ls [(n, q, h)] ops = some (setUse ops ⟨n, 0, 0, q, h⟩ t) := by
 unfold resK
 simp only [hf]
 rw [if_neg (by omega)]
 rfl
theorem set_mid (A B : List OpM) (x y : OpM) : (A ++ x :: B).set A.length y = A ++ y :: B := by
 rw [List.set_append_right _ _ (by omega)]
 simp
theorem get_mid (A B : List OpM) (x : OpM) : (A ++ x :: B).getD A.length op0 = x := by rw [List.getD_eq_getElem?_getD]; simp
section
variable {ls : List (List UInt8 × Int)}
/-- a label's op is found -/
def Ft (ls : List (List UInt8 × Int)) (t : Int) : Prop := 0 ≤ t ∧ findD (labelT t) ls = t
theorem res_arms (A B : List OpM) : ∀ (r : List ArmM) (o : OpM) (done : List ArmM), (∀ a ∈ r, Ft ls a.to) → o.arms = done ++ r.map blankA → resK ls (armU A.length done.length r) (A ++ o :: B) = some (A ++ { o with arms := done ++ r } :: B)
 | [], o, done, _, e => by
  have : ({ o with arms := done ++ [] } : OpM) = o := by rw [List.append_nil]; rw [List.map_nil, List.append_nil] at e; rw [← e]
  show some _ = some _
  rw [this]
 | a :: r, o, done, h, e => by
  obtain ⟨h1, h2⟩ := h a (List.mem_cons_self ..)
  have ih := res_arms A B r { o with arms := done ++ [a] ++ r.map blankA } (done ++ [a]) (fun x hx => h x (List.mem_cons_of_mem _ hx)) rfl
  rw [List.length_append] at ih
  show resK ls ([(labelT a.to, (A.length : Int), (done.length : Int))] ++ armU A.length (done.length + 1) r) _ = _
  rw [resK_app, resK_one _ h2 h1]
  show resK ls (armU A.length (done.length + 1) r) (setUse (A ++ o :: B) ⟨labelT a.to, 0, 0, (A.length : Int), (done.length : Int)⟩ a.to) = _
  have hs : setUse (A ++ o :: B) ⟨labelT a.to, 0, 0, (A.length : Int), (done.length : Int)⟩ a.to = A ++ { o with arms := done ++ [a] ++ r.map blankA } :: B := by
   unfold setUse
   simp only [Int.toNat_natCast]
   rw [get_mid, set_mid, if_neg (by omega), if_neg (by omega), if_neg (by omega), e]
   congr 2
   simp [blankA]
  rw [hs]
  simp only [List.append_assoc, List.cons_append, List.nil_append] at ih ⊢
  exact ih
theorem res_op {n : Nat} (A B : List OpM) (o : OpM) (h : opE n o = 0) (hf : ∀ t ∈ jumpsL o, 0 ≤ t → Ft ls t) : resK ls (useOf A.length o) (A ++ blank o :: B) = some (A ++ o :: B) := by
 unfold opE at h
 split at h
 ·cases h
 split at h
 ·cases h
 rename_i hr hb
 obtain ⟨kind, text, nn, tt, arms, oT, oE⟩ := o
 simp only at h hr
 by_cases h2 : kind = 2
 ·subst h2
  rw [if_neg (by decide), if_pos rfl] at h
  obtain ⟨ht, he⟩ := expectE_to h
  unfold expectE at h
  split at h
  ·cases h
  split at h
  ·cases h
  split at h
  ·rename_i h3; exact absurd h h3
  rename_i hfst
  simp only at hfst ht he
  have hfst' : firstE (arms.map (armE n)) = 0 := by omega
  have hj : jumpsL ⟨2, text, nn, tt, arms, oT, oE⟩ = arms.map (fun a => a.to) ++ [oT, oE] := rfl
  rw [hj] at hf
  have harm : ∀ a ∈ arms, Ft ls a.to := by
   intro a hm
   refine hf _ (List.mem_append_left _ (List.mem_map.2 ⟨a, hm, rfl⟩)) ?_
   have e := firstE_a _ hfst' _ (List.mem_map.2 ⟨a, hm, rfl⟩)
   unfold armE at e
   split at e
   ·cases e
   split at e
   ·rename_i e2; exact absurd e e2
   split at e
   ·rename_i e3
    unfold comesB at e3
    simp at e3
    exact e3.1
   ·cases e
  have hneg : ∀ t : Int, toB n t = true → ¬ 0 ≤ t → t = -1 := by
   intro t h
   unfold toB comesB at h
   simp at h
   omega
  show resK ls (armU A.length ([] : List ArmM).length arms ++ toutU A.length ⟨2, text, nn, tt, arms, oT, oE⟩ ++ eofU A.length ⟨2, text, nn, tt, arms, oT, oE⟩) (A ++ ⟨2, text, nn, tt, arms.map blankA, -1, -1⟩ :: B) = _
  rw [resK_app, resK_app, res_arms A B arms ⟨2, text, nn, tt, arms.map blankA, -1, -1⟩ [] harm rfl]
  show ((resK ls (toutU A.length ⟨2, text, nn, tt, arms, oT, oE⟩) (A ++ ⟨2, text, nn, tt, [] ++ arms, -1, -1⟩ :: B)).bind (resK ls (eofU A.length ⟨2, text, nn, tt, arms, oT, oE⟩))) = _
  rw [List.nil_append]
  have e1 : resK ls (toutU A.length ⟨2, text, nn, tt, arms, oT, oE⟩) (A ++ ⟨2, text, nn, tt, arms, -1, -1⟩ :: B) = some (A ++ ⟨2, text, nn, tt, arms, oT, -1⟩ :: B) := by
   unfold toutU
   simp only
   by_cases h0 : 0 ≤ oT
   ·rw [if_pos h0, resK_one _ (hf oT (by simp) h0).2 h0]
    unfold setUse
    simp only [Int.toNat_natCast]
    rw [get_mid, set_mid]
    rfl
   ·rw [if_neg h0, hneg oT ht h0]
    rfl
  rw [e1]
  show resK ls (eofU A.length ⟨2, text, nn, tt, arms, oT, oE⟩) (A ++ ⟨2, text, nn, tt, arms, oT, -1⟩ :: B) = _
  unfold eofU
  simp only
  by_cases h0 : 0 ≤ oE
  ·rw [if_pos h0, resK_one _ (hf oE (by simp) h0).2 h0]
   unfold setUse
   simp only [Int.toNat_natCast]
   rw [get_mid, set_mid]
   rfl
  ·rw [if_neg h0, hneg oE he h0]
   rfl
 ·by_cases h3 : kind = 3
  ·subst h3
   rw [if_neg (by decide), if_neg (by decide), if_pos rfl] at h
   split at h
   ·rename_i hc
    unfold comesB at hc
    simp at hc
    have hj : jumpsL ⟨3, text, nn, tt, arms, oT, oE⟩ = [tt] := rfl
    rw [hj] at hf
    show resK ls [(labelT tt, (A.length : Int), -1)] (A ++ ⟨3, text, nn, 0, arms, oT, oE⟩ :: B) = _
    rw [resK_one _ (hf tt (by simp) hc.1).2 hc.1]
    unfold setUse
    simp only [Int.toNat_natCast]
    rw [get_mid, set_mid]
    rfl
   ·cases h
  ·have e1 : useOf A.length ⟨kind, text, nn, tt, arms, oT, oE⟩ = [] := by unfold useOf; simp [h2, h3]
   have e2 : blank ⟨kind, text, nn, tt, arms, oT, oE⟩ = ⟨kind, text, nn, tt, arms, oT, oE⟩ := by unfold blank; simp [h2, h3]
   rw [e1, e2]
   rfl
theorem res_all {n : Nat} : ∀ (r A : List OpM), (∀ o ∈ r, opE n o = 0) → (∀ o ∈ r, ∀ t ∈ jumpsL o, 0 ≤ t → Ft ls t) → resK ls (usesFrom A.length r) (A ++ r.map blank) = some (A ++ r)
 | [], A, _, _ => rfl
 | o :: r, A, h, hf => by
  have ih := res_all r (A ++ [o]) (fun x hx => h x (List.mem_cons_of_mem _ hx)) (fun x hx => hf x (List.mem_cons_of_mem _ hx))
  rw [List.length_append] at ih
  show resK ls (useOf A.length o ++ usesFrom (A.length + 1) r) (A ++ blank o :: r.map blank) = _
  rw [resK_app, res_op A _ o (h o (List.mem_cons_self ..)) (hf o (List.mem_cons_self ..))]
  show resK ls (usesFrom (A.length + 1) r) (A ++ o :: r.map blank) = _
  simp only [List.append_assoc, List.cons_append, List.nil_append] at ih
  exact ih
end
def labLs (T : List Int) (i : Nat) : List (List UInt8) := if (i : Int) ∈ T then [wordsT [kLabel, labelT i]] else []
def atLs (ops : List OpM) (i : Nat) : List (List UInt8) := match ops[i]? with
 | some o => opLs o
 | none => []
def bodyLs (T : List Int) (ops : List OpM) : Nat → List (List UInt8)
 | 0 => []
 | k + 1 => bodyLs T ops k ++ (labLs T k ++ atLs ops k)
theorem body_text (T : List Int) (ops : List OpM) : ∀ k, encL (bodyLs T ops k) = bodyT opT T ops k
 | 0 => rfl
 | k + 1 => by
  unfold bodyLs bodyT stepT
  rw [encL_app, encL_app, body_text T ops k]
  congr 2
  ·unfold labLs
   split
   ·rw [encL_one]; rfl
   ·rfl
  ·unfold atLs atT
   cases ops[k]? with
   | none => rfl
   | some o => exact opLs_text o
def headLn (p : ProgM) : List UInt8 := wordsT [kScript, p.name.data.toList, tkT p.deadline, Lib.itoa p.jumps]
theorem prog_text (p : ProgM) : encL (headLn p :: bodyLs (tgts p.ops) p.ops (p.ops.length + 1)) = progT p := by
 show encL ([headLn p] ++ bodyLs (tgts p.ops) p.ops (p.ops.length + 1)) = _
 generalize hk : p.ops.length + 1 = k
 rw [encL_app, body_text, encL_one]
 unfold progT
 rw [hk]
 rfl
theorem good_ops {p : ProgM} (h : goodM p = true) : ∀ o ∈ p.ops, opE p.ops.length o = 0 := good_op h
theorem fed_body {p : ProgM} (h : goodM p = true) : ∀ k, k ≤ p.ops.length + 1 → Fed (bodyLs (tgts p.ops) p.ops k) (Sy p (tgts p.ops) [] [] 0) (Sy p (tgts p.ops) ((p.ops.take k).map blank) (usesFrom 0 (p.ops.take k)) k)
 | 0, _ => Fed.nil _
 | k + 1, hk => by
  have h200 := (head_facts h).2.2.2.1
  have hlen : ((p.ops.take k).map blank).length = k := by rw [List.length_map, List.length_take]; omega
  have f1 := fed_body h k (by omega)
  have f2 : Fed (labLs (tgts p.ops) k) (Sy p (tgts p.ops) ((p.ops.take k).map blank) (usesFrom 0 (p.ops.take k)) k) (Sy p (tgts p.ops) ((p.ops.take k).map blank) (usesFrom 0 (p.ops.take k)) (k + 1)) := by
   unfold labLs
   by_cases hT : (k : Int) ∈ tgts p.ops
   ·rw [if_pos hT]
    exact fed_label (by omega) hT hlen.symm
   ·rw [if_neg hT]
    intro i d hd
    obtain ⟨⟨h1, h2, h3, h4, h5, h6, h7⟩, h8⟩ := hd
    exact ⟨d, fun _ => rfl, ⟨h1, h2, h3, h4, h5, h6, lb_skip h7 hT⟩, h8⟩
  have f3 : Fed (atLs p.ops k) (Sy p (tgts p.ops) ((p.ops.take k).map blank) (usesFrom 0 (p.ops.take k)) (k + 1)) (Sy p (tgts p.ops) ((p.ops.take (k + 1)).map blank) (usesFrom 0 (p.ops.take (k + 1))) (k + 1)) := by
   unfold atLs
   by_cases hk2 : k < p.ops.length
   ·rw [List.getElem?_eq_getElem hk2, List.take_succ_eq_append_getElem hk2, List.map_append, usesFrom_app]
    have f := fed_ops (p := p) (T := tgts p.ops) (us := usesFrom 0 (p.ops.take k)) (k := k + 1) (ops := (p.ops.take k).map blank) (good_ops h p.ops[k] (List.getElem_mem hk2)) h200 (by omega)
    rw [hlen] at f
    have hl2 : (p.ops.take k).length = k := by rw [List.length_take]; omega
    rw [hl2, Nat.zero_add]
    show Fed (opLs p.ops[k]) _ (Sy p (tgts p.ops) _ (_ ++ (useOf k p.ops[k] ++ [])) (k + 1))
    rw [List.append_nil]
    exact f
   ·rw [List.getElem?_eq_none (by omega), List.take_of_length_le (by omega), List.take_of_length_le (by omega)]
    exact Fed.nil _
  exact f1.app (f2.app f3)
theorem fed_head {p : ProgM} (h : goodM p = true) : Fed [headLn p] (fun d => d = d0) (Sy p (tgts p.ops) [] [] 0) := by
 have hh : headE p = 0 := by
  unfold goodM at h
  rw [decide_eq_true_eq] at h
  unfold wrongM at h
  by_cases hh : headE p = 0
  ·exact hh
  ·rw [if_pos hh] at h; exact h
 have hf := head_facts h
 unfold headE at hh
 split at hh
 ·cases hh
 rename_i h1
 split at hh
 ·cases hh
 rename_i h2
 have h1' : nameL p.name.data.toList = true := by simpa [nameB] using h1
 have h2' : ((nevB p.deadline || tickB 1 p.deadline) && decide (0 ≤ p.jumps) && decide (p.jumps ≤ 1000)) = true := eq_true_of_ne_false h2
 simp only [Bool.and_eq_true, decide_eq_true_eq] at h2'
 have hd : numberD 100 (tkT p.deadline) = (p.deadline, 0) := numD_tk (Or.inl rfl) (by simpa using h2'.1.1)
 have hj : numberD 106 (Lib.itoa p.jumps) = (p.jumps, 0) := by
  rw [itoa_nat h2'.1.2]
  exact numD_dec (most := 1000) h2'.1.2 h2'.2 rfl (fun h => absurd h (by decide))
 have hl1 := tk_short hf.1
 have hl2 := itoa_len (n := p.jumps) (by omega) (by omega)
 have hl3 : p.name.data.size = p.name.size := rfl
 refine Fed.line (kw := kScript) (ts := [.bare p.name.data.toList, .bare (tkT p.deadline), .bare (Lib.itoa p.jumps)]) ?_ ?_ (by decide) (fun d e => ?_)
 ·intro x hx
  simp only [List.mem_cons, List.not_mem_nil, or_false] at hx
  rcases hx with rfl | rfl | rfl | rfl
  ·exact ⟨by decide, by decide⟩
  ·exact name_ok h1'
  ·exact tk_ok _
  ·exact itoa_ok h2'.1.2
 ·show (kScript ++ (32 :: p.name.data.toList ++ (32 :: tkT p.deadline ++ (32 :: Lib.itoa p.jumps ++ [])))).length ≤ 1200
  simp [kScript]
  omega
 ·subst e
  refine ⟨by decide, ?_, fun line => ?_⟩
  ·refine fmOk (by simp [toksAt]) (wrong_b (Or.inl rfl) h1') (notLab (by decide)) ?_
   refine fmOk (by simp [toksAt]) (wrong_n (Or.inl rfl) hd) (notLab (by decide)) ?_
   exact fmOk (by simp [toksAt]) (wrong_n (Or.inr (Or.inr (Or.inr rfl))) hj) (notLab (by decide)) (fmNil (by simp [toksAt]))
  ·have e : takeD d0 (toksAt 0 [Tok.bare kScript, Tok.bare p.name.data.toList, Tok.bare (tkT p.deadline), Tok.bare (Lib.itoa p.jumps)]) line = { d0 with head := true, name := bs p.name.data.toList, dl := (numberD 100 (tkT p.deadline)).1, jm := (numberD 106 (Lib.itoa p.jumps)).1 } := rfl
   rw [e, hd, hj]
   refine ⟨⟨rfl, bs_back _, rfl, rfl, rfl, rfl, fun t => ?_⟩, fun x hx => by cases hx⟩
   rw [if_neg (by omega)]
   rfl
theorem jumps_mem {l : List OpM} {o : OpM} {t : Int} (ho : o ∈ l) (ht : t ∈ jumpsL o) (h0 : 0 ≤ t) : t ∈ tgts l := by
 unfold tgts
 rw [(uniq_spec _).2]
 exact List.mem_filter.2 ⟨List.mem_flatMap.2 ⟨o, ho, ht⟩, by unfold nnB; simp; omega⟩
theorem jumps_le {n : Nat} {o : OpM} (h : opE n o = 0) {t : Int} (ht : t ∈ jumpsL o) : t ≤ n := by
 unfold opE at h
 split at h
 ·cases h
 split at h
 ·cases h
 unfold jumpsL at ht
 split at ht
 ·rename_i h2
  rw [if_neg (by omega), if_pos h2] at h
  obtain ⟨hT, hE⟩ := expectE_to h
  unfold expectE at h
  split at h
  ·cases h
  split at h
  ·cases h
  split at h
  ·rename_i h3; exact absurd h h3
  rename_i hfst
  have hfst' : firstE (o.arms.map (armE n)) = 0 := by omega
  have hto : ∀ t : Int, toB n t = true → t ≤ n := by
   intro t h
   unfold toB comesB at h
   simp at h
   omega
  simp only [List.mem_append, List.mem_map, List.mem_cons, List.not_mem_nil, or_false] at ht
  rcases ht with ⟨a, hm, rfl⟩ | rfl | rfl
  ·have e := firstE_a _ hfst' _ (List.mem_map.2 ⟨a, hm, rfl⟩)
   unfold armE at e
   split at e
   ·cases e
   split at e
   ·rename_i e2; exact absurd e e2
   split at e
   ·rename_i e3
    unfold comesB at e3
    simp at e3
    exact e3.2
   ·cases e
  ·exact hto _ hT
  ·exact hto _ hE
 ·split at ht
  ·rename_i h2 h3
   rw [List.mem_singleton] at ht
   subst ht
   rw [if_neg (by omega), if_neg (by omega), if_pos h3] at h
   split at h
   ·rename_i hc
    unfold comesB at hc
    simp at hc
    exact hc.2
   ·cases h
  ·cases ht
theorem opLs_nl {n : Nat} {o : OpM} (h : opE n o = 0) (hn : n ≤ 200) : ∀ s ∈ opLs o, NoNl s := by
 have hb : ∀ kw : List UInt8, (kw ≠ [] ∧ ∀ b ∈ kw, plainB b = true) → ∀ ts : List Tok, (∀ x ∈ ts, x.ok) → NoNl (wordsT ((Tok.bare kw :: ts).map Tok.out)) := by
  intro kw hk ts hts
  refine words_nl _ _ (fun x hx => ?_)
  rcases List.mem_cons.1 hx with rfl | hx
  ·exact hk
  ·exact hts x hx
 have lab : ∀ t : Int, 0 ≤ t → t ≤ n → Tok.ok (.bare (labelT t)) := fun t h0 h1 => name_ok (label_name h0 (by omega))
 have hj := fun t ht => jumps_le h (t := t) ht
 have one : ∀ t : Tok, t.ok → ∀ x ∈ [t], x.ok := by
  intro t ht x hx
  rw [List.mem_singleton] at hx
  subst hx
  exact ht
 intro s hs
 unfold opLs at hs
 split at hs
 ·rw [List.mem_singleton] at hs
  subst hs
  exact hb kSend ⟨by decide, by decide⟩ [.quo _] (one _ trivial)
 rename_i h1
 split at hs
 ·rename_i h2
  have hJ : jumpsL o = o.arms.map (fun a => a.to) ++ [o.onT, o.onE] := by unfold jumpsL; rw [if_pos h2]
  rw [hJ] at hj
  unfold opE at h
  split at h
  ·cases h
  split at h
  ·cases h
  try rw [if_neg h1, if_pos h2] at h
  unfold expectE at h
  split at h
  ·cases h
  split at h
  ·cases h
  split at h
  ·rename_i h3; exact absurd h h3
  rename_i hfst
  have hfst' : firstE (o.arms.map (armE n)) = 0 := by omega
  simp only [List.mem_append, List.mem_map, List.mem_singleton] at hs
  rcases hs with ((rfl | ⟨a, ha, rfl⟩) | hs) | hs
  ·exact hb kExpect ⟨by decide, by decide⟩ [.bare _] (one _ (tk_ok _))
  ·obtain ⟨a1, a2, a3, a4⟩ := armE_facts (firstE_a _ hfst' _ (List.mem_map.2 ⟨a, ha, rfl⟩)) hn
   refine hb kOn ⟨by decide, by decide⟩ [.quo _, .bare _] (fun x hx => ?_)
   simp only [List.mem_cons, List.not_mem_nil, or_false] at hx
   rcases hx with rfl | rfl
   ·exact trivial
   ·exact lab _ a1 (hj _ (List.mem_append_left _ (List.mem_map.2 ⟨a, ha, rfl⟩)))
  ·unfold toutLs at hs
   split at hs
   ·rename_i h0
    rw [List.mem_singleton] at hs
    subst hs
    exact hb kTimeout ⟨by decide, by decide⟩ [.bare _] (one _ (lab _ h0 (hj _ (by simp))))
   ·cases hs
  ·unfold eofLs at hs
   split at hs
   ·rename_i h0
    rw [List.mem_singleton] at hs
    subst hs
    exact hb kEof ⟨by decide, by decide⟩ [.bare _] (one _ (lab _ h0 (hj _ (by simp))))
   ·cases hs
 split at hs
 ·rename_i h2 h3
  have hJ : jumpsL o = [o.to] := by unfold jumpsL; rw [if_neg h2, if_pos h3]
  rw [hJ] at hj
  rw [List.mem_singleton] at hs
  subst hs
  have h0 : 0 ≤ o.to := by
   unfold opE at h
   split at h
   ·cases h
   split at h
   ·cases h
   try rw [if_neg h1, if_neg h2, if_pos h3] at h
   split at h
   ·rename_i hc
    unfold comesB at hc
    simp at hc
    exact hc.1
   ·cases h
  exact hb kGoto ⟨by decide, by decide⟩ [.bare _] (one _ (lab _ h0 (hj _ (by simp))))
 split at hs
 ·rw [List.mem_singleton] at hs
  subst hs
  exact hb kPause ⟨by decide, by decide⟩ [.bare _] (one _ (tk_ok _))
 ·rw [List.mem_singleton] at hs
  subst hs
  rename_i h2 h3 h4
  have hk : o.kind = 5 ∨ o.kind = 6 := by
   unfold opE at h
   split at h
   ·cases h
   ·rename_i hr; omega
  rcases hk with hk | hk <;> rw [hk]
  ·exact hb kDone ⟨by decide, by decide⟩ [] (fun _ h => by cases h)
  ·exact hb kFail ⟨by decide, by decide⟩ [] (fun _ h => by cases h)
theorem body_nl {p : ProgM} (h : goodM p = true) : ∀ k, k ≤ p.ops.length + 1 → ∀ s ∈ bodyLs (tgts p.ops) p.ops k, NoNl s
 | 0, _, s, hs => by cases hs
 | k + 1, hk, s, hs => by
  have h200 := (head_facts h).2.2.2.1
  unfold bodyLs at hs
  rcases List.mem_append.1 hs with hs | hs
  ·exact body_nl h k (by omega) s hs
  rcases List.mem_append.1 hs with hs | hs
  ·unfold labLs at hs
   split at hs
   ·rw [List.mem_singleton] at hs
    subst hs
    refine words_nl (.bare kLabel) [.bare (labelT k)] (fun x hx => ?_)
    simp only [List.mem_cons, List.not_mem_nil, or_false] at hx
    rcases hx with rfl | rfl
    ·exact ⟨by decide, by decide⟩
    ·exact name_ok (label_name (by omega) (by omega))
   ·cases hs
  ·unfold atLs at hs
   split at hs
   ·rename_i o ho
    exact opLs_nl (good_ops h o (List.mem_of_getElem? ho)) h200 s hs
   ·cases hs
theorem head_nl {p : ProgM} (h : goodM p = true) : NoNl (headLn p) := by
 have hh : headE p = 0 := by
  unfold goodM at h
  rw [decide_eq_true_eq] at h
  unfold wrongM at h
  by_cases hh : headE p = 0
  ·exact hh
  ·rw [if_pos hh] at h; exact h
 have hf := head_facts h
 unfold headE at hh
 split at hh
 ·cases hh
 rename_i h1
 have h1' : nameL p.name.data.toList = true := by simpa [nameB] using h1
 refine words_nl (.bare kScript) [.bare p.name.data.toList, .bare (tkT p.deadline), .bare (Lib.itoa p.jumps)] (fun x hx => ?_)
 simp only [List.mem_cons, List.not_mem_nil, or_false] at hx
 rcases hx with rfl | rfl | rfl | rfl
 ·exact ⟨by decide, by decide⟩
 ·exact name_ok h1'
 ·exact tk_ok _
 ·exact itoa_ok hf.2.1
/-- what is written of a good script is read as it -/
theorem parse_prog {p : ProgM} (h : goodM p = true) : parseM (progT p) = (p, (0, 0), 0) := by
 have hnl : ∀ s ∈ headLn p :: bodyLs (tgts p.ops) p.ops (p.ops.length + 1), NoNl s := by
  intro s hs
  rcases List.mem_cons.1 hs with rfl | hs
  ·exact head_nl h
  ·exact body_nl h _ (Nat.le_refl _) s hs
 obtain ⟨d', e, ⟨h1, h2, h3, h4, h5, h6, h7⟩, h8⟩ := ((fed_head h).app (fed_body h (p.ops.length + 1) (Nat.le_refl _))) 0 d0 rfl
 have hg : dGoL (headLn p :: bodyLs (tgts p.ops) p.ops (p.ops.length + 1)) 0 d0 = (d', none) := by
  have := e []
  rw [List.append_nil] at this
  exact this
 have hp : parseM (progT p) = parseL (headLn p :: bodyLs (tgts p.ops) p.ops (p.ops.length + 1)) := by
  rw [parse_same, ← prog_text]
  unfold parseD
  rw [linesM_end _ hnl]
  show parseL _ = _
  exact parseL_idle _ _ rfl
 rw [hp, parseL_L, hg]
 have htk : p.ops.take (p.ops.length + 1) = p.ops := List.take_of_length_le (by omega)
 rw [htk] at h5 h6
 have hr : dRes d'.labels d'.uses d'.ops = (p.ops, none) := by
  rw [h5]
  refine dRes_key _ _ _ _ ?_
  rw [h6]
  have := res_all (ls := d'.labels) p.ops [] (good_ops h) (fun o ho t ht h0 => ⟨h0, ?_⟩)
  ·exact this
  ·have h9 := h7 t.toNat
   have hle := jumps_le (good_ops h o ho) ht
   rw [show ((t.toNat : Nat) : Int) = t by omega, if_pos ⟨jumps_mem ho ht h0, by omega⟩] at h9
   exact h9
 unfold endD
 simp only [h1, hr]
 rw [h2, h3, h4]
 rfl
end Go.Proofs.YtaioaojfdngfdaaGreatDoor
namespace Go.Proofs.YtaioaojfdngfdaaGreatDoor
open Go.RowKit Go.ChangeShapes
theorem arm_len2 {n : Nat} {a : ArmM} (h : armE n a = 0) (hn : n ≤ 200) : (armT a).length ≤ 300 := by
 obtain ⟨h1, h2, h3, _⟩ := armE_facts h hn
 have hq := quote_len a.pat.data.toList
 have hs := label_short h1 h2
 have hp : a.pat.data.toList.length = a.pat.size := by rw [Array.length_toList]; rfl
 show (([111, 110] ++ (32 :: quoteT a.pat.data.toList ++ (32 :: labelT a.to ++ []))) ++ [10]).length ≤ 300
 simp only [List.length_append, List.length_cons, List.length_nil]
 omega
theorem arms_len2 {n : Nat} (hn : n ≤ 200) : ∀ l : List ArmM, (∀ a ∈ l, armE n a = 0) → (l.flatMap armT).length ≤ 300 * l.length
 | [], _ => by simp
 | a :: l, h => by
  have h1 := arm_len2 (h a (List.mem_cons_self ..)) hn
  have h2 := arms_len2 hn l (fun x hx => h x (List.mem_cons_of_mem _ hx))
  rw [List.flatMap_cons, List.length_append, List.length_cons]
  omega
theorem line2_sz (a b : List UInt8) : (lineT [a, b]).length = a.length + b.length + 2 := by
 show ((a ++ (32 :: b ++ [])) ++ [10]).length = _
 simp
 omega
theorem way_len {t : Int} (k : List UInt8) (h : t ≤ 1000) : (if 0 ≤ t then lineT [k, labelT t] else []).length ≤ k.length + 18 := by
 split
 ·rename_i h0
  have := label_short h0 h
  rw [line2_sz]
  omega
 ·simp
theorem op_len2 {n : Nat} {o : OpM} (h : opE n o = 0) (hn : n ≤ 200) : (opT o).length ≤ 3000 := by
 have hj := fun t ht => jumps_le h (t := t) ht
 have hw := word_len o.kind
 unfold opE at h
 split at h
 ·cases h
 split at h
 ·cases h
 unfold opT
 split
 ·rename_i h1
  rw [if_pos h1] at h
  split at h
  ·cases h
  split at h
  ·cases h
  have hq := quote_len o.text.data.toList
  have hp : o.text.data.toList.length = o.text.size := by rw [Array.length_toList]; rfl
  rw [line2_sz]
  omega
 rename_i h1
 split
 ·rename_i h2
  have hJ : jumpsL o = o.arms.map (fun a => a.to) ++ [o.onT, o.onE] := by unfold jumpsL; rw [if_pos h2]
  rw [hJ] at hj
  have t1 := hj o.onT (by simp)
  have t2 := hj o.onE (by simp)
  rw [if_neg h1, if_pos h2] at h
  unfold expectE at h
  split at h
  ·cases h
  rename_i hnv
  split at h
  ·cases h
  split at h
  ·rename_i h3; exact absurd h h3
  rename_i ha hfst
  have hfst' : firstE (o.arms.map (armE n)) = 0 := by omega
  have harm := arms_len2 hn o.arms (fun a hm => firstE_a _ hfst' _ (List.mem_map.2 ⟨a, hm, rfl⟩))
  have hnv' : (nevB o.n || tickB 0 o.n) = true := eq_true_of_ne_false hnv
  have hin : InI o.n := by
   unfold nevB tickB at hnv'
   simp at hnv'
   exact ⟨by omega, by omega⟩
  have hts := tk_short hin
  have w1 := way_len (t := o.onT) [116, 105, 109, 101, 111, 117, 116] (by omega)
  have w2 := way_len (t := o.onE) [101, 111, 102] (by omega)
  unfold expectT
  rw [List.length_append, List.length_append, List.length_append, line2_sz]
  simp only [List.length_cons, List.length_nil] at w1 w2
  omega
 rename_i h2
 split
 ·rename_i h3
  rw [if_neg h1, if_neg h2, if_pos h3] at h
  split at h
  ·rename_i hc
   unfold comesB at hc
   simp at hc
   have := label_short hc.1 (by omega)
   rw [line2_sz]
   omega
  ·cases h
 rename_i h3
 split
 ·rename_i h4
  rw [if_neg h1, if_neg h2, if_neg h3, if_pos h4] at h
  split at h
  ·rename_i hc
   unfold tickB at hc
   simp at hc
   have := tk_short (n := o.n) ⟨by omega, by omega⟩
   rw [line2_sz]
   omega
  ·cases h
 ·show (wordT o.kind ++ [] ++ [10]).length ≤ 3000
  simp
  omega
theorem body_len2 {n : Nat} (hn : n ≤ 200) {ops : List OpM} (T : List Int) (h : ∀ o ∈ ops, opE n o = 0) : ∀ k, k ≤ 1000 → (bodyT opT T ops k).length ≤ 3040 * k
 | 0, _ => by simp [bodyT]
 | k + 1, hk => by
  have h1 := body_len2 hn T h k (by omega)
  have h2 : (atT opT ops k).length ≤ 3000 := by
   unfold atT
   split
   ·rename_i o ho; exact op_len2 (h o (List.mem_of_getElem? ho)) hn
   ·simp
  have h3 := lb_len k (by omega)
  unfold bodyT stepT
  rw [List.length_append, List.length_append]
  have h4 : (if (k : Int) ∈ T then lbT k else []).length ≤ 40 := by
   split
   ·omega
   ·simp
  omega
theorem prog_len2 {p : ProgM} (h : goodM p = true) : (progT p).length ≤ 700000 := by
 have h1 := head_len h
 have h2 := (head_facts h).2.2.2.1
 have h3 := body_len2 h2 (tgts p.ops) (good_op h) (p.ops.length + 1) (by omega)
 unfold progT
 rw [List.length_append]
 omega
/-- what is written of a good script is parsed as it -/
theorem pprog_c (P : ProgM) (h : goodM P = true) (w : World) (hv : Vars w) : Calls Tryz.prog 13 #[.string ⟨(progT P).toArray⟩] w fun e w' =>
 (∃ oA oc L, e = .returned (.tuple #[.agg #[.string P.name, .int .i64 P.deadline, .int .i64 P.jumps, .slice oA L.length oc], .agg #[.int .i64 0, .int .i64 0], .int .i64 0]) ∧ L.map (·.o) = P.ops ∧ OpsRd w' NoBlk oA L) ∧ Only NoBlk w w' := by
 have hl := prog_len2 h
 have := pparse_c ⟨(progT P).toArray⟩ w (by show (progT P).toArray.size ≤ _; simp; omega) hv.len hv.err hv.lt
 have e : (⟨(progT P).toArray⟩ : ByteArray).data.toList = progT P := rfl
 rw [e, parse_prog h] at this
 exact this.mono fun e w' ⟨⟨oA, oc, L, he, hm, hr⟩, k⟩ => ⟨⟨oA, oc, L, he, hm, ⟨hr.1.mono (fun _ h => h.elim), fun v hv => (hr.2 v hv).mono (fun _ h => h.elim)⟩⟩, k⟩
theorem Tryz.gPow : Tryz.prog.globalNamed "internal/strconv.uint64pow10" = some 1 := by kernel_rfl
theorem Tryz.tPow : (Tryz.prog.globals[1]?).map (·.type) = some 258 := by kernel_rfl
theorem tab_of_laid {W : World} (h : laidMetH Tryz.prog Rows.parseReadsRow.laid W) : Tab W := by
 rw [MakeChecks.laidMetH_plain _ _ _ (by kernel_rfl)] at h
 obtain ⟨ps, ⟨g0, t0, cs0, f0, p0, q0, hg0, ht0, hv0, hd0, ⟨g1, t1, cs1, f1, p1, q1, hg1, ht1, hv1, hd1, ⟨g2, t2, cs2, f2, p2, q2, hg2, ht2, hv2, hd2, _, _⟩, _⟩, _⟩, _, _⟩ := h
 obtain rfl := Option.some.inj (Tryz.gPow.symm.trans hg2)
 obtain rfl := Option.some.inj (Tryz.tPow.symm.trans ht2)
 unfold Tab Lib.TabIs
 rw [hv2, ← Lib.cells_of_tab (k := .u64) (zs := Lib.pow10Tab) Tryz.underlying258 Tryz.underlying224 (by kernel_rfl) (by kernel_rfl) hd2]
end Go.Proofs.YtaioaojfdngfdaaGreatDoor
