/- Parts of a chain of lemmas: Pw5, Del. Conditions: those of each theorem. -/
import Derived.Test.YtdmdohjdmnmabaaGreatQp31
import Derived.Test.YtdmdohjdmnmabaaGreatQp05
import Derived.Test.YtdmdohjdmnmabaaGreatQp03
import Derived.Laws.IdiomCopy
namespace Go.Proofs.YtdmdohjdmnmabaaGreat
open Go.RowKit
set_option linter.unusedVariables false
set_option linter.unusedSimpArgs false

set_option maxRecDepth 100000 in
set_option maxHeartbeats 3200000 in
theorem Prompt_c (SA : Option Addr) (sc : Nat) (Ps : List PrV) (A : Option Addr) (c : Nat) (l : List Ev) (w : World) (hs : PrsRd w NoBlk SA Ps) (hsn : Ps.length ≤ maxLen) (hsz : ∀ v ∈ Ps, PrSz v) (hr : Rd w NoBlk A (flat encEv l)) (hn : l.length ≤ 1000) (hx : ∀ x ∈ l, x.s.size ≤ 100) (hlc : l.length ≤ c) :
    Calls Tryz.prog 18 #[.slice SA Ps.length sc, .slice A l.length c] w fun e w' => (∃ A1 c1, e = .returned (.slice A1 (promptM Ps l).length c1) ∧ Rd w' NoBlk A1 (flat encLag (promptM Ps l))) ∧ Only NoBlk w w' := by
  have HP := hide (prompt_c SA sc Ps A c l w hs hsn hsz hr hn hx hlc)
  obtain ⟨T, hT⟩ : ∃ T, T = promptM Ps l := ⟨_, rfl⟩
  obtain ⟨n, hnl⟩ : ∃ n, n = l.length := ⟨_, rfl⟩
  obtain ⟨np, hnp⟩ : ∃ np, np = Ps.length := ⟨_, rfl⟩
  rw [← hT, ← hnl, ← hnp] at HP
  rw [← hT, ← hnl, ← hnp]
  clear hs hsn hsz hr hn hx hlc hT hnl hnp
  go_enter Tryz.func18, Tryz.ntmps18
  go_wp2_with fail
  refine HP.out.mono ?_
  rintro e w2 ⟨⟨v, rfl, hown⟩, ho2⟩
  obtain ⟨A1, c1, rfl, _⟩ := own_cap hown
  have HR2 := hide (Rd.of_own (M := NoBlk) hown (fun _ h => h.elim))
  have HO2 := hide ho2
  clear hown ho2
  go_wp2_with fail
  go_ret
  exact ⟨⟨A1, c1, rfl, HR2.out⟩, HO2.out⟩
theorem run_min6 (a b c d e f : Int) : ∃ m : Int, (∀ w : World, Sem.run Tryz.prog (Builtin.min_ #[3, 3, 3, 3, 3, 3] 3 #[.int .i64 a, .int .i64 b, .int .i64 c, .int .i64 d, .int .i64 e, .int .i64 f]) w = .ok (.int .i64 m) w) ∧ (m < 0 ↔ (a < 0 ∨ b < 0 ∨ c < 0 ∨ d < 0 ∨ e < 0 ∨ f < 0)) := by
  refine ⟨min (min (min (min (min a b) c) d) e) f, fun w => ?_, by omega⟩
  have e1 : ∀ x y : Int, (if y < x then y else x) = min x y := by
    intro x y
    rw [Int.min_def]
    split <;> split <;> omega
  simp [Builtin.min_, Builtin.min2, e1]
set_option maxRecDepth 100000 in
set_option maxHeartbeats 3200000 in
theorem rounds_c (a b c d e f : Int) (w : World) (hd : d ≤ 9223372036854775807) (he : e ≤ 9223372036854775807) (hf : f ≤ 9223372036854775807) :
    Calls Tryz.prog 48 #[.agg #[.int .i64 a, .int .i64 b, .int .i64 c, .int .i64 d, .int .i64 e, .int .i64 f]] w fun en w' => en = .returned (.int .i64 (roundsM ⟨a, b, c, d, e, f⟩)) ∧ Below w.heap.size w w' := by
  have HQ := hide (show roundsM ⟨a, b, c, d, e, f⟩ = if a < 0 ∨ b < 0 ∨ c < 0 ∨ d < 0 ∨ e < 0 ∨ f < 0 then 0 else max (f - max d e) 0 from rfl)
  obtain ⟨T, hT⟩ : ∃ T, T = roundsM ⟨a, b, c, d, e, f⟩ := ⟨_, rfl⟩
  rw [← hT] at HQ ⊢
  clear hT
  obtain ⟨m6, hm6, hm7⟩ := run_min6 a b c d e f
  by_cases h : a < 0 ∨ b < 0 ∨ c < 0 ∨ d < 0 ∨ e < 0 ∨ f < 0
  · have HQ2 := hide (HQ.out.trans (if_pos h))
    have d1 : decide (m6 < 0) = true := by simp; exact hm7.2 h
    clear h hm7
    go_enter Tryz.func48, Tryz.ntmps48
    go_wp2
    all_goals first
      | (exfalso; omega)
      | (go_ret; exact ⟨by rw [HQ2.out]; rfl, below_alloc _ _⟩)
  · have HQ2 := hide (HQ.out.trans (if_neg h))
    have w1 : IntKind.i64.wrap (f - max d e) = f - max d e := IntWalk.i64_in _ (by omega)
    have d1 : decide (m6 < 0) = false := by simp; have := mt hm7.1 h; omega
    clear h hm7
    go_enter Tryz.func48, Tryz.ntmps48
    go_wp2
    all_goals first
      | (exfalso; omega)
      | (go_ret; exact ⟨by rw [HQ2.out]; rfl, below_alloc _ _⟩)
set_option maxRecDepth 100000 in
set_option maxHeartbeats 3200000 in
theorem Rounds_c (a b c d e f : Int) (w : World) (hd : d ≤ 9223372036854775807) (he : e ≤ 9223372036854775807) (hf : f ≤ 9223372036854775807) :
    Calls Tryz.prog 55 #[.agg #[.int .i64 a, .int .i64 b, .int .i64 c, .int .i64 d, .int .i64 e, .int .i64 f]] w fun en w' => en = .returned (.int .i64 (roundsM ⟨a, b, c, d, e, f⟩)) ∧ Below w.heap.size w w' := by
  have HP := hide (fun w => rounds_c a b c d e f w hd he hf)
  obtain ⟨T, hT⟩ : ∃ T, T = roundsM ⟨a, b, c, d, e, f⟩ := ⟨_, rfl⟩
  rw [← hT] at HP ⊢
  clear hT
  go_enter Tryz.func55, Tryz.ntmps55
  go_wp2_with fail
  refine (HP.out _).mono ?_
  rintro en w2 ⟨rfl, hb2⟩
  have HB := hide ((below_alloc w _).trans (hb2.mono (by simp)))
  go_wp2_with fail
  go_ret
  exact ⟨rfl, HB.out⟩
def ev41 : List Ev := [⟨1, 0, 0, 0, ⟨#[]⟩, 0, ⟨0, 0, 0, 0, 0, 0⟩⟩, ⟨2, 0, 0, 0, ⟨#[]⟩, 0, ⟨0, 0, 0, 0, 0, 0⟩⟩, ⟨1, 0, 0, 0, ⟨#[]⟩, 0, ⟨0, 0, 0, 0, 0, 0⟩⟩, ⟨1, 0, 0, 0, ⟨#[]⟩, 0, ⟨0, 0, 0, 0, 0, 0⟩⟩, ⟨1, 0, 0, 0, ⟨#[]⟩, 0, ⟨0, 0, 0, 0, 0, 0⟩⟩,
  ⟨4, 0, 2, 0, ⟨#[111, 107]⟩, 0, ⟨0, 0, 0, 0, 0, 0⟩⟩, ⟨1, 0, 0, 0, ⟨#[]⟩, 0, ⟨0, 0, 0, 0, 0, 0⟩⟩, ⟨8, 0, 0, 0, ⟨#[]⟩, 0, ⟨0, 0, 2, 0, 2, 0⟩⟩]
def op41 : OpM := ⟨2, ⟨#[]⟩, 10, 0, [⟨⟨#[111, 107]⟩, 1⟩], -1, -1⟩
theorem lit41 (A B : Option Addr) (c d : Nat) : promptM [⟨⟨#[97]⟩, 99, 1, A, c, [⟨op41, B, d⟩]⟩] ev41 = [⟨0, 0, 2, 3, 0, 4⟩] := by rfl
set_option maxRecDepth 100000 in
set_option maxHeartbeats 6400000 in
theorem lives41_c (w : World) : Calls Tryz.prog 22 #[] w fun e w' => e = .returned (.bool true) ∧ Only NoBlk w w' := by
  go_enter Tryz.func22, Tryz.ntmps22
  go_wp2_with fail
  refine (Prompt_c (some ⟨w.heap.size + 1 + 1 + 1 + 1, 0, none⟩) 1 [⟨⟨#[97]⟩, 99, 1, some ⟨w.heap.size + 1, 0, none⟩, 1, [⟨op41, some ⟨w.heap.size, 0, none⟩, 1⟩]⟩] (some ⟨w.heap.size + 1 + 1 + 1 + 1 + 1, 0, none⟩) 8 ev41 _ ⟨?_, ?_⟩ (by simp [maxLen]) ?_ ?_ (by decide) (by decide) (by decide)).mono ?_
  · exact rd_blkN (t := 24) (Blk.alloc (Blk.new' (by simp)) _) (fun h => h)
  · intro v hv
    simp only [List.mem_singleton] at hv
    subst hv
    refine ⟨rd_blkN (t := 75) (Blk.alloc (Blk.alloc (Blk.alloc (Blk.alloc (Blk.new' (by simp)) _) _) _) _) (fun h => h), ?_⟩
    intro o ho
    simp only [List.mem_singleton] at ho
    subst ho
    exact rd_blkN (t := 79) (Blk.alloc (Blk.alloc (Blk.alloc (Blk.alloc (Blk.alloc (Blk.new' rfl) _) _) _) _) _) (fun h => h)
  · intro v hv
    simp only [List.mem_singleton] at hv
    subst hv
    refine ⟨by simp [maxLen], show (⟨#[97]⟩ : ByteArray).size ≤ 9223372036854775807 by decide, ?_⟩
    intro o ho
    simp only [List.mem_singleton] at ho
    subst ho
    exact ⟨show op41.text.size ≤ 9223372036854775807 by decide, by simp [op41, maxLen], show ∀ a ∈ op41.arms, a.pat.size ≤ 9223372036854775807 by decide⟩
  · exact rd_blkN (t := 82) (Blk.new' (by simp)) (fun h => h)
  · rintro e w2 ⟨⟨A1, c1, he, hr2⟩, ho2⟩
    rw [lit41] at he hr2
    subst he
    obtain ⟨b, o, rfl, _, hb, hc⟩ := flat_cells encLag_len hr2 0 ⟨0, 0, 2, 3, 0, 4⟩ rfl (by omega)
    have g0 := hc 0 (by omega)
    have g1 := hc 1 (by omega)
    have g2 := hc 2 (by omega)
    have g3 := hc 3 (by omega)
    have g4 := hc 4 (by omega)
    have g5 := hc 5 (by omega)
    simp [encLag] at g0 g1 g2 g3 g4 g5
    have HO := hide (show Only NoBlk w w2 from ((((((((Only.refl NoBlk w).alloc _).alloc _).alloc _).alloc _).alloc _).alloc _)).trans ho2)
    have HRo := hide (fun w => Rounds_c 0 0 2 3 0 4 w (by omega) (by omega) (by omega))
    rw [show roundsM ⟨0, 0, 2, 3, 0, 4⟩ = 1 from by decide] at HRo
    clear hr2 ho2 hc
    simp only [List.length_cons, List.length_nil, Nat.zero_add]
    go_wp2_with fail
    refine (HRo.out _).mono ?_
    rintro en w3 ⟨rfl, hb3⟩
    have HO3 := hide (HO.out.trans (Only.of_below hb3 _))
    clear hb3
    go_wp2_with fail
    go_ret
    exact ⟨rfl, HO3.out⟩
end Go.Proofs.YtdmdohjdmnmabaaGreat
namespace Go.Proofs.YtdmdohjdmnmabaaGreat
open Go.RowKit
set_option linter.unusedVariables false
set_option linter.unusedSimpArgs false

section
variable {α : Type}
/-- the place of the first one of which p holds -/
def idxG (p : α → Bool) (l : List α) : Int := if l.any p = true then (l.findIdx p : Int) else -1
theorem idxG_at (p : α → Bool) (l : List α) (k : Nat) (x : α) (hx : l[k]? = some x) (h : ∀ y ∈ l.take k, p y = false) (hp : p x = true) : idxG p l = k := by
  obtain ⟨hk, e⟩ := List.getElem?_eq_some_iff.1 hx
  unfold idxG
  have ha : l.any p = true := List.any_eq_true.2 ⟨x, List.mem_of_getElem? hx, hp⟩
  rw [if_pos ha]
  have : l.findIdx p = k := by
    rw [List.findIdx_eq hk]
    refine ⟨by rw [e]; exact hp, fun j hj => ?_⟩
    exact h _ (by rw [List.mem_take_iff_getElem]; exact ⟨j, by omega, rfl⟩)
  rw [this]
theorem idxG_none (p : α → Bool) (l : List α) (h : ∀ y ∈ l, p y = false) : idxG p l = -1 := by
  unfold idxG
  rw [if_neg]
  rw [List.any_eq_true]
  rintro ⟨x, hx, ho⟩
  rw [h x hx] at ho
  cases ho
theorem idxG_or (p : α → Bool) (l : List α) : (idxG p l = -1 ∧ ∀ y ∈ l, p y = false) ∨ ∃ k, k < l.length ∧ idxG p l = k ∧ ∀ y ∈ l.take k, p y = false := by
  by_cases ha : l.any p = true
  · right
    have hlt : l.findIdx p < l.length := List.findIdx_lt_length.2 (by simpa using List.any_eq_true.1 ha)
    refine ⟨l.findIdx p, hlt, by unfold idxG; rw [if_pos ha], fun y hy => ?_⟩
    obtain ⟨j, hj, rfl⟩ := List.mem_take_iff_getElem.1 hy
    have := List.not_of_lt_findIdx (p := p) (xs := l) (i := j) (by omega)
    simpa using this
  · left
    have h : ∀ y ∈ l, p y = false := by
      intro y hy
      cases hp : p y with
      | false => rfl
      | true => exact absurd (List.any_eq_true.2 ⟨y, hy, hp⟩) ha
    exact ⟨idxG_none p l h, h⟩
def keepL (p : α → Bool) (l : List α) : List α := l.filter (fun x => !p x)
theorem keep_none {p : α → Bool} {l : List α} (h : ∀ y ∈ l, p y = false) : keepL p l = l := by
  unfold keepL
  rw [List.filter_eq_self]
  intro y hy
  rw [h y hy]; rfl
theorem keep_succ (p : α → Bool) (l : List α) (k : Nat) (x : α) (hx : l[k]? = some x) : keepL p (l.take (k + 1)) = keepL p (l.take k) ++ (if p x = true then [] else [x]) := by
  have e : l.take (k + 1) = l.take k ++ [x] := by rw [List.take_add_one, hx]; rfl
  rw [e]
  unfold keepL
  rw [List.filter_append]
  cases hp : p x <;> simp [hp]
theorem keep_le (p : α → Bool) (l : List α) : (keepL p l).length ≤ l.length := List.length_filter_le _ _
end
theorem frozen_of_block {w w' : World} {g t : Nat} (h : w'.heap[g]? = w.heap[g]?) : w'.frozen? ⟨g, t, none⟩ = w.frozen? ⟨g, t, none⟩ := by
  simp only [World.frozen?, h]
theorem only_setCells (g : Nat) : ∀ (vs : List Value) (o : Nat) (w : World), Only (· = g) w (w.setCells g o vs)
  | [], _, _ => Only.refl _ _
  | v :: r, o, w => ((Only.refl (· = g) w).setCell (Or.inl rfl) v).trans (only_setCells g r (o + 1) _)
theorem frozen_setCells (g t : Nat) : ∀ (vs : List Value) (o : Nat) (w : World), (w.setCells g o vs).frozen? ⟨g, t, none⟩ = w.frozen? ⟨g, t, none⟩
  | [], _, _ => rfl
  | v :: r, o, w => by
    rw [World.setCells, frozen_setCells g t r (o + 1)]
    simp [World.frozen?, World.setCell, Array.getElem?_modify]
    cases w.heap[g]? with
    | none => rfl
    | some ob => cases ob <;> rfl
theorem cell_out {w : World} {g o t : Nat} {vs : List Value} (h : t < o ∨ o + vs.length ≤ t) : (w.setCells g o vs).cell? ⟨g, t, none⟩ = w.cell? ⟨g, t, none⟩ := World.cell?_setCells_out g vs o w ⟨g, t, none⟩ (fun _ _ => h)
/-- a row under way: the first k kept ones K, from q on as it was (L) -/
structure DelAt {α : Type} (enc : α → List Value) (nc : Nat) (w : World) (g n k q : Nat) (K L : List α) : Prop where
  lo : ∀ t, t < k * nc → w.cell? ⟨g, t, none⟩ = (flat enc K)[t]?
  hi : ∀ t, q * nc ≤ t → t < n * nc → w.cell? ⟨g, t, none⟩ = (flat enc L)[t]?
  so : ∀ t, t < n * nc → (w.cell? ⟨g, t, none⟩).isSome = true
  fr : ∀ t, w.frozen? ⟨g, t, none⟩ = false
  lt : g < w.heap.size
section
variable {α : Type} {enc : α → List Value} {nc : Nat} {w w' : World} {g n k q : Nat} {K L : List α}
theorem DelAt.only {S : Nat → Prop} (h : DelAt enc nc w g n k q K L) (j : Only S w w') (hs : ¬ S g) : DelAt enc nc w' g n k q K L := by
  have hc : ∀ t, w'.cell? ⟨g, t, none⟩ = w.cell? ⟨g, t, none⟩ := fun t => j.cell (p := ⟨g, t, none⟩) h.lt hs
  exact ⟨fun t ht => (hc t).trans (h.lo t ht), fun t h1 h2 => (hc t).trans (h.hi t h1 h2), fun t ht => by rw [hc]; exact h.so t ht, fun t => (frozen_of_block (j.block g h.lt hs)).trans (h.fr t), Nat.lt_of_lt_of_le h.lt j.size⟩
theorem DelAt.skip (h : DelAt enc nc w g n k q K L) : DelAt enc nc w g n k (q + 1) K L := ⟨h.lo, fun t h1 h2 => h.hi t (by rw [Nat.add_mul] at h1; omega) h2, h.so, h.fr, h.lt⟩
theorem DelAt.at_ (h : DelAt enc nc w g n k q K L) (henc : ∀ a, (enc a).length = nc) (x : α) (hx : L[q]? = some x) (hqn : q < n) (j : Nat) (hj : j < nc) : w.cell? ⟨g, q * nc + j, none⟩ = (enc x)[j]? := by
  have h1 : q * nc + nc ≤ n * nc := by have := Nat.mul_le_mul_right nc (show q + 1 ≤ n by omega); rw [Nat.add_mul] at this; omega
  rw [h.hi _ (by omega) (by omega), flat_at enc nc henc L q j x hx hj]
theorem DelAt.some_ (h : DelAt enc nc w g n k q K L) (hkn : k < n) (j : Nat) (hj : j < nc) : ∃ u, w.cell? ⟨g, k * nc + j, none⟩ = some u := by
  have h1 : k * nc + nc ≤ n * nc := by have := Nat.mul_le_mul_right nc (show k + 1 ≤ n by omega); rw [Nat.add_mul] at this; omega
  exact Option.isSome_iff_exists.1 (h.so (k * nc + j) (by omega))
theorem DelAt.store (h : DelAt enc nc w g n k q K L) (henc : ∀ a, (enc a).length = nc) (hK : K.length = k) (x : α) (hx : L[q]? = some x) (hkq : k < q) (hqn : q < n) : DelAt enc nc (w.setCells g (k * nc) (enc x)) g n (k + 1) (q + 1) (K ++ [x]) L := by
  have h1 : k * nc + nc ≤ q * nc := by have := Nat.mul_le_mul_right nc (show k + 1 ≤ q by omega); rw [Nat.add_mul] at this; omega
  have h2 : q * nc + nc ≤ n * nc := by have := Nat.mul_le_mul_right nc (show q + 1 ≤ n by omega); rw [Nat.add_mul] at this; omega
  have hsome : ∀ j, j < (enc x).length → (w.cell? ⟨g, k * nc + j, none⟩).isSome = true := fun j hj => h.so _ (by rw [henc] at hj; omega)
  have hin : ∀ j (hj : j < (enc x).length), (w.setCells g (k * nc) (enc x)).cell? ⟨g, k * nc + j, none⟩ = some ((enc x)[j]) := World.cell?_setCells_in g (enc x) (k * nc) w hsome
  have hfk : (flat enc K).length = k * nc := by rw [flat_len enc nc henc, hK]
  refine ⟨fun t ht => ?_, fun t h3 h4 => ?_, fun t ht => ?_, fun t => by rw [frozen_setCells]; exact h.fr t, by have := (only_setCells g (enc x) (k * nc) w).size; have := h.lt; omega⟩
  · have e : flat enc (K ++ [x]) = flat enc K ++ enc x := by simp [flat]
    rw [e]
    by_cases htk : t < k * nc
    · rw [cell_out (Or.inl htk), h.lo t htk, List.getElem?_append_left (by omega)]
    · have : t < k * nc + nc := by rw [Nat.add_mul] at ht; omega
      obtain ⟨j, rfl⟩ : ∃ j, t = k * nc + j := ⟨t - k * nc, by omega⟩
      rw [hin j (by rw [henc]; omega), List.getElem?_append_right (by omega), hfk, show k * nc + j - k * nc = j by omega, List.getElem?_eq_getElem]
  · rw [cell_out (Or.inr (by rw [henc]; rw [Nat.add_mul] at h3; omega))]
    exact h.hi t (by rw [Nat.add_mul] at h3; omega) h4
  · by_cases hj : k * nc ≤ t ∧ t < k * nc + nc
    · obtain ⟨j, rfl⟩ : ∃ j, t = k * nc + j := ⟨t - k * nc, by omega⟩
      rw [hin j (by rw [henc]; omega)]; rfl
    · rw [cell_out (by rw [henc]; omega)]
      exact h.so t ht
theorem DelAt.cleared (h : DelAt enc nc w g n k q K L) (henc : ∀ a, (enc a).length = nc) (hK : K.length = k) (vs : List Value) : Rd (w.setCells g (k * nc) vs) NoBlk (some ⟨g, 0, none⟩) (flat enc K) := by
  refine Or.inr ⟨g, 0, rfl, fun h => h, by have := (only_setCells g vs (k * nc) w).size; have := h.lt; omega, fun j hj => ?_⟩
  rw [flat_len enc nc henc, hK] at hj
  rw [Nat.zero_add, cell_out (Or.inl hj)]
  exact h.lo j hj
theorem del_of_own {base n : Nat} {e : TypeId} {v : Value} (h : w.ownsRow base e nc v n (flat enc L)) (hn : 0 < n) (hL : L.length = n) (henc : ∀ a, (enc a).length = nc) :
    ∃ g c, v = .slice (some ⟨g, 0, none⟩) n c ∧ base ≤ g ∧ n ≤ c ∧ c ≤ maxLen ∧ ∀ k q, k ≤ q → k ≤ n → DelAt enc nc w g n k q (L.take k) L := by
  obtain ⟨hl, h2⟩ := h
  rcases h2 with ⟨hv, h0⟩ | ⟨g, cap, cur, hv, hb, hh, hnc, hcm, hsz, htk⟩
  · omega
  · have hbk : Blk w g e cur := hh
    have hall : ∀ t, t < n * nc → w.cell? ⟨g, t, none⟩ = (flat enc L)[t]? := by
      intro t ht
      rw [hbk.cell, ← htk, List.getElem?_take, if_pos ht]
      simp
    refine ⟨g, cap, hv, hb, hnc, hcm, fun k q hkq hkn => ⟨fun t ht => ?_, fun t _ ht => hall t ht, fun t ht => ?_, fun t => hbk.frozen t, hbk.lt⟩⟩
    · have hkn2 : k * nc ≤ n * nc := Nat.mul_le_mul_right nc hkn
      rw [hall t (by omega)]
      have e : flat enc L = flat enc (L.take k) ++ flat enc (L.drop k) := by rw [← flat_append, List.take_append_drop]
      rw [e, List.getElem?_append_left (by rw [flat_len enc nc henc, List.length_take]; rw [Nat.min_eq_left (by omega)]; exact ht)]
    · rw [hall t ht, List.getElem?_eq_getElem (by rw [flat_len enc nc henc, hL]; exact ht)]
      rfl
end
/-- 'clear' on a row of n > 0 elements of several cells each -/
theorem run_clear_rows {P : Program} (w : World) (t e : TypeId) (z : Value) (zs : List Value) (ht : P.underlying t = some (.slice e)) (hv : ∀ w, (zeroValue e).run P w = .ok z w) (hz : z.cells = zs.toArray) (h0 : 0 < zs.length) (h1 : ∀ u ∈ zs, u.oneCell' = true) (b o n c : Nat) (hn : 0 < n)
    (hc : ∀ j, j < n * zs.length → (w.cell? ⟨b, o + j, none⟩).isSome = true) (hf : ∀ j, j < n * zs.length → w.frozen? ⟨b, o + j, none⟩ = false) :
    ∃ vs, ∀ ty, (Builtin.clear_ #[t] ty #[.slice (some ⟨b, o, none⟩) n c]).run P w = .ok (.tuple #[]) (w.setCells b o vs) := by
  refine ⟨(Builtin.zeroCells z.cells n).toList, fun ty => ?_⟩
  have hlen : (Builtin.zeroCells z.cells n).toList.length = n * zs.length := by rw [hz]; simp [Builtin.zeroCells]
  have hst := Go.run_storeCells_cells (P := P) b o (Builtin.zeroCells z.cells n).toList 0 w (by intro j hj; rw [hlen] at hj; rw [Nat.add_zero]; exact hc j hj) (by intro j hj; rw [hlen] at hj; rw [Nat.add_zero]; exact hf j hj) (by
    intro v hv'
    rw [hz] at hv'
    simp [Builtin.zeroCells] at hv'
    obtain ⟨i, hi, rfl⟩ := hv'
    have hlt : i % zs.length < zs.length := Nat.mod_lt _ h0
    rw [List.getElem?_eq_getElem hlt]
    exact h1 _ (List.getElem_mem hlt))
  simp only [Nat.add_zero] at hst
  obtain ⟨m, rfl⟩ : ∃ m, n = m + 1 := ⟨n - 1, by omega⟩
  simp [Builtin.clear_, run_underlying ht, hv, hst]
end Go.Proofs.YtdmdohjdmnmabaaGreat
