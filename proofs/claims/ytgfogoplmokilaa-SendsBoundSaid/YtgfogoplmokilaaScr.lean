/- Parts of a chain of lemmas: ProjOtherW, TellsP, Scr. Conditions: those of each theorem. -/
import Derived.Test.YtgfogoplmokilaaSort31
import Derived.Test.YtgfogoplmokilaaRoundsP
import Derived.Test.YtgfogoplmokilaaRefRW
import Derived.Test.YtgfogoplmokilaaNext
import Derived.Test.YtgfogoplmokilaaSameL
import Derived.Test.YtgfogoplmokilaaUniq
namespace Go.Proofs.Ytgfogoplmokilaa
open Go.RowKit
set_option linter.unusedVariables false

theorem filt_succ (p : Ev → Bool) (l : List Ev) (k : Nat) (h : k < l.length) : (l.take (k + 1)).filter p = (l.take k).filter p ++ (if p (evAt l k) = true then [evAt l k] else []) := by
  have e : evAt l k = l[k] := by simp [evAt, List.getD, h]
  rw [List.take_succ_eq_append_getElem h, List.filter_append, e]
  cases hp : p l[k] <;> simp [hp]
theorem life_small {id : Int} {l : List Ev} {f : LifeM} (h : lifeGo id 0 l = some f) (hx : ∀ x ∈ l, x.s.size ≤ 100) : f.ins.length ≤ l.length ∧ f.steps.length ≤ l.length := by
  rcases open_or id l with ⟨_, hl⟩ | ⟨k, hk, _, hl⟩
  · rw [h] at hl; cases hl
  · rw [h] at hl
    injection hl with hl
    have := small_fold id (evAt l k).n (clockOf 0 (l.take k)) (l.drop (k + 1)) (fun x hx' => hx x (List.mem_of_mem_drop hx')) (l.drop (k + 1)).length (Nat.le_refl _)
    rw [List.take_length, ← hl] at this
    have h1 := this.ins; have h2 := this.steps
    rw [List.length_drop] at h1 h2
    exact ⟨by omega, by omega⟩
theorem few_texts (l : List Ev) (m : Nat) : ∀ x ∈ fewL l m, x.s.size ≤ 100 := by
  intro x hx
  unfold fewL at hx
  obtain ⟨y, _, rfl⟩ := List.mem_map.1 hx
  show (cutS y.s 24).size ≤ 100
  rw [cutS_size]; omega
theorem few_le (l : List Ev) (m : Nat) : (fewL l m).length ≤ m := by
  unfold fewL
  rw [List.length_map, List.length_take]; omega
end Go.Proofs.Ytgfogoplmokilaa
namespace Go.Proofs.Ytgfogoplmokilaa
open Go.RowKit
set_option linter.unusedVariables false

theorem cutS_idem (s : ByteArray) (m : Nat) : cutS (cutS s m) m = cutS s m := by
  have h : (cutS s m).size ≤ m := by rw [cutS_size]; omega
  generalize cutS s m = t at h
  unfold cutS
  rw [if_neg (by omega)]
theorem fewL_idem (l : List Ev) (m : Nat) : fewL (fewL l m) m = fewL l m := by
  unfold fewL
  rw [← List.map_take, List.take_take, Nat.min_self, List.map_map]
  apply List.map_congr_left
  intro x _
  simp [cutS_idem]
/-- who is told: 0 where nobody is -/
def whoL (id : Int) (o : Option LifeM) : Int := match o with
  | none => 0
  | some _ => id
def lifeO (o : Option LifeM) : LifeM := o.getD (life0 0 0)
/-- both ways of Of's answer as one -/
theorem ret_one {M : Nat → Prop} {id : Int} {o : Option LifeM} {w w' : World} {e : Ending} (h : RetLife M id o (fun ok r => r = [.bool ok]) w e w') : Below w.heap.size w w' ∧ ∃ A c B d,
    e = .returned (.tuple #[.agg #[.int .i64 (whoL id o), .int .i64 (lifeO o).script, .int .i64 (lifeO o).start, .slice A (lifeO o).ins.length c, .slice B (lifeO o).steps.length d, .string (lifeO o).read, .string (lifeO o).taken, .bool (lifeO o).eof, .int .i64 (lifeO o).status], .bool o.isSome]) ∧
    Rd w' M A (flat encInp (lifeO o).ins) ∧ Rd w' M B (flat encStp (lifeO o).steps) := by
  refine ⟨h.1, ?_⟩
  cases o with
  | none =>
    obtain ⟨r, rfl, he⟩ := h.2
    exact ⟨none, 0, none, 0, he, Rd.nil, Rd.nil⟩
  | some f =>
    obtain ⟨A, c, B, d, r, rfl, he, h1, h2, _, _⟩ := h.2
    exact ⟨A, c, B, d, he, h1, h2⟩
theorem ret_one31 {id : Int} {o : Option LifeM} {w w' : World} {e : Ending} (h : RetLife31 id o w e w') : Below w.heap.size w w' ∧ ∃ A c B d C n c3,
    e = .returned (.tuple #[.agg #[.int .i64 (whoL id o), .int .i64 (lifeO o).script, .int .i64 (lifeO o).start, .slice A (lifeO o).ins.length c, .slice C n c3, .slice B (lifeO o).steps.length d, .string (lifeO o).read, .string (lifeO o).taken, .bool (lifeO o).eof, .int .i64 (lifeO o).status], .bool o.isSome]) ∧
    Rd w' NoBlk A (flat encInp (lifeO o).ins) ∧ Rd w' NoBlk B (flat encStp (lifeO o).steps) := by
  refine ⟨h.1, ?_⟩
  cases o with
  | none => exact ⟨none, 0, none, 0, none, 0, 0, h.2, Rd.nil, Rd.nil⟩
  | some f =>
    obtain ⟨A, c, B, d, C, n, c3, he, h1, h2⟩ := h.2
    exact ⟨A, c, B, d, C, n, c3, he, h1, h2⟩
theorem lifeO_small {id : Int} {l : List Ev} (hx : ∀ x ∈ l, x.s.size ≤ 100) (hn : l.length ≤ 10000) : (lifeO (lifeGo id 0 l)).ins.length ≤ 100000 ∧ (lifeO (lifeGo id 0 l)).steps.length ≤ 100000 := by
  cases h : lifeGo id 0 l with
  | none => exact ⟨Nat.zero_le _, Nat.zero_le _⟩
  | some f =>
    have := life_small h hx
    exact ⟨Nat.le_trans this.1 (by omega), Nat.le_trans this.2 (by omega)⟩
theorem ids_le (l : List Ev) : (idsL l).length ≤ l.length := by
  have h := fold_len (openedL l)
  have h2 : (openedL l).length ≤ l.length := by unfold openedL; rw [List.length_map]; exact List.length_filter_le _ _
  unfold idsL
  omega
/-- the contract of the page's Of -/
def RefOfC : Prop := ∀ (A : Option Addr) (c : Nat) (l : List Ev) (id : Int) (w : World), Rd w NoBlk A (flat encEv l) → l.length ≤ 10000 → (∀ x ∈ l, x.s.size ≤ 100) →
    Calls Try.prog 9 #[.slice A l.length c, .int .i64 id] w (RetLife31 id (lifeGo id 0 l) w)
end Go.Proofs.Ytgfogoplmokilaa
namespace Go.Proofs.Ytgfogoplmokilaa
open Go.RowKit
set_option linter.unusedVariables false

/-- a script, and where its ops lie -/
structure PrV where
  s : ByteArray
  d : Int
  j : Int
  PA : Option Addr
  pc : Nat
  L : List OpV
def encPr (v : PrV) : List Value := [.string v.s, .int .i64 v.d, .int .i64 v.j, .slice v.PA v.L.length v.pc]
theorem encPr_len (v : PrV) : (encPr v).length = 4 := rfl
def prM (v : PrV) : ProgM := progM v.s v.d v.j v.L
def PrsRd (w : World) (M : Nat → Prop) (A : Option Addr) (Ps : List PrV) : Prop := Rd w M A (flat encPr Ps) ∧ ∀ v ∈ Ps, OpsRd w M v.PA v.L
theorem PrsRd.only {S M : Nat → Prop} {w w' : World} {A : Option Addr} {Ps : List PrV} (h : PrsRd w M A Ps) (k : Only S w w') (hs : ∀ b, S b → M b) : PrsRd w' M A Ps := ⟨h.1.only k hs, fun v hv => (h.2 v hv).only k hs⟩
def PrSz (v : PrV) : Prop := v.L.length ≤ maxLen ∧ v.s.size ≤ 9223372036854775807 ∧ ∀ o ∈ v.L, OpSz o
def prAt (l : List PrV) (k : Nat) : PrV := l.getD k ⟨⟨#[]⟩, 0, 0, none, 0, []⟩
theorem prAt_some {l : List PrV} {k : Nat} (hk : k < l.length) : l[k]? = some (prAt l k) := by simp [prAt, List.getD, hk]
theorem prAt_mem {l : List PrV} {k : Nat} (hk : k < l.length) : prAt l k ∈ l := List.mem_of_getElem? (prAt_some hk)
theorem pr_cells {w : World} {M : Nat → Prop} {A : Option Addr} {l : List PrV} (hr : Rd w M A (flat encPr l)) (k : Nat) (hk : k < l.length) : ∃ b o, A = some ⟨b, o, none⟩ ∧ b < w.heap.size ∧
    w.cell? ⟨b, o + k * 4, none⟩ = some (.string (prAt l k).s) ∧ w.cell? ⟨b, o + k * 4 + 1, none⟩ = some (.int .i64 (prAt l k).d) ∧ w.cell? ⟨b, o + k * 4 + 2, none⟩ = some (.int .i64 (prAt l k).j) ∧ w.cell? ⟨b, o + k * 4 + 3, none⟩ = some (.slice (prAt l k).PA (prAt l k).L.length (prAt l k).pc) := by
  obtain ⟨b, o, hA, hm, hb, hc⟩ := flat_cells encPr_len hr k _ (prAt_some hk) (by omega)
  exact ⟨b, o, hA, hb, hc 0 (by omega), hc 1 (by omega), hc 2 (by omega), hc 3 (by omega)⟩
theorem id_cell {w : World} {M : Nat → Prop} {A : Option Addr} {l : List Int} (hr : Rd w M A (flat encI l)) (k : Nat) (hk : k < l.length) : ∃ b o, A = some ⟨b, o, none⟩ ∧ b < w.heap.size ∧ w.cell? ⟨b, o + k, none⟩ = some (.int .i64 (nth l k)) := by
  obtain ⟨b, o, hA, _, hb, hc⟩ := hr.at_ (j := k) (by rw [encI_len]; exact hk)
  refine ⟨b, o, hA, hb, ?_⟩
  rw [hc k (by rw [encI_len]; exact hk), flat_encI]
  simp [nth, List.getD, hk]
/-- the number of one's script -/
def scrN (l : List Ev) (id : Int) : Int := (lifeO (lifeGo id 0 l)).script
/-- whether one has a script that may be -/
def scrB (Ps : List PrV) (l : List Ev) (id : Int) : Bool := (decide (0 ≤ scrN l id) && decide (scrN l id < Ps.length)) && goodM (prM (prAt Ps (scrN l id).toNat))
/-- of each one with a script that may be -/
def perM {β : Type} (Ps : List PrV) (l : List Ev) (one : PrV → Int → List β) (ids : List Int) : List β := ids.flatMap fun id => if scrB Ps l id = true then one (prAt Ps (scrN l id).toNat) id else []
theorem per_succ {β : Type} (Ps : List PrV) (l : List Ev) (one : PrV → Int → List β) (ids : List Int) (k : Nat) (h : k < ids.length) :
    perM Ps l one (ids.take (k + 1)) = perM Ps l one (ids.take k) ++ (if scrB Ps l (nth ids k) = true then one (prAt Ps (scrN l (nth ids k)).toNat) (nth ids k) else []) := by
  have e : nth ids k = ids[k] := nth_of_lt h
  rw [List.take_succ_eq_append_getElem h, ← e]
  unfold perM
  rw [List.flatMap_append]
  simp
theorem per_len {β : Type} (Ps : List PrV) (l : List Ev) (one : PrV → Int → List β) (m : Nat) (hm : ∀ p id, (one p id).length ≤ m) : ∀ ids : List Int, (perM Ps l one ids).length ≤ ids.length * m := by
  intro ids
  induction ids with
  | nil => simp [perM]
  | cons a r ih =>
    have : perM Ps l one (a :: r) = (if scrB Ps l a = true then one (prAt Ps (scrN l a).toNat) a else []) ++ perM Ps l one r := by simp [perM]
    rw [this, List.length_append, List.length_cons, Nat.add_mul]
    have := hm (prAt Ps (scrN l a).toNat) a
    split
    · omega
    · simp; omega
theorem Rd.old {w : World} {A : Option Addr} {xs : List Value} {b : Nat} (h : Rd w NoBlk A xs) (hb : w.heap.size ≤ b) : Rd w (b ≤ ·) A xs := by
  rcases h with h | ⟨g, o, hA, _, hg, hc⟩
  · exact Or.inl h
  · exact Or.inr ⟨g, o, hA, by omega, hg, hc⟩
theorem OpsRd.old {w : World} {A : Option Addr} {L : List OpV} {b : Nat} (h : OpsRd w NoBlk A L) (hb : w.heap.size ≤ b) : OpsRd w (b ≤ ·) A L := ⟨h.1.old hb, fun v hv => (h.2 v hv).old hb⟩
theorem only_new {b : Nat} {w w' : World} (hb : w.heap.size ≤ b) (k : Only (b ≤ ·) w w') : Only NoBlk w w' := k.mono fun i hi hs => by omega
theorem no_blk_new {w : World} {b g : Nat} {e : TypeId} {cs : Array Value} (hb : w.heap.size ≤ b) (hg : b ≤ g) : ¬ Blk w g e cs := fun h => by have := h.lt; omega
end Go.Proofs.Ytgfogoplmokilaa
