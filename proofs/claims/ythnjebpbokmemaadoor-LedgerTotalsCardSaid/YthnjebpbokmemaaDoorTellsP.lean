/- What ProjTells is about: plain, and the two Of's as one. Conditions: those of each theorem. -/
import Derived.Test.YthnjebpbokmemaaDoorRefRW
import Derived.Test.YthnjebpbokmemaaDoorSameL
import Derived.Test.YthnjebpbokmemaaDoorProjOtherW
namespace Go.Proofs.YthnjebpbokmemaaDoor
open Go.RowKit
set_option linter.unusedVariables false

theorem cutS_idem (s : ByteArray) (m : Nat) : cutS (cutS s m) m = cutS s m := by
  have h : (cutS s m).size ≤ m := by rw [cutS_size]; omega
  generalize cutS s m = t at h
  unfold cutS
  rw [if_neg (by omega)]
theorem fewL_idem (l : List Ev) (m : Nat) : fewL (fewL l m) m = fewL l m := by
  unfold fewL
  rw [← List.map_take, List.take_take, Nat.min_self, List.map_map]
  apply List.map_congr_left
  intro x _
  simp [cutS_idem]
/-- who is told: 0 where nobody is -/
def whoL (id : Int) (o : Option LifeM) : Int := match o with
  | none => 0
  | some _ => id
def lifeO (o : Option LifeM) : LifeM := o.getD (life0 0 0)
/-- both ways of Of's answer as one -/
theorem ret_one {M : Nat → Prop} {id : Int} {o : Option LifeM} {w w' : World} {e : Ending} (h : RetLife M id o (fun ok r => r = [.bool ok]) w e w') : Below w.heap.size w w' ∧ ∃ A c B d,
    e = .returned (.tuple #[.agg #[.int .i64 (whoL id o), .int .i64 (lifeO o).script, .int .i64 (lifeO o).start, .slice A (lifeO o).ins.length c, .slice B (lifeO o).steps.length d, .string (lifeO o).read, .string (lifeO o).taken, .bool (lifeO o).eof, .int .i64 (lifeO o).status], .bool o.isSome]) ∧
    Rd w' M A (flat encInp (lifeO o).ins) ∧ Rd w' M B (flat encStp (lifeO o).steps) := by
  refine ⟨h.1, ?_⟩
  cases o with
  | none =>
    obtain ⟨r, rfl, he⟩ := h.2
    exact ⟨none, 0, none, 0, he, Rd.nil, Rd.nil⟩
  | some f =>
    obtain ⟨A, c, B, d, r, rfl, he, h1, h2, _, _⟩ := h.2
    exact ⟨A, c, B, d, he, h1, h2⟩
theorem ret_one31 {id : Int} {o : Option LifeM} {w w' : World} {e : Ending} (h : RetLife31 id o w e w') : Below w.heap.size w w' ∧ ∃ A c B d C n c3,
    e = .returned (.tuple #[.agg #[.int .i64 (whoL id o), .int .i64 (lifeO o).script, .int .i64 (lifeO o).start, .slice A (lifeO o).ins.length c, .slice C n c3, .slice B (lifeO o).steps.length d, .string (lifeO o).read, .string (lifeO o).taken, .bool (lifeO o).eof, .int .i64 (lifeO o).status], .bool o.isSome]) ∧
    Rd w' NoBlk A (flat encInp (lifeO o).ins) ∧ Rd w' NoBlk B (flat encStp (lifeO o).steps) := by
  refine ⟨h.1, ?_⟩
  cases o with
  | none => exact ⟨none, 0, none, 0, none, 0, 0, h.2, Rd.nil, Rd.nil⟩
  | some f =>
    obtain ⟨A, c, B, d, C, n, c3, he, h1, h2⟩ := h.2
    exact ⟨A, c, B, d, C, n, c3, he, h1, h2⟩
theorem lifeO_small {id : Int} {l : List Ev} (hx : ∀ x ∈ l, x.s.size ≤ 100) (hn : l.length ≤ 10000) : (lifeO (lifeGo id 0 l)).ins.length ≤ 100000 ∧ (lifeO (lifeGo id 0 l)).steps.length ≤ 100000 := by
  cases h : lifeGo id 0 l with
  | none => exact ⟨Nat.zero_le _, Nat.zero_le _⟩
  | some f =>
    have := life_small h hx
    exact ⟨Nat.le_trans this.1 (by omega), Nat.le_trans this.2 (by omega)⟩
theorem ids_le (l : List Ev) : (idsL l).length ≤ l.length := by
  have h := fold_len (openedL l)
  have h2 : (openedL l).length ≤ l.length := by unfold openedL; rw [List.length_map]; exact List.length_filter_le _ _
  unfold idsL
  omega
/-- the contract of the page's Of -/
def RefOfC : Prop := ∀ (A : Option Addr) (c : Nat) (l : List Ev) (id : Int) (w : World), Rd w NoBlk A (flat encEv l) → l.length ≤ 10000 → (∀ x ∈ l, x.s.size ≤ 100) →
    Calls Tryd.prog 24 #[.slice A l.length c, .int .i64 id] w (RetLife31 id (lifeGo id 0 l) w)
end Go.Proofs.YthnjebpbokmemaaDoor
