/- All rows as text: the program and the page. Conditions: those of each theorem. -/
import Derived.Test.YthnjebpbokmemaaDoorBuf
namespace Go.Proofs.YthnjebpbokmemaaDoor
open Go.RowKit
set_option linter.unusedVariables false

structure LifeOk (f : LifeM) : Prop where
  script : I64 f.script
  start : I64 f.start
  status : I64 f.status
  steps : ∀ x ∈ f.steps, StpOk x
theorem clock_ok {l : List Ev} (h : ∀ x ∈ l, EvOk x) : ∀ c : Int, I64 c → I64 (clockOf c l) := by
  induction l with
  | nil => intro c hc; exact hc
  | cons x r ih =>
    intro c hc
    show I64 (clockOf (if x.k = 1 then x.tick else c) r)
    refine ih (fun y hy => h y (by simp [hy])) _ ?_
    split
    · exact (h x (by simp)).tick
    · exact hc
theorem add_ok {id : Int} {f : LifeM} {x : Ev} (hf : LifeOk f) (hx : EvOk x) : LifeOk (addL id f x) := by
  unfold addL
  repeat' split
  all_goals first
    | exact hf
    | exact ⟨hf.script, hf.start, hf.status, hf.steps⟩
    | exact ⟨hf.script, hf.start, hx.st.status, fun y hy => by
        rcases List.mem_append.1 hy with hy | hy
        · exact hf.steps y hy
        · simp at hy; subst hy; exact hx.st⟩
theorem life_ok {id : Int} {l : List Ev} (h : ∀ x ∈ l, EvOk x) : ∀ (c : Int) (f : LifeM), I64 c → lifeGo id c l = some f → LifeOk f := by
  have hfold : ∀ (l : List Ev) (f : LifeM), (∀ x ∈ l, EvOk x) → LifeOk f → LifeOk (l.foldl (addL id) f) := by
    intro l
    induction l with
    | nil => intro f _ hf; exact hf
    | cons x r ih => intro f h hf; exact ih _ (fun y hy => h y (by simp [hy])) (add_ok hf (h x (by simp)))
  induction l with
  | nil => intro c f _ hf; cases hf
  | cons x r ih =>
    intro c f hc hf
    unfold lifeGo at hf
    split at hf
    · injection hf with hf
      subst hf
      exact hfold r _ (fun y hy => h y (by simp [hy])) ⟨(h x (by simp)).n, hc, (show I64 0 from ⟨by decide, by decide⟩), fun y hy => by simp [life0] at hy⟩
    · refine ih (fun y hy => h y (by simp [hy])) _ f ?_ hf
      split
      · exact (h x (by simp)).tick
      · exact hc
theorem i64_nat {n : Nat} (h : n ≤ 1000000000) : I64 (n : Int) := ⟨by omega, by omega⟩
theorem row_ok {id : Int} {l : List Ev} (hi : I64 id) (h : ∀ x ∈ l, EvOk x) (hn : l.length ≤ 10000) (hx : ∀ x ∈ l, x.s.size ≤ 100) : RowOk (rowO id (lifeGo id 0 l)) := by
  have h0 : I64 0 := ⟨by decide, by decide⟩
  cases hf : lifeGo id 0 l with
  | none => exact ⟨h0, h0, h0, h0, h0, h0, h0, h0, h0, h0⟩
  | some f =>
    have hk := life_ok h 0 f h0 hf
    have hs := life_small2 hf hx
    have h1 := hs.steps; have h2 := hs.read; have h3 := hs.taken
    have h4 := looks_le f.steps f.steps.length
    have h5 := jumps_le f.steps f.steps.length
    refine ⟨hi, hk.script, hk.start, i64_nat (by omega), ?_, ?_, i64_nat (by omega), i64_nat (by omega), hk.status, ?_⟩
    · exact ⟨by show _ ≤ looksN _; omega, by show looksN _ ≤ _; omega⟩
    · exact ⟨by show _ ≤ jumpsN _; omega, by show jumpsN _ ≤ _; omega⟩
    · show I64 (endK f f.steps.length)
      unfold endK
      split
      · exact ⟨by decide, by decide⟩
      · rename_i hq
        have hl : f.steps.length - 1 < f.steps.length := by omega
        have e : stpAt f.steps (f.steps.length - 1) = f.steps[f.steps.length - 1] := by simp [stpAt, List.getD, hl]
        rw [e]
        exact (hk.steps _ (List.getElem_mem hl)).tick
theorem ids_ok {l : List Ev} (h : ∀ x ∈ l, EvOk x) : ∀ id ∈ idsL l, I64 id := by
  intro id hid
  rw [ids_uniq, (uniq_spec (openedL l)).2] at hid
  unfold openedL at hid
  rw [List.mem_map] at hid
  obtain ⟨x, hx, rfl⟩ := hid
  exact (h x (List.mem_filter.1 hx).1).id
theorem rows_ok {l : List Ev} (h : ∀ x ∈ l, EvOk x) (hn : l.length ≤ 10000) (hx : ∀ x ∈ l, x.s.size ≤ 100) : ∀ r ∈ rowsL l, RowOk r := by
  intro r hr
  unfold rowsL at hr
  rw [List.mem_map] at hr
  obtain ⟨id, hid, rfl⟩ := hr
  exact row_ok (ids_ok h id hid) h hn hx
/-- all rows' lines -/
def tableT (L : List RowM) : List UInt8 := (L.map fun r => lineT r ++ [10]).flatten
def rowZ' : RowM := rowZ
def rowAt (L : List RowM) (k : Nat) : RowM := L.getD k rowZ
theorem table_succ (L : List RowM) (k : Nat) (h : k < L.length) : tableT (L.take (k + 1)) = tableT (L.take k) ++ lineT (rowAt L k) ++ [10] := by
  have e : rowAt L k = L[k] := by simp [rowAt, List.getD, h]
  unfold tableT
  rw [List.take_succ_eq_append_getElem h, List.map_append, List.flatten_append, e]
  simp
theorem table_len (L : List RowM) (h : ∀ r ∈ L, RowOk r) : (tableT L).length ≤ L.length * 241 := by
  induction L with
  | nil => simp [tableT]
  | cons r L ih =>
    have h1 := ih (fun x hx => h x (by simp [hx]))
    have h2 := line_len r (h r (by simp))
    unfold tableT at h1 ⊢
    rw [List.map_cons, List.flatten_cons, List.length_append, List.length_cons, List.length_append, Nat.add_mul, List.length_cons, List.length_nil]
    omega
theorem row_cells {w : World} {M : Nat → Prop} {A : Option Addr} {L : List RowM} (hr : Rd w M A (flat encR L)) (k : Nat) (hk : k < L.length) : ∃ b o, A = some ⟨b, o, none⟩ ∧ ¬ M b ∧ b < w.heap.size ∧ ∀ j, j < 10 → w.cell? ⟨b, o + k * 10 + j, none⟩ = (encR (rowAt L k))[j]? := by
  have e : L[k]? = some (rowAt L k) := by simp [rowAt, List.getD, hk]
  exact flat_cells encR_len hr k _ e (by omega)
theorem cells_add (a b : List UInt8) : Lib.byteCells a ++ Lib.strCells (bs b) = Lib.byteCells (a ++ b) := by simp [Lib.byteCells, Lib.strCells]
theorem cells_one (a : List UInt8) : Lib.byteCells a ++ [.int .u8 10] = Lib.byteCells (a ++ [10]) := by simp [Lib.byteCells]
theorem cells_len (a : List UInt8) : (Lib.byteCells a).length = a.length := by simp [Lib.byteCells]
end Go.Proofs.YthnjebpbokmemaaDoor
