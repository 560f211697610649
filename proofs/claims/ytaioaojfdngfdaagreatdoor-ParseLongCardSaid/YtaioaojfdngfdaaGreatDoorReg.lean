/- A region that draws may be held by a stronger condition from some place on; the first line of a text. Conditions: those of each theorem. -/
import Derived.Test.YtaioaojfdngfdaaGreatDoorPb48
import Derived.BigRegion
namespace Go.Proofs.YtaioaojfdngfdaaGreatDoor
open Go.RowKit
set_option linter.unusedVariables false
set_option linter.unusedSimpArgs false
section
variable {P : Program} {ops : Array Oper} {Q : Exit → Act → World → Prop} {md : Region.Mode} {S S' : World → Prop}
/-- a condition that is stronger does as well: so facts that come up within a region may be held from there on -/
theorem wpAnyH_strong (hS : ∀ w, S' w → S w) : ∀ (fuel : Nat) (listed : Array Bool) (a : Act) (w : World), wpAnyH P md ops Q S' fuel listed a w → wpAnyH P md ops Q S fuel listed a w
  | 0, _, _, _, h => h
  | fuel + 1, _, _, _, h => ⟨h.1, fun i hi => wpOp_mono (fun a' w' h' => ⟨hS _ h'.1, wpAnyH_strong hS fuel _ a' w' h'.2⟩) (h.2 i hi)⟩
/-- the one operation that may come up now -/
theorem rdy (i : Nat) {oi : Oper} {fuel : Nat} {listed : Array Bool} {a : Act} {w : World} (ho : ops[i]? = some oi)
    (h : ∀ K' : Act → World → Prop, Shut (∀ a w, S w → (S w → wpAnyH P md ops Q S fuel (listed.setIfInBounds i true) a w) → K' a w) → if Region.wanted oi (yielded ops a.tmps) = true then Oper.wp P oi a w K' Q else K' (a.put oi.dst undef) w)
    (hr : Region.ready md ops listed = [i] := by kernel_rfl) : wpAnyH P md ops Q S (fuel + 1) listed a w :=
  wpAnyH_ready hr (by simp) (AllReadyH.cons ho h AllReadyH.nil)
end
theorem flat_ln_cells (l : List (List UInt8)) (j : Nat) (h : j < l.length) : (flat encLn l)[j]? = some (.string (bs (l.getD j []))) := by
  induction l generalizing j with
  | nil => simp at h
  | cons x l ih =>
    cases j with
    | zero => simp [flat, encLn]
    | succ j =>
      have := ih j (by simpa using h)
      simp [flat, encLn] at this ⊢
      simpa using this
theorem flat_ln_len (l : List (List UInt8)) : (flat encLn l).length = l.length := by
  induction l with
  | nil => rfl
  | cons x l ih => simp [flat, encLn] at ih ⊢; exact ih
/-- a line of a text, in memory -/
theorem line_cell {w : World} {base n c : Nat} {A : Option Addr} {L : List (List UInt8)} (h : w.ownsRow base 9 1 (.slice A n c) n (flat encLn L)) (j : Nat) (hj : j < L.length) :
    ∃ b o, A = some ⟨b, o, none⟩ ∧ b < w.heap.size ∧ ∀ j, j < L.length → w.cell? ⟨b, o + j, none⟩ = some (.string (bs (L.getD j []))) := by
  obtain ⟨b, o, hA, _, hb, hc⟩ := (Rd.of_own (M := NoBlk) h (fun _ h => h.elim)).at_ (j := j) (by rw [flat_ln_len]; exact hj)
  exact ⟨b, o, hA, hb, fun j hj => by rw [hc j (by rw [flat_ln_len]; exact hj), flat_ln_cells L j hj]⟩
end Go.Proofs.YtaioaojfdngfdaaGreatDoor
