/- How an answer was found, plain: the program's walk and the document's words tell the same. No program. Conditions: those of each theorem. -/
import Derived.Test.YtgfogoplmokilaaPw2
import Derived.Test.YtgfogoplmokilaaTells31
namespace Go.Proofs.Ytgfogoplmokilaa
set_option linter.unusedVariables false

def lastSum (l : List (Int × Int)) : Int := if 0 < l.length then (pcAt l (l.length - 1)).1 else 0
/-- an event is seen -/
def seeM (p : ProgM) (id : Int) (f : PwM) (x : Ev) : PwM :=
  if x.k = 1 then { f with round := f.round + 1 } else if x.id ≠ id then f
  else if x.k = 2 ∧ f.begun = false then { f with begun := true, from_ := nowM f }
  else if x.k = 4 ∧ f.begun = true then { f with came := f.came ++ [((x.s.size : Int) + lastSum f.came, nowM f)] }
  else if x.k = 8 ∧ f.begun = true then stepM p id f x.st else f
def pw0 : PwM := ⟨-1, false, 0, 0, 0, [], []⟩
def seenM (p : ProgM) (id : Int) (l : List Ev) : PwM := l.foldl (seeM p id) pw0
theorem seen_succ (p : ProgM) (id : Int) (l : List Ev) (k : Nat) (h : k < l.length) : seenM p id (l.take (k + 1)) = seeM p id (seenM p id (l.take k)) (evAt l k) := by
  have e : evAt l k = l[k] := by simp [evAt, List.getD, h]
  rw [List.take_succ_eq_append_getElem h, ← e]
  simp [seenM]
/-- how many rounds there are up to a place, less one, and 0 at least -/
def roundD (l : List Ev) (k : Nat) : Int := max (((clocksL (l.take (k + 1))).length : Int) - 1) 0
/-- the pieces that came from a place on -/
def cameD (id : Int) (l : List Ev) (from_ : Nat) : Nat → List (Int × Int)
  | 0 => []
  | k + 1 => cameD id l from_ k ++ (if from_ ≤ k ∧ (evAt l k).id = id ∧ (evAt l k).k = 4 then [(((evAt l k).s.size : Int) + lastSum (cameD id l from_ k), roundD l k)] else [])
/-- the document's walk -/
structure OneD where
  open_ : Int
  steps : Int
  gone : Int
  from_ : Int
  out : List LagM
def one0 : OneD := ⟨-1, 0, 0, 0, []⟩
def goneD (g n : Int) : Int := min (g + min (max n 0) 1000000000) 1000000000
def openD (id : Int) (l : List Ev) (i : Nat) (f : OneD) : OneD := if f.open_ < 0 ∧ (evAt l i).k = 2 then { f with open_ := i, from_ := roundD l i } else f
def matchD (id : Int) (l : List Ev) (i : Nat) (f : OneD) : OneD :=
  if (evAt l i).st.what = 2 then { f with gone := goneD f.gone (evAt l i).st.n, out := f.out ++ [⟨id, f.steps, goneD f.gone (evAt l i).st.n, readM (cameD id l f.open_.toNat i) (goneD f.gone (evAt l i).st.n), f.from_, roundD l i⟩] } else f
def fromD (p : ProgM) (l : List Ev) (i : Nat) (f : OneD) : OneD := { f with from_ := if 0 ≤ NextM p (evAt l i).st then roundD l i else f.from_, steps := f.steps + 1 }
def oneStep (p : ProgM) (id : Int) (l : List Ev) (i : Nat) (f : OneD) : OneD :=
  if (evAt l i).id ≠ id then f else if (openD id l i f).open_ < 0 ∨ (evAt l i).k ≠ 8 then openD id l i f else fromD p l i (matchD id l i (openD id l i f))
def oneD (p : ProgM) (id : Int) (l : List Ev) : Nat → OneD
  | 0 => one0
  | i + 1 => oneStep p id l i (oneD p id l i)
/-- the two walks at a place -/
structure PwInv (id : Int) (l : List Ev) (i : Nat) (f : PwM) (d : OneD) : Prop where
  round : f.round = ((clocksL (l.take i)).length : Int) - 1
  begun : f.begun = decide (0 ≤ d.open_)
  lt : d.open_ < i
  ge : -1 ≤ d.open_
  steps : f.steps = d.steps
  gone : f.gone = d.gone
  gn : 0 ≤ d.gone
  from_ : f.from_ = d.from_
  out : f.out = d.out
  came : f.begun = true → f.came = cameD id l d.open_.toNat i
  came0 : f.begun = false → f.came = []
theorem came_low (id : Int) (l : List Ev) (from_ : Nat) : ∀ k, k ≤ from_ → cameD id l from_ k = []
  | 0, _ => rfl
  | k + 1, h => by
    simp only [cameD]
    rw [came_low id l from_ k (by omega), if_neg (by omega)]
    rfl
theorem cnt_of (l : List Ev) (i : Nat) (hi : i < l.length) : (clocksL (l.take (i + 1))).length = (clocksL (l.take i)).length + (if (evAt l i).k = 1 then 1 else 0) := by
  rw [clocks_succ l i hi]
  split <;> simp
theorem pw_inv (p : ProgM) (id : Int) (l : List Ev) : ∀ i, i ≤ l.length → PwInv id l i (seenM p id (l.take i)) (oneD p id l i) := by
  intro i
  induction i with
  | zero => intro _; exact ⟨by simp [seenM, pw0, clocksL], rfl, by simp [oneD, one0], by simp [oneD, one0], rfl, rfl, by simp [oneD, one0], rfl, rfl, fun h => by simp [seenM, pw0] at h, fun _ => rfl⟩
  | succ i ih =>
    intro hi
    have hlt : i < l.length := by omega
    have h := ih (by omega)
    rw [seen_succ p id l i hlt]
    show PwInv id l (i + 1) _ (oneStep p id l i (oneD p id l i))
    obtain ⟨f, hf⟩ : ∃ f, f = seenM p id (l.take i) := ⟨_, rfl⟩
    obtain ⟨d, hd⟩ : ∃ d, d = oneD p id l i := ⟨_, rfl⟩
    rw [← hf, ← hd] at h ⊢
    clear hf hd ih
    have hc := cnt_of l i hlt
    have hcs : ∀ o, cameD id l o (i + 1) = cameD id l o i ++ (if o ≤ i ∧ (evAt l i).id = id ∧ (evAt l i).k = 4 then [(((evAt l i).s.size : Int) + lastSum (cameD id l o i), roundD l i)] else []) := fun o => rfl
    have hop := h.begun
    by_cases k1 : (evAt l i).k = 1
    · have e1 : seeM p id f (evAt l i) = { f with round := f.round + 1 } := by unfold seeM; rw [if_pos k1]
      have e2 : oneStep p id l i d = d := by
        have eo : openD id l i d = d := by unfold openD; rw [if_neg (by omega)]
        unfold oneStep
        rw [eo]
        split
        · rfl
        · rw [if_pos (Or.inr (by omega))]
      rw [e1, e2]
      rw [if_pos k1] at hc
      refine ⟨by simp only; rw [h.round, hc]; omega, h.begun, by have := h.lt; omega, h.ge, h.steps, h.gone, h.gn, h.from_, h.out, fun hb => ?_, h.came0⟩
      rw [hcs, if_neg (by omega), List.append_nil]
      exact h.came hb
    replace hc : (clocksL (l.take (i + 1))).length = (clocksL (l.take i)).length := by rw [hc, if_neg k1]; rfl
    have hnow : nowM f = roundD l i := by
      unfold nowM roundD
      rw [h.round, hc]
    by_cases kid : (evAt l i).id = id
    · by_cases k2 : (evAt l i).k = 2
      · by_cases hb : f.begun = false
        · have ho : d.open_ < 0 := by
            rw [hb] at hop
            have := of_decide_eq_false hop.symm
            omega
          have e1 : seeM p id f (evAt l i) = { f with begun := true, from_ := nowM f } := by unfold seeM; rw [if_neg k1, if_neg (by simp [kid]), if_pos ⟨k2, hb⟩]
          have eo : openD id l i d = { d with open_ := i, from_ := roundD l i } := by unfold openD; rw [if_pos ⟨ho, k2⟩]
          have e2 : oneStep p id l i d = { d with open_ := i, from_ := roundD l i } := by
            unfold oneStep
            rw [if_neg (by simp [kid]), if_pos (Or.inr (by omega)), eo]
          rw [e1, e2]
          refine ⟨by simp only; rw [h.round, hc], by simp, by simp only; omega, by simp only; omega, h.steps, h.gone, h.gn, hnow, h.out, fun _ => ?_, fun hx => by simp at hx⟩
          simp only [Int.toNat_natCast]
          rw [h.came0 hb, hcs, if_neg (by omega), List.append_nil, came_low id l i i (Nat.le_refl _)]
        · have hb' : f.begun = true := by simpa using hb
          have ho : ¬ d.open_ < 0 := by
            rw [hb'] at hop
            have := of_decide_eq_true hop.symm
            omega
          have e1 : seeM p id f (evAt l i) = f := by unfold seeM; rw [if_neg k1, if_neg (by simp [kid]), if_neg (by simp [hb']), if_neg (by omega), if_neg (by omega)]
          have eo : openD id l i d = d := by unfold openD; rw [if_neg (by omega)]
          have e2 : oneStep p id l i d = d := by
            unfold oneStep
            rw [if_neg (by simp [kid]), if_pos (Or.inr (by omega)), eo]
          rw [e1, e2]
          refine ⟨by rw [h.round, hc], h.begun, by have := h.lt; omega, h.ge, h.steps, h.gone, h.gn, h.from_, h.out, fun hb => ?_, h.came0⟩
          rw [hcs, if_neg (by omega), List.append_nil]
          exact h.came hb
      · have eo : openD id l i d = d := by unfold openD; rw [if_neg (by omega)]
        by_cases k4 : (evAt l i).k = 4
        · have e2 : oneStep p id l i d = d := by
            unfold oneStep
            rw [if_neg (by simp [kid]), if_pos (Or.inr (by omega)), eo]
          rw [e2]
          by_cases hb : f.begun = true
          · have ho : 0 ≤ d.open_ := by
              rw [hb] at hop
              exact of_decide_eq_true hop.symm
            have e1 : seeM p id f (evAt l i) = { f with came := f.came ++ [(((evAt l i).s.size : Int) + lastSum f.came, nowM f)] } := by unfold seeM; rw [if_neg k1, if_neg (by simp [kid]), if_neg (by omega), if_pos ⟨k4, hb⟩]
            rw [e1]
            refine ⟨by simp only; rw [h.round, hc], h.begun, by have := h.lt; omega, h.ge, h.steps, h.gone, h.gn, h.from_, h.out, fun _ => ?_, fun hx => by simp [hb] at hx⟩
            simp only
            rw [hcs, if_pos ⟨by have := h.lt; omega, kid, k4⟩, ← h.came hb, hnow]
          · have hb' : f.begun = false := by simpa using hb
            have e1 : seeM p id f (evAt l i) = f := by unfold seeM; rw [if_neg k1, if_neg (by simp [kid]), if_neg (by omega), if_neg (by simp [hb']), if_neg (by omega)]
            rw [e1]
            refine ⟨by rw [h.round, hc], h.begun, by have := h.lt; omega, h.ge, h.steps, h.gone, h.gn, h.from_, h.out, fun hx => absurd (hb'.symm.trans hx) (by simp), h.came0⟩
        · by_cases k8 : (evAt l i).k = 8
          · by_cases hb : f.begun = true
            · have ho : 0 ≤ d.open_ := by
                rw [hb] at hop
                exact of_decide_eq_true hop.symm
              have e1 : seeM p id f (evAt l i) = stepM p id f (evAt l i).st := by unfold seeM; rw [if_neg k1, if_neg (by simp [kid]), if_neg (by omega), if_neg (by omega), if_pos ⟨k8, hb⟩]
              have e2 : oneStep p id l i d = fromD p l i (matchD id l i d) := by
                unfold oneStep
                rw [if_neg (by simp [kid]), eo, if_neg (by omega)]
              have hcm := h.came hb
              have hcn : cameD id l d.open_.toNat (i + 1) = cameD id l d.open_.toNat i := by rw [hcs, if_neg (by omega), List.append_nil]
              rw [e1, e2]
              unfold stepM fromD matchM matchD
              by_cases hw : (evAt l i).st.what = 2
              · rw [if_pos hw, if_pos hw]
                have hg : goneM f (evAt l i).st.n = goneD d.gone (evAt l i).st.n := by unfold goneM goneD; rw [h.gone]
                have hl : lagOf id f (evAt l i).st.n = ⟨id, d.steps, goneD d.gone (evAt l i).st.n, readM (cameD id l d.open_.toNat i) (goneD d.gone (evAt l i).st.n), d.from_, roundD l i⟩ := by
                  unfold lagOf
                  rw [hg, h.steps, h.from_, hnow, hcm]
                refine ⟨by simp only; rw [h.round, hc], h.begun, by simp only; have := h.lt; omega, h.ge, by simp only; rw [h.steps], hg, ?_, ?_, by simp only; rw [h.out, hl], fun _ => by simp only; rw [hcn]; exact hcm, fun hx => by simp [hb] at hx⟩
                · simp only
                  have := h.gn
                  unfold goneD
                  omega
                · simp only
                  have : nowM { f with gone := goneM f (evAt l i).st.n, out := f.out ++ [lagOf id f (evAt l i).st.n] } = roundD l i := hnow
                  rw [this, h.from_]
              · rw [if_neg hw, if_neg hw]
                refine ⟨by simp only; rw [h.round, hc], h.begun, by simp only; have := h.lt; omega, h.ge, by simp only; rw [h.steps], h.gone, h.gn, by simp only; rw [hnow, h.from_], h.out, fun _ => by simp only; rw [hcn]; exact hcm, fun hx => by simp [hb] at hx⟩
            · have hb' : f.begun = false := by simpa using hb
              have ho : d.open_ < 0 := by
                rw [hb'] at hop
                have := of_decide_eq_false hop.symm
                omega
              have e1 : seeM p id f (evAt l i) = f := by unfold seeM; rw [if_neg k1, if_neg (by simp [kid]), if_neg (by omega), if_neg (by omega), if_neg (by simp [hb'])]
              have e2 : oneStep p id l i d = d := by
                unfold oneStep
                rw [if_neg (by simp [kid]), eo, if_pos (Or.inl ho)]
              rw [e1, e2]
              refine ⟨by rw [h.round, hc], h.begun, by have := h.lt; omega, h.ge, h.steps, h.gone, h.gn, h.from_, h.out, fun hx => absurd (hb'.symm.trans hx) (by simp), h.came0⟩
          · have e1 : seeM p id f (evAt l i) = f := by unfold seeM; rw [if_neg k1, if_neg (by simp [kid]), if_neg (by omega), if_neg (by omega), if_neg (by omega)]
            have e2 : oneStep p id l i d = d := by
              unfold oneStep
              rw [if_neg (by simp [kid]), if_pos (Or.inr (by omega)), eo]
            rw [e1, e2]
            refine ⟨by rw [h.round, hc], h.begun, by have := h.lt; omega, h.ge, h.steps, h.gone, h.gn, h.from_, h.out, fun hb => ?_, h.came0⟩
            rw [hcs, if_neg (by omega), List.append_nil]
            exact h.came hb
    · have e1 : seeM p id f (evAt l i) = f := by unfold seeM; rw [if_neg k1, if_pos kid]
      have e2 : oneStep p id l i d = d := by unfold oneStep; rw [if_pos kid]
      rw [e1, e2]
      refine ⟨by rw [h.round, hc], h.begun, by have := h.lt; omega, h.ge, h.steps, h.gone, h.gn, h.from_, h.out, fun hb => ?_, h.came0⟩
      rw [hcs, if_neg (by omega), List.append_nil]
      exact h.came hb
/-- one's matches -/
def lagsM (p : ProgM) (id : Int) (l : List Ev) : List LagM := (seenM p id l).out
theorem lags_eq (p : ProgM) (id : Int) (l : List Ev) : lagsM p id l = (oneD p id l l.length).out := by
  have := (pw_inv p id l l.length (Nat.le_refl _)).out
  rw [List.take_length] at this
  exact this
/-- how many rounds it took -/
def roundsM (x : LagM) : Int := if x.id < 0 ∨ x.step < 0 ∨ x.gone < 0 ∨ x.read < 0 ∨ x.from_ < 0 ∨ x.match_ < 0 then 0 else max (x.match_ - max x.read x.from_) 0
theorem rounds_nn (x : LagM) : 0 ≤ roundsM x := by unfold roundsM; split <;> omega
end Go.Proofs.Ytgfogoplmokilaa
