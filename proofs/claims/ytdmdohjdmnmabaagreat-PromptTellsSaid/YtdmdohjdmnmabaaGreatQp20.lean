/- Parts of a chain of lemmas: PromptP, PrD. Conditions: those of each theorem. -/
import Derived.Test.YtdmdohjdmnmabaaGreatQp17
import Derived.Test.YtdmdohjdmnmabaaGreatQp19
namespace Go.Proofs.YtdmdohjdmnmabaaGreat
set_option linter.unusedVariables false

def lastSum (l : List (Int × Int)) : Int := if 0 < l.length then (pcAt l (l.length - 1)).1 else 0
/-- an event is seen -/
def seeM (p : ProgM) (id : Int) (f : PwM) (x : Ev) : PwM :=
  if x.k = 1 then { f with round := f.round + 1 } else if x.id ≠ id then f
  else if x.k = 2 ∧ f.begun = false then { f with begun := true, from_ := nowM f }
  else if x.k = 4 ∧ f.begun = true then { f with came := f.came ++ [((x.s.size : Int) + lastSum f.came, nowM f)] }
  else if x.k = 8 ∧ f.begun = true then stepM p id f x.st else f
def pw0 : PwM := ⟨-1, false, 0, 0, 0, [], []⟩
def seenM (p : ProgM) (id : Int) (l : List Ev) : PwM := l.foldl (seeM p id) pw0
theorem seen_succ (p : ProgM) (id : Int) (l : List Ev) (k : Nat) (h : k < l.length) : seenM p id (l.take (k + 1)) = seeM p id (seenM p id (l.take k)) (evAt l k) := by
  have e : evAt l k = l[k] := by simp [evAt, List.getD, h]
  rw [List.take_succ_eq_append_getElem h, ← e]
  simp [seenM]
/-- how many rounds there are up to a place, less one, and 0 at least -/
def roundD (l : List Ev) (k : Nat) : Int := max (((clocksL (l.take (k + 1))).length : Int) - 1) 0
/-- the pieces that came from a place on -/
def cameD (id : Int) (l : List Ev) (from_ : Nat) : Nat → List (Int × Int)
  | 0 => []
  | k + 1 => cameD id l from_ k ++ (if from_ ≤ k ∧ (evAt l k).id = id ∧ (evAt l k).k = 4 then [(((evAt l k).s.size : Int) + lastSum (cameD id l from_ k), roundD l k)] else [])
/-- the document's walk -/
structure OneD where
  open_ : Int
  steps : Int
  gone : Int
  from_ : Int
  out : List LagM
def one0 : OneD := ⟨-1, 0, 0, 0, []⟩
def goneD (g n : Int) : Int := min (g + min (max n 0) 1000000000) 1000000000
def openD (id : Int) (l : List Ev) (i : Nat) (f : OneD) : OneD := if f.open_ < 0 ∧ (evAt l i).k = 2 then { f with open_ := i, from_ := roundD l i } else f
def matchD (id : Int) (l : List Ev) (i : Nat) (f : OneD) : OneD :=
  if (evAt l i).st.what = 2 then { f with gone := goneD f.gone (evAt l i).st.n, out := f.out ++ [⟨id, f.steps, goneD f.gone (evAt l i).st.n, readM (cameD id l f.open_.toNat i) (goneD f.gone (evAt l i).st.n), f.from_, roundD l i⟩] } else f
def fromD (p : ProgM) (l : List Ev) (i : Nat) (f : OneD) : OneD := { f with from_ := if 0 ≤ NextM p (evAt l i).st then roundD l i else f.from_, steps := f.steps + 1 }
def oneStep (p : ProgM) (id : Int) (l : List Ev) (i : Nat) (f : OneD) : OneD :=
  if (evAt l i).id ≠ id then f else if (openD id l i f).open_ < 0 ∨ (evAt l i).k ≠ 8 then openD id l i f else fromD p l i (matchD id l i (openD id l i f))
def oneD (p : ProgM) (id : Int) (l : List Ev) : Nat → OneD
  | 0 => one0
  | i + 1 => oneStep p id l i (oneD p id l i)
/-- the two walks at a place -/
structure PwInv (id : Int) (l : List Ev) (i : Nat) (f : PwM) (d : OneD) : Prop where
  round : f.round = ((clocksL (l.take i)).length : Int) - 1
  begun : f.begun = decide (0 ≤ d.open_)
  lt : d.open_ < i
  ge : -1 ≤ d.open_
  steps : f.steps = d.steps
  gone : f.gone = d.gone
  gn : 0 ≤ d.gone
  from_ : f.from_ = d.from_
  out : f.out = d.out
  came : f.begun = true → f.came = cameD id l d.open_.toNat i
  came0 : f.begun = false → f.came = []
theorem came_low (id : Int) (l : List Ev) (from_ : Nat) : ∀ k, k ≤ from_ → cameD id l from_ k = []
  | 0, _ => rfl
  | k + 1, h => by
    simp only [cameD]
    rw [came_low id l from_ k (by omega), if_neg (by omega)]
    rfl
theorem cnt_of (l : List Ev) (i : Nat) (hi : i < l.length) : (clocksL (l.take (i + 1))).length = (clocksL (l.take i)).length + (if (evAt l i).k = 1 then 1 else 0) := by
  rw [clocks_succ l i hi]
  split <;> simp
theorem pw_inv (p : ProgM) (id : Int) (l : List Ev) : ∀ i, i ≤ l.length → PwInv id l i (seenM p id (l.take i)) (oneD p id l i) := by
  intro i
  induction i with
  | zero => intro _; exact ⟨by simp [seenM, pw0, clocksL], rfl, by simp [oneD, one0], by simp [oneD, one0], rfl, rfl, by simp [oneD, one0], rfl, rfl, fun h => by simp [seenM, pw0] at h, fun _ => rfl⟩
  | succ i ih =>
    intro hi
    have hlt : i < l.length := by omega
    have h := ih (by omega)
    rw [seen_succ p id l i hlt]
    show PwInv id l (i + 1) _ (oneStep p id l i (oneD p id l i))
    obtain ⟨f, hf⟩ : ∃ f, f = seenM p id (l.take i) := ⟨_, rfl⟩
    obtain ⟨d, hd⟩ : ∃ d, d = oneD p id l i := ⟨_, rfl⟩
    rw [← hf, ← hd] at h ⊢
    clear hf hd ih
    have hc := cnt_of l i hlt
    have hcs : ∀ o, cameD id l o (i + 1) = cameD id l o i ++ (if o ≤ i ∧ (evAt l i).id = id ∧ (evAt l i).k = 4 then [(((evAt l i).s.size : Int) + lastSum (cameD id l o i), roundD l i)] else []) := fun o => rfl
    have hop := h.begun
    by_cases k1 : (evAt l i).k = 1
    · have e1 : seeM p id f (evAt l i) = { f with round := f.round + 1 } := by unfold seeM; rw [if_pos k1]
      have e2 : oneStep p id l i d = d := by
        have eo : openD id l i d = d := by unfold openD; rw [if_neg (by omega)]
        unfold oneStep
        rw [eo]
        split
        · rfl
        · rw [if_pos (Or.inr (by omega))]
      rw [e1, e2]
      rw [if_pos k1] at hc
      refine ⟨by simp only; rw [h.round, hc]; omega, h.begun, by have := h.lt; omega, h.ge, h.steps, h.gone, h.gn, h.from_, h.out, fun hb => ?_, h.came0⟩
      rw [hcs, if_neg (by omega), List.append_nil]
      exact h.came hb
    replace hc : (clocksL (l.take (i + 1))).length = (clocksL (l.take i)).length := by rw [hc, if_neg k1]; rfl
    have hnow : nowM f = roundD l i := by
      unfold nowM roundD
      rw [h.round, hc]
    by_cases kid : (evAt l i).id = id
    · by_cases k2 : (evAt l i).k = 2
      · by_cases hb : f.begun = false
        · have ho : d.open_ < 0 := by
            rw [hb] at hop
            have := of_decide_eq_false hop.symm
            omega
          have e1 : seeM p id f (evAt l i) = { f with begun := true, from_ := nowM f } := by unfold seeM; rw [if_neg k1, if_neg (by simp [kid]), if_pos ⟨k2, hb⟩]
          have eo : openD id l i d = { d with open_ := i, from_ := roundD l i } := by unfold openD; rw [if_pos ⟨ho, k2⟩]
          have e2 : oneStep p id l i d = { d with open_ := i, from_ := roundD l i } := by
            unfold oneStep
            rw [if_neg (by simp [kid]), if_pos (Or.inr (by omega)), eo]
          rw [e1, e2]
          refine ⟨by simp only; rw [h.round, hc], by simp, by simp only; omega, by simp only; omega, h.steps, h.gone, h.gn, hnow, h.out, fun _ => ?_, fun hx => by simp at hx⟩
          simp only [Int.toNat_natCast]
          rw [h.came0 hb, hcs, if_neg (by omega), List.append_nil, came_low id l i i (Nat.le_refl _)]
        · have hb' : f.begun = true := by simpa using hb
          have ho : ¬ d.open_ < 0 := by
            rw [hb'] at hop
            have := of_decide_eq_true hop.symm
            omega
          have e1 : seeM p id f (evAt l i) = f := by unfold seeM; rw [if_neg k1, if_neg (by simp [kid]), if_neg (by simp [hb']), if_neg (by omega), if_neg (by omega)]
          have eo : openD id l i d = d := by unfold openD; rw [if_neg (by omega)]
          have e2 : oneStep p id l i d = d := by
            unfold oneStep
            rw [if_neg (by simp [kid]), if_pos (Or.inr (by omega)), eo]
          rw [e1, e2]
          refine ⟨by rw [h.round, hc], h.begun, by have := h.lt; omega, h.ge, h.steps, h.gone, h.gn, h.from_, h.out, fun hb => ?_, h.came0⟩
          rw [hcs, if_neg (by omega), List.append_nil]
          exact h.came hb
      · have eo : openD id l i d = d := by unfold openD; rw [if_neg (by omega)]
        by_cases k4 : (evAt l i).k = 4
        · have e2 : oneStep p id l i d = d := by
            unfold oneStep
            rw [if_neg (by simp [kid]), if_pos (Or.inr (by omega)), eo]
          rw [e2]
          by_cases hb : f.begun = true
          · have ho : 0 ≤ d.open_ := by
              rw [hb] at hop
              exact of_decide_eq_true hop.symm
            have e1 : seeM p id f (evAt l i) = { f with came := f.came ++ [(((evAt l i).s.size : Int) + lastSum f.came, nowM f)] } := by unfold seeM; rw [if_neg k1, if_neg (by simp [kid]), if_neg (by omega), if_pos ⟨k4, hb⟩]
            rw [e1]
            refine ⟨by simp only; rw [h.round, hc], h.begun, by have := h.lt; omega, h.ge, h.steps, h.gone, h.gn, h.from_, h.out, fun _ => ?_, fun hx => by simp [hb] at hx⟩
            simp only
            rw [hcs, if_pos ⟨by have := h.lt; omega, kid, k4⟩, ← h.came hb, hnow]
          · have hb' : f.begun = false := by simpa using hb
            have e1 : seeM p id f (evAt l i) = f := by unfold seeM; rw [if_neg k1, if_neg (by simp [kid]), if_neg (by omega), if_neg (by simp [hb']), if_neg (by omega)]
            rw [e1]
            refine ⟨by rw [h.round, hc], h.begun, by have := h.lt; omega, h.ge, h.steps, h.gone, h.gn, h.from_, h.out, fun hx => absurd (hb'.symm.trans hx) (by simp), h.came0⟩
        · by_cases k8 : (evAt l i).k = 8
          · by_cases hb : f.begun = true
            · have ho : 0 ≤ d.open_ := by
                rw [hb] at hop
                exact of_decide_eq_true hop.symm
              have e1 : seeM p id f (evAt l i) = stepM p id f (evAt l i).st := by unfold seeM; rw [if_neg k1, if_neg (by simp [kid]), if_neg (by omega), if_neg (by omega), if_pos ⟨k8, hb⟩]
              have e2 : oneStep p id l i d = fromD p l i (matchD id l i d) := by
                unfold oneStep
                rw [if_neg (by simp [kid]), eo, if_neg (by omega)]
              have hcm := h.came hb
              have hcn : cameD id l d.open_.toNat (i + 1) = cameD id l d.open_.toNat i := by rw [hcs, if_neg (by omega), List.append_nil]
              rw [e1, e2]
              unfold stepM fromD matchM matchD
              by_cases hw : (evAt l i).st.what = 2
              · rw [if_pos hw, if_pos hw]
                have hg : goneM f (evAt l i).st.n = goneD d.gone (evAt l i).st.n := by unfold goneM goneD; rw [h.gone]
                have hl : lagOf id f (evAt l i).st.n = ⟨id, d.steps, goneD d.gone (evAt l i).st.n, readM (cameD id l d.open_.toNat i) (goneD d.gone (evAt l i).st.n), d.from_, roundD l i⟩ := by
                  unfold lagOf
                  rw [hg, h.steps, h.from_, hnow, hcm]
                refine ⟨by simp only; rw [h.round, hc], h.begun, by simp only; have := h.lt; omega, h.ge, by simp only; rw [h.steps], hg, ?_, ?_, by simp only; rw [h.out, hl], fun _ => by simp only; rw [hcn]; exact hcm, fun hx => by simp [hb] at hx⟩
                · simp only
                  have := h.gn
                  unfold goneD
                  omega
                · simp only
                  have : nowM { f with gone := goneM f (evAt l i).st.n, out := f.out ++ [lagOf id f (evAt l i).st.n] } = roundD l i := hnow
                  rw [this, h.from_]
              · rw [if_neg hw, if_neg hw]
                refine ⟨by simp only; rw [h.round, hc], h.begun, by simp only; have := h.lt; omega, h.ge, by simp only; rw [h.steps], h.gone, h.gn, by simp only; rw [hnow, h.from_], h.out, fun _ => by simp only; rw [hcn]; exact hcm, fun hx => by simp [hb] at hx⟩
            · have hb' : f.begun = false := by simpa using hb
              have ho : d.open_ < 0 := by
                rw [hb'] at hop
                have := of_decide_eq_false hop.symm
                omega
              have e1 : seeM p id f (evAt l i) = f := by unfold seeM; rw [if_neg k1, if_neg (by simp [kid]), if_neg (by omega), if_neg (by omega), if_neg (by simp [hb'])]
              have e2 : oneStep p id l i d = d := by
                unfold oneStep
                rw [if_neg (by simp [kid]), eo, if_pos (Or.inl ho)]
              rw [e1, e2]
              refine ⟨by rw [h.round, hc], h.begun, by have := h.lt; omega, h.ge, h.steps, h.gone, h.gn, h.from_, h.out, fun hx => absurd (hb'.symm.trans hx) (by simp), h.came0⟩
          · have e1 : seeM p id f (evAt l i) = f := by unfold seeM; rw [if_neg k1, if_neg (by simp [kid]), if_neg (by omega), if_neg (by omega), if_neg (by omega)]
            have e2 : oneStep p id l i d = d := by
              unfold oneStep
              rw [if_neg (by simp [kid]), if_pos (Or.inr (by omega)), eo]
            rw [e1, e2]
            refine ⟨by rw [h.round, hc], h.begun, by have := h.lt; omega, h.ge, h.steps, h.gone, h.gn, h.from_, h.out, fun hb => ?_, h.came0⟩
            rw [hcs, if_neg (by omega), List.append_nil]
            exact h.came hb
    · have e1 : seeM p id f (evAt l i) = f := by unfold seeM; rw [if_neg k1, if_pos kid]
      have e2 : oneStep p id l i d = d := by unfold oneStep; rw [if_pos kid]
      rw [e1, e2]
      refine ⟨by rw [h.round, hc], h.begun, by have := h.lt; omega, h.ge, h.steps, h.gone, h.gn, h.from_, h.out, fun hb => ?_, h.came0⟩
      rw [hcs, if_neg (by omega), List.append_nil]
      exact h.came hb
/-- one's matches -/
def lagsM (p : ProgM) (id : Int) (l : List Ev) : List LagM := (seenM p id l).out
theorem lags_eq (p : ProgM) (id : Int) (l : List Ev) : lagsM p id l = (oneD p id l l.length).out := by
  have := (pw_inv p id l l.length (Nat.le_refl _)).out
  rw [List.take_length] at this
  exact this
/-- how many rounds it took -/
def roundsM (x : LagM) : Int := if x.id < 0 ∨ x.step < 0 ∨ x.gone < 0 ∨ x.read < 0 ∨ x.from_ < 0 ∨ x.match_ < 0 then 0 else max (x.match_ - max x.read x.from_) 0
theorem rounds_nn (x : LagM) : 0 ≤ roundsM x := by unfold roundsM; split <;> omega
end Go.Proofs.YtdmdohjdmnmabaaGreat
namespace Go.Proofs.YtdmdohjdmnmabaaGreat
set_option linter.unusedVariables false

theorem lastSum_app (L : List (Int × Int)) (x : Int × Int) : lastSum (L ++ [x]) = x.1 := by
  unfold lastSum
  rw [if_pos (by simp)]
  simp [pcAt, List.getD]
def hitD (id : Int) (l : List Ev) (k : Nat) : Bool := decide ((evAt l k).id = id) && decide ((evAt l k).k = 4)
theorem came_hit {id : Int} {l : List Ev} {o k : Nat} (h : hitD id l k = true) (ho : o ≤ k) : cameD id l o (k + 1) = cameD id l o k ++ [(((evAt l k).s.size : Int) + lastSum (cameD id l o k), roundD l k)] := by
  unfold hitD at h
  simp only [Bool.and_eq_true, decide_eq_true_eq] at h
  show cameD id l o k ++ _ = _
  rw [if_pos ⟨ho, h.1, h.2⟩]
theorem came_miss {id : Int} {l : List Ev} {o k : Nat} (h : hitD id l k = false) : cameD id l o (k + 1) = cameD id l o k := by
  unfold hitD at h
  simp only [Bool.and_eq_false_imp, decide_eq_true_eq, decide_eq_false_iff_not] at h
  show cameD id l o k ++ _ = _
  rw [if_neg (fun hx => h hx.2.1 hx.2.2), List.append_nil]
theorem came_pre (id : Int) (l : List Ev) (o : Nat) : ∀ m k, k ≤ m → ∃ r, cameD id l o m = cameD id l o k ++ r := by
  intro m
  induction m with
  | zero => intro k hk; obtain rfl : k = 0 := by omega
            exact ⟨[], rfl⟩
  | succ m ih =>
    intro k hk
    by_cases hkm : k = m + 1
    · subst hkm; exact ⟨[], by simp⟩
    · obtain ⟨r, hr⟩ := ih k (by omega)
      refine ⟨r ++ (if o ≤ m ∧ (evAt l m).id = id ∧ (evAt l m).k = 4 then [(((evAt l m).s.size : Int) + lastSum (cameD id l o m), roundD l m)] else []), ?_⟩
      show cameD id l o m ++ _ = _
      rw [hr, List.append_assoc]
theorem readM_hit {pre rest : List (Int × Int)} {x : Int × Int} {n : Int} (hn : 0 < n) (h : ∀ y ∈ pre, decide (n ≤ y.1) = false) (hx : n ≤ x.1) : readM (pre ++ x :: rest) n = x.2 := by
  have e : pcAt (pre ++ x :: rest) pre.length = x := by simp [pcAt, List.getD]
  have hi : idxC n (pre ++ x :: rest) = (pre.length : Nat) := idxC_at n _ pre.length (by simp) (by intro y hy; rw [List.take_left] at hy; exact h y hy) (by rw [e]; simp [hx])
  unfold readM
  rw [if_neg (by omega), hi, if_neg (by omega), Int.toNat_natCast, e]
theorem readM_none {l : List (Int × Int)} {n : Int} (hn : 0 < n) (h : ∀ y ∈ l, decide (n ≤ y.1) = false) : readM l n = -1 := by
  unfold readM
  rw [if_neg (by omega), idxC_none n l h, if_pos (by omega)]
theorem roundD_cnt (l : List Ev) (k : Nat) : roundD l k = if ((clocksL (l.take (k + 1))).length : Int) = 0 then 0 else ((clocksL (l.take (k + 1))).length : Int) - 1 := by
  unfold roundD
  split <;> omega
theorem cnt_le (l : List Ev) : (clocksL l).length ≤ l.length := by
  unfold clocksL
  rw [List.length_map]
  exact List.length_filter_le _ _
theorem roundD_le (l : List Ev) (k : Nat) : 0 ≤ roundD l k ∧ roundD l k ≤ l.length := by
  have h1 := cnt_le (l.take (k + 1))
  have h2 := List.length_take_le (k + 1) l
  have h3 : (l.take (k + 1)).length ≤ l.length := by rw [List.length_take]; omega
  unfold roundD
  omega
/-- the document's walk is small -/
structure OneSm (d : OneD) (k : Nat) (n : Nat) : Prop where
  o0 : -1 ≤ d.open_
  o1 : d.open_ < k
  s0 : 0 ≤ d.steps
  s1 : d.steps ≤ k
  g0 : 0 ≤ d.gone
  g1 : d.gone ≤ 1000000000
  f0 : 0 ≤ d.from_
  f1 : d.from_ ≤ n
  ol : d.out.length ≤ k
theorem goneD_bd {g n : Int} (h : 0 ≤ g) : 0 ≤ goneD g n ∧ goneD g n ≤ 1000000000 := by unfold goneD; omega
theorem one_sm (p : ProgM) (id : Int) (l : List Ev) : ∀ k, OneSm (oneD p id l k) k l.length := by
  intro k
  induction k with
  | zero => exact ⟨by simp [oneD, one0], by simp [oneD, one0], by simp [oneD, one0], by simp [oneD, one0], by simp [oneD, one0], by simp [oneD, one0], by simp [oneD, one0], by simp [oneD, one0], by simp [oneD, one0]⟩
  | succ k ih =>
    show OneSm (oneStep p id l k (oneD p id l k)) (k + 1) l.length
    obtain ⟨d, hd⟩ : ∃ d, d = oneD p id l k := ⟨_, rfl⟩
    rw [← hd] at ih ⊢
    clear hd
    have hrd := roundD_le l k
    have hop : OneSm (openD id l k d) (k + 1) l.length := by
      obtain ⟨o0, o1, s0, s1, g0, g1, f0, f1, ol⟩ := ih
      unfold openD
      split
      · exact ⟨by simp only; omega, by simp only; omega, s0, by simp only; omega, g0, g1, hrd.1, hrd.2, by simp only; omega⟩
      · exact ⟨o0, by omega, s0, by omega, g0, g1, f0, f1, by omega⟩
    unfold oneStep
    split
    · obtain ⟨o0, o1, s0, s1, g0, g1, f0, f1, ol⟩ := ih
      exact ⟨o0, by omega, s0, by omega, g0, g1, f0, f1, by omega⟩
    · split
      · exact hop
      · have hs1 : (openD id l k d).steps ≤ k := by unfold openD; split <;> exact ih.s1
        have hol : (openD id l k d).out.length ≤ k := by unfold openD; split <;> exact ih.ol
        obtain ⟨e, he⟩ : ∃ e, e = openD id l k d := ⟨_, rfl⟩
        rw [← he] at hop hs1 hol ⊢
        obtain ⟨o0, o1, s0, s1, g0, g1, f0, f1, ol⟩ := hop
        unfold fromD matchD
        have hg := goneD_bd (n := (evAt l k).st.n) g0
        split
        · refine ⟨o0, o1, by simp only; omega, by simp only; omega, hg.1, hg.2, ?_, ?_, by simp; omega⟩
          · simp only; split <;> omega
          · simp only; split <;> omega
        · refine ⟨o0, o1, by simp only; omega, by simp only; omega, g0, g1, ?_, ?_, by simp only; omega⟩
          · simp only; split <;> omega
          · simp only; split <;> omega
theorem came_snd (id : Int) (l : List Ev) (o : Nat) : ∀ k, ∀ y ∈ cameD id l o k, y.2 ≤ l.length := by
  intro k
  induction k with
  | zero => intro y hy; cases hy
  | succ k ih =>
    intro y hy
    have e : cameD id l o (k + 1) = cameD id l o k ++ (if o ≤ k ∧ (evAt l k).id = id ∧ (evAt l k).k = 4 then [(((evAt l k).s.size : Int) + lastSum (cameD id l o k), roundD l k)] else []) := rfl
    rw [e] at hy
    rcases List.mem_append.1 hy with hy | hy
    · exact ih y hy
    · split at hy
      · rw [List.mem_singleton.1 hy]
        exact (roundD_le l k).2
      · cases hy
theorem readM_le {L : List (Int × Int)} {n m : Int} (h : ∀ y ∈ L, y.2 ≤ m) (hm : 0 ≤ m) : readM L n ≤ m := by
  unfold readM
  split
  · omega
  · split
    · omega
    · have hi := idxC_lt n L
      have hk : (idxC n L).toNat < L.length := by omega
      have e : pcAt L (idxC n L).toNat = L[(idxC n L).toNat] := by simp [pcAt, List.getD, hk]
      rw [e]
      exact h _ (List.getElem_mem hk)
theorem one_out (p : ProgM) (id : Int) (l : List Ev) : ∀ k, ∀ x ∈ (oneD p id l k).out, x.read ≤ l.length ∧ x.from_ ≤ l.length ∧ x.match_ ≤ l.length := by
  intro k
  induction k with
  | zero => intro x hx; cases hx
  | succ k ih =>
    have hs := one_sm p id l k
    have hsk := one_sm p id l (k + 1)
    show ∀ x ∈ (oneStep p id l k (oneD p id l k)).out, _
    obtain ⟨d, hd⟩ : ∃ d, d = oneD p id l k := ⟨_, rfl⟩
    rw [← hd] at ih hs ⊢
    have hop : (openD id l k d).out = d.out := by unfold openD; split <;> rfl
    have hof : (openD id l k d).from_ ≤ l.length := by
      unfold openD
      split
      · exact (roundD_le l k).2
      · exact hs.f1
    unfold oneStep
    split
    · exact ih
    · split
      · rw [hop]; exact ih
      · unfold fromD matchD
        split
        · intro x hx
          simp only at hx
          rcases List.mem_append.1 hx with hx | hx
          · rw [hop] at hx; exact ih x hx
          · rw [List.mem_singleton.1 hx]
            exact ⟨readM_le (came_snd id l _ k) (by omega), hof, (roundD_le l k).2⟩
        · intro x hx
          simp only at hx
          rw [hop] at hx
          exact ih x hx
end Go.Proofs.YtdmdohjdmnmabaaGreat
