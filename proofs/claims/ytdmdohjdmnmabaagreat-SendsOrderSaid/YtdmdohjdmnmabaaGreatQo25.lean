/- Parts of a chain of lemmas: WtP, SdP. Conditions: those of each theorem. -/
import Derived.Test.YtdmdohjdmnmabaaGreatQo15
import Derived.Test.YtdmdohjdmnmabaaGreatQo24
import Derived.Test.YtdmdohjdmnmabaaGreatQo17
namespace Go.Proofs.YtdmdohjdmnmabaaGreat
set_option linter.unusedVariables false

/-- how one waited -/
structure WtM where
  id : Int
  op : Int
  from_ : Int
  until_ : Int
  done : Bool
  at_ : Int
  what : Int
def wt0 : WtM := ⟨0, 0, 0, 0, false, 0, 0⟩
def encWt (x : WtM) : List Value := [.int .i64 x.id, .int .i64 x.op, .int .i64 x.from_, .int .i64 x.until_, .bool x.done, .int .i64 x.at_, .int .i64 x.what]
theorem encWt_len (x : WtM) : (encWt x).length = 7 := rfl
theorem encWt_one (x : WtM) : ∀ u ∈ encWt x, u.oneCell' = true := by intro u hu; simp [encWt] at hu; rcases hu with rfl | rfl | rfl | rfl | rfl | rfl | rfl <;> rfl
def untilM (now n : Int) : Int := if n = 9223372036854775807 then 9223372036854775807 else addT now n
def beginB (p : ProgM) (op : Int) : Bool := (decide (0 ≤ op) && decide (op < p.ops.length)) && decide ((p.ops.getD op.toNat opM0).kind = 2)
def beginW (p : ProgM) (id op now : Int) : WtM := if beginB p op = true then ⟨id, op, now, untilM now (p.ops.getD op.toNat opM0).n, false, 0, 0⟩ else wt0
def closeW (w : WtM) (x : Stp) : WtM := { w with done := true, at_ := x.tick, what := x.what }
def isLook (x : Stp) : Bool := decide (x.what = 1) || decide (x.what = 5)
/-- the program's walk: what was told so far, the wait at hand, whether there is one -/
structure WkM where
  out : List WtM
  w : WtM
  on : Bool
def wk0 (p : ProgM) (id start : Int) : WkM := ⟨[], beginW p id 0 start, beginB p 0⟩
def wkStep (p : ProgM) (id : Int) (f : WkM) (x : Stp) : WkM :=
  if isLook x = true then f else ⟨if f.on = true then f.out ++ [closeW f.w x] else f.out, beginW p id (nextM p x) x.tick, beginB p (nextM p x)⟩
def wkEnd (f : WkM) : List WtM := if f.on = true then f.out ++ [f.w] else f.out
def lifeW (p : ProgM) (id start : Int) (l : List Stp) : List WtM := wkEnd (l.foldl (wkStep p id) (wk0 p id start))
/-- the document's words -/
def closeD (w : WtM) (r : List Stp) : WtM := match r.find? (fun x => !isLook x) with | none => w | some x => closeW w x
def placeD (p : ProgM) (id op now : Int) (r : List Stp) : List WtM := if beginB p op = true then [closeD (beginW p id op now) r] else []
def restD (p : ProgM) (id : Int) : List Stp → List WtM
  | [] => []
  | x :: r => (if 0 ≤ NextM p x then placeD p id (NextM p x) x.tick r else []) ++ restD p id r
def docW (p : ProgM) (id start : Int) (l : List Stp) : List WtM := placeD p id 0 start l ++ restD p id l
theorem restD_cons (p : ProgM) (id : Int) (x : Stp) (r : List Stp) : restD p id (x :: r) = (if 0 ≤ NextM p x then placeD p id (NextM p x) x.tick r else []) ++ restD p id r := rfl
theorem begin_neg {p : ProgM} {op : Int} (h : op < 0) : beginB p op = false := by
  unfold beginB
  rw [show decide (0 ≤ op) = false by simp; omega]
  rfl
theorem next_look {p : ProgM} {x : Stp} (h : isLook x = true) : nextM p x = -1 := by
  unfold isLook at h
  simp only [Bool.or_eq_true, decide_eq_true_eq] at h
  unfold nextM
  split
  · rfl
  · unfold leadsM
    rw [if_neg (by omega), if_neg (by omega)]
    split
    · rfl
    · rw [if_neg (by omega), if_neg (by omega), if_neg (by omega)]
theorem wk_doc (p : ProgM) (id : Int) (hg : goodM p = true) : ∀ (l : List Stp) (out : List WtM) (op now : Int),
    wkEnd (l.foldl (wkStep p id) ⟨out, beginW p id op now, beginB p op⟩) = out ++ placeD p id op now l ++ restD p id l := by
  intro l
  induction l with
  | nil =>
    intro out op now
    unfold wkEnd placeD restD closeD
    cases beginB p op <;> simp
  | cons x r ih =>
    intro out op now
    have hN : NextM p x = nextM p x := by unfold NextM; rw [if_pos hg]
    simp only [List.foldl_cons]
    cases hl : isLook x with
    | true =>
      have e : wkStep p id ⟨out, beginW p id op now, beginB p op⟩ x = ⟨out, beginW p id op now, beginB p op⟩ := by unfold wkStep; rw [if_pos hl]
      rw [e, ih]
      have e2 : placeD p id op now (x :: r) = placeD p id op now r := by
        unfold placeD closeD
        simp [hl]
      have e3 : restD p id (x :: r) = restD p id r := by
        rw [restD_cons, hN, next_look hl]
        simp
      rw [e2, e3]
    | false =>
      have e : wkStep p id ⟨out, beginW p id op now, beginB p op⟩ x = ⟨if beginB p op = true then out ++ [closeW (beginW p id op now) x] else out, beginW p id (nextM p x) x.tick, beginB p (nextM p x)⟩ := by unfold wkStep; rw [if_neg (by rw [hl]; simp)]
      rw [e, ih]
      have e2 : (if beginB p op = true then out ++ [closeW (beginW p id op now) x] else out) = out ++ placeD p id op now (x :: r) := by
        unfold placeD closeD
        cases beginB p op <;> simp [hl]
      have e3 : restD p id (x :: r) = placeD p id (nextM p x) x.tick r ++ restD p id r := by
        rw [restD_cons, hN]
        by_cases h0 : 0 ≤ nextM p x
        · rw [if_pos h0]
        · rw [if_neg h0]
          unfold placeD
          rw [begin_neg (by omega)]
          simp
      rw [e2, e3]
      simp
theorem lifeW_doc (p : ProgM) (id start : Int) (l : List Stp) (hg : goodM p = true) : lifeW p id start l = docW p id start l := by
  unfold lifeW wk0 docW
  rw [wk_doc p id hg l [] 0 start]
  simp
end Go.Proofs.YtdmdohjdmnmabaaGreat
namespace Go.Proofs.YtdmdohjdmnmabaaGreat
set_option linter.unusedVariables false
set_option linter.unusedSimpArgs false

/-- how a text was sent -/
structure SdM where
  id : Int
  op : Int
  long : Int
  from_ : Int
  taken : Int
  done : Bool
  at_ : Int
def sd0 : SdM := ⟨0, 0, 0, 0, 0, false, 0⟩
def encSd (x : SdM) : List Value := [.int .i64 x.id, .int .i64 x.op, .int .i64 x.long, .int .i64 x.from_, .int .i64 x.taken, .bool x.done, .int .i64 x.at_]
theorem encSd_len (x : SdM) : (encSd x).length = 7 := rfl
theorem encSd_one (x : SdM) : ∀ u ∈ encSd x, u.oneCell' = true := by intro u hu; simp [encSd] at hu; rcases hu with rfl | rfl | rfl | rfl | rfl | rfl | rfl <;> rfl
/-- one's walk -/
structure SwM where
  round : Int
  begun : Bool
  open_ : Bool
  x : SdM
  out : List SdM
def sw0 : SwM := ⟨-1, false, false, sd0, []⟩
def nowS (f : SwM) : Int := max f.round 0
def closeS (f : SwM) : SwM := { f with open_ := false, out := if f.open_ = true then f.out ++ [f.x] else f.out }
def sendB (p : ProgM) (op : Int) : Bool := (decide (0 ≤ op) && decide (op < p.ops.length)) && decide ((p.ops.getD op.toNat opM0).kind = 1)
def sendN (p : ProgM) (id op now : Int) : SdM := ⟨id, op, (p.ops.getD op.toNat opM0).text.size, now, 0, false, 0⟩
def comeS (p : ProgM) (id op : Int) (f : SwM) : SwM := if sendB p op = true then { f with open_ := true, x := sendN p id op (nowS f) } else f
def doneX (now : Int) (x : SdM) : SdM := if x.done = true then x else { x with done := true, at_ := now }
def doneS (f : SwM) : SwM := { f with x := doneX (nowS f) f.x }
def richD (t n : Int) : Int := min (t + min (max n 0) 1000000000) 1000000000
def takeX (n : Int) (x : SdM) : SdM := { x with taken := richD x.taken n }
def writeX (now n : Int) (x : SdM) : SdM := if x.long ≤ richD x.taken n then doneX now (takeX n x) else takeX n x
def writeS (n : Int) (f : SwM) : SwM := if f.open_ = true then { f with x := writeX (nowS f) n f.x } else f
def stepS (p : ProgM) (id : Int) (x : Stp) (f : SwM) : SwM := if isLook x = true then f else comeS p id (NextM p x) (closeS (if f.open_ = true then doneS f else f))
def seeS (p : ProgM) (id : Int) (f : SwM) (x : Ev) : SwM :=
  if x.k = 1 then { f with round := f.round + 1 } else if x.id ≠ id then f
  else if x.k = 2 ∧ f.begun = false then comeS p id 0 { f with begun := true }
  else if x.k = 6 ∧ f.begun = true then writeS x.n f
  else if x.k = 8 ∧ f.begun = true then stepS p id x.st f else f
def seenS (p : ProgM) (id : Int) (l : List Ev) : SwM := l.foldl (seeS p id) sw0
def sendsM (p : ProgM) (id : Int) (l : List Ev) : List SdM := (closeS (seenS p id l)).out
theorem seenS_succ (p : ProgM) (id : Int) (l : List Ev) (k : Nat) (h : k < l.length) : seenS p id (l.take (k + 1)) = seeS p id (seenS p id (l.take k)) (evAt l k) := by
  have e : evAt l k = l[k] := by simp [evAt, List.getD, h]
  rw [List.take_succ_eq_append_getElem h, ← e]
  simp [seenS]
/-- the document's words: the round of a place; the text under way behind a place; all -/
def rndD (l : List Ev) (k : Nat) : Int := max (((clocksL (l.take (k + 1))).length : Int) - 1) 0
def overD (x : Ev) : Bool := decide (x.k = 8) && !isLook x.st
def scanStep (id : Int) (l : List Ev) (k : Nat) (s : SdM × Bool) : SdM × Bool :=
  if s.2 = true then s else if (evAt l k).id ≠ id then s
  else (if (evAt l k).k = 6 then writeX (rndD l k) (evAt l k).n s.1 else if overD (evAt l k) = true then doneX (rndD l k) s.1 else s.1, overD (evAt l k))
def scanD (id : Int) (l : List Ev) (x : SdM) (i : Nat) : Nat → SdM × Bool
  | 0 => (x, false)
  | m + 1 => if m ≤ i then (x, false) else scanStep id l m (scanD id l x i m)
def begD (id : Int) (l : List Ev) : Nat → Bool
  | 0 => false
  | i + 1 => begD id l i || (decide ((evAt l i).id = id) && decide ((evAt l i).k = 2))
def toD (p : ProgM) (id : Int) (l : List Ev) (i : Nat) : Int :=
  if (evAt l i).id = id ∧ (evAt l i).k = 2 ∧ begD id l i = false then 0 else if (evAt l i).id = id ∧ (evAt l i).k = 8 ∧ begD id l i = true then NextM p (evAt l i).st else -1
def pairS (p : ProgM) (id : Int) (l : List Ev) (m : Nat) : Nat → List (SdM × Bool)
  | 0 => []
  | i + 1 => pairS p id l m i ++ (if sendB p (toD p id l i) = true then [scanD id l (sendN p id (toD p id l i) (rndD l i)) i m] else [])
def docS (p : ProgM) (id : Int) (l : List Ev) : List SdM := (pairS p id l l.length l.length).map (·.1)
theorem scanD_low (id : Int) (l : List Ev) (x : SdM) (i : Nat) : scanD id l x i (i + 1) = (x, false) := by
  show (if i ≤ i then (x, false) else _) = _
  rw [if_pos (Nat.le_refl _)]
theorem scanD_succ (id : Int) (l : List Ev) (x : SdM) (i m : Nat) (h : i < m) : scanD id l x i (m + 1) = scanStep id l m (scanD id l x i m) := by
  show (if m ≤ i then (x, false) else _) = _
  rw [if_neg (by omega)]
theorem pair_map (p : ProgM) (id : Int) (l : List Ev) (m : Nat) : ∀ i, i ≤ m → pairS p id l (m + 1) i = (pairS p id l m i).map (scanStep id l m)
  | 0, _ => rfl
  | i + 1, h => by
    show pairS p id l (m + 1) i ++ _ = (pairS p id l m i ++ _).map _
    rw [pair_map p id l m i (by omega), List.map_append]
    congr 1
    split
    · rw [scanD_succ _ _ _ _ _ (by omega)]; rfl
    · rfl
theorem pair_succ (p : ProgM) (id : Int) (l : List Ev) (m : Nat) : pairS p id l (m + 1) (m + 1) = (pairS p id l m m).map (scanStep id l m) ++ (if sendB p (toD p id l m) = true then [(sendN p id (toD p id l m) (rndD l m), false)] else []) := by
  show pairS p id l (m + 1) m ++ _ = _
  rw [pair_map p id l m m (Nat.le_refl _), scanD_low]
theorem sendB_neg {p : ProgM} {op : Int} (h : op < 0) : sendB p op = false := by
  unfold sendB
  rw [show decide (0 ≤ op) = false by simp; omega]
  rfl
/-- what was told, and the one under way -/
def OutIs (f : SwM) (P : List (SdM × Bool)) : Prop := ∃ Q : List SdM, f.out = Q ∧ P = Q.map (fun x => (x, true)) ++ (if f.open_ = true then [(f.x, false)] else [])
theorem scan_over (id : Int) (l : List Ev) (m : Nat) (Q : List SdM) : (Q.map (fun x => (x, true))).map (scanStep id l m) = Q.map (fun x => (x, true)) := by
  rw [List.map_map]
  apply List.map_congr_left
  intro x _
  show scanStep id l m (x, true) = (x, true)
  unfold scanStep
  rw [if_pos rfl]
theorem out_come {f : SwM} {P : List (SdM × Bool)} (h : OutIs f P) (ho : f.open_ = false) (p : ProgM) (id op now : Int) (hn : nowS f = now) : OutIs (comeS p id op f) (P ++ (if sendB p op = true then [(sendN p id op now, false)] else [])) := by
  obtain ⟨Q, hQ, hP⟩ := h
  rw [ho] at hP
  unfold comeS
  split
  · exact ⟨Q, hQ, by rw [hP, hn]; simp⟩
  · exact ⟨Q, hQ, by rw [hP, ho]; simp⟩
/-- the two walks at a place -/
structure SwInv (p : ProgM) (id : Int) (l : List Ev) (i : Nat) (f : SwM) : Prop where
  round : f.round = ((clocksL (l.take i)).length : Int) - 1
  begun : f.begun = begD id l i
  ob : f.open_ = true → f.begun = true
  out : OutIs f (pairS p id l i i)
theorem cnt_of2 (l : List Ev) (i : Nat) (hi : i < l.length) : (clocksL (l.take (i + 1))).length = (clocksL (l.take i)).length + (if (evAt l i).k = 1 then 1 else 0) := by
  rw [clocks_succ l i hi]
  split <;> simp
theorem Next_look {p : ProgM} {x : Stp} (h : isLook x = true) : NextM p x = -1 := by
  unfold NextM
  split
  · exact next_look h
  · rfl
theorem begD_succ (id : Int) (l : List Ev) (i : Nat) : begD id l (i + 1) = (begD id l i || (decide ((evAt l i).id = id) && decide ((evAt l i).k = 2))) := rfl
/-- an event that is none of his, or changes nothing -/
theorem inv_same {p : ProgM} {id : Int} {l : List Ev} {i : Nat} {f : SwM} (h : SwInv p id l i f) (hc : (clocksL (l.take (i + 1))).length = (clocksL (l.take i)).length)
    (hb : begD id l (i + 1) = begD id l i) (ht : toD p id l i < 0) (hs : f.open_ = true → scanStep id l i (f.x, false) = (f.x, false)) : SwInv p id l (i + 1) f := by
  refine ⟨by rw [h.round, hc], by rw [h.begun, hb], h.ob, ?_⟩
  obtain ⟨Q, hQ, hP⟩ := h.out
  refine ⟨Q, hQ, ?_⟩
  rw [pair_succ, sendB_neg ht, hP, List.map_append, scan_over]
  cases ho : f.open_
  · simp
  · simp [hs ho]
theorem scan_no {id : Int} {l : List Ev} {i : Nat} (x : SdM) (h : (evAt l i).id ≠ id ∨ ((evAt l i).k ≠ 6 ∧ overD (evAt l i) = false)) : scanStep id l i (x, false) = (x, false) := by
  unfold scanStep
  rw [if_neg (by simp)]
  by_cases hi : (evAt l i).id = id
  · rcases h with h | ⟨h6, ho⟩
    · exact absurd hi h
    · rw [if_neg (by simp [hi]), if_neg h6, ho]; simp
  · rw [if_pos hi]
theorem over_no {x : Ev} (h : x.k ≠ 8) : overD x = false := by unfold overD; simp [h]
theorem sw_inv (p : ProgM) (id : Int) (l : List Ev) : ∀ i, i ≤ l.length → SwInv p id l i (seenS p id (l.take i)) := by
  intro i
  induction i with
  | zero => intro _; exact ⟨by simp [seenS, sw0, clocksL], rfl, fun h => by simp [seenS, sw0] at h, ⟨[], rfl, rfl⟩⟩
  | succ i ih =>
    intro hi
    have hlt : i < l.length := by omega
    have h := ih (by omega)
    rw [seenS_succ p id l i hlt]
    obtain ⟨f, hf⟩ : ∃ f, f = seenS p id (l.take i) := ⟨_, rfl⟩
    rw [← hf] at h ⊢
    clear hf ih
    have hc := cnt_of2 l i hlt
    have hb2 := begD_succ id l i
    by_cases k1 : (evAt l i).k = 1
    · have e1 : seeS p id f (evAt l i) = { f with round := f.round + 1 } := by unfold seeS; rw [if_pos k1]
      rw [e1]
      rw [if_pos k1] at hc
      have hbs : begD id l (i + 1) = begD id l i := by rw [hb2]; simp [k1]
      have ht : toD p id l i < 0 := by unfold toD; rw [if_neg (by omega), if_neg (by omega)]; omega
      refine ⟨by simp only; rw [h.round, hc]; omega, by rw [hbs]; exact h.begun, h.ob, ?_⟩
      obtain ⟨Q, hQ, hP⟩ := h.out
      refine ⟨Q, hQ, ?_⟩
      rw [pair_succ, sendB_neg ht, hP, List.map_append, scan_over]
      have hs := scan_no (id := id) (l := l) (i := i) f.x (Or.inr ⟨by omega, over_no (by omega)⟩)
      cases ho : f.open_
      · simp [ho]
      · simp [ho, hs]
    replace hc : (clocksL (l.take (i + 1))).length = (clocksL (l.take i)).length := by rw [hc, if_neg k1]; rfl
    have hnow : nowS f = rndD l i := by
      unfold nowS rndD
      rw [h.round, hc]
    by_cases kid : (evAt l i).id = id
    · by_cases k2 : (evAt l i).k = 2
      · have hs := fun x => scan_no (id := id) (l := l) (i := i) x (Or.inr ⟨by omega, over_no (by omega)⟩)
        cases hb : f.begun with
        | true =>
          have hbd : begD id l i = true := by rw [← h.begun]; exact hb
          have e1 : seeS p id f (evAt l i) = f := by unfold seeS; rw [if_neg k1, if_neg (by simp [kid]), if_neg (by simp [hb]), if_neg (by omega), if_neg (by omega)]
          rw [e1]
          exact inv_same h hc (by rw [hb2, hbd]; rfl) (by unfold toD; rw [if_neg (by simp [hbd]), if_neg (by omega)]; omega) (fun _ => hs f.x)
        | false =>
          have hbd : begD id l i = false := by rw [← h.begun]; exact hb
          have ho : f.open_ = false := by
            cases hoo : f.open_ with
            | false => rfl
            | true => have := h.ob hoo; rw [hb] at this; cases this
          have e1 : seeS p id f (evAt l i) = comeS p id 0 { f with begun := true } := by unfold seeS; rw [if_neg k1, if_neg (by simp [kid]), if_pos ⟨k2, hb⟩]
          have ht : toD p id l i = 0 := by unfold toD; rw [if_pos ⟨kid, k2, hbd⟩]
          rw [e1]
          have hcb : (comeS p id 0 { f with begun := true }).begun = true := by unfold comeS; split <;> rfl
          have hcr : (comeS p id 0 { f with begun := true }).round = f.round := by unfold comeS; split <;> rfl
          refine ⟨by rw [hcr, h.round, hc], by rw [hcb, hb2]; simp [kid, k2], fun _ => hcb, ?_⟩
          rw [pair_succ, ht]
          obtain ⟨Q, hQ, hP⟩ := h.out
          have hO : OutIs { f with begun := true } ((pairS p id l i i).map (scanStep id l i)) := by
            refine ⟨Q, hQ, ?_⟩
            rw [hP, List.map_append, scan_over]
            simp [ho]
          exact out_come hO ho p id 0 (rndD l i) hnow
      · by_cases k6 : (evAt l i).k = 6
        · have hbs : begD id l (i + 1) = begD id l i := by rw [hb2]; simp [k2]
          have ht : toD p id l i < 0 := by unfold toD; rw [if_neg (by omega), if_neg (by omega)]; omega
          have hov := over_no (x := evAt l i) (by omega)
          cases ho : f.open_ with
          | false =>
            have e1 : seeS p id f (evAt l i) = f := by
              unfold seeS writeS
              rw [if_neg k1, if_neg (by simp [kid]), if_neg (by omega), if_neg (by simp [ho] : ¬ f.open_ = true)]
              split
              · rfl
              · rw [if_neg (by omega)]
            rw [e1]
            exact inv_same h hc hbs ht (fun hx => by rw [ho] at hx; cases hx)
          | true =>
            have hb := h.ob ho
            have e1 : seeS p id f (evAt l i) = { f with x := writeX (nowS f) (evAt l i).n f.x } := by
              unfold seeS writeS
              rw [if_neg k1, if_neg (by simp [kid]), if_neg (by omega), if_pos ⟨k6, hb⟩, if_pos ho]
            rw [e1]
            refine ⟨by simp only; rw [h.round, hc], by rw [hbs]; exact h.begun, h.ob, ?_⟩
            obtain ⟨Q, hQ, hP⟩ := h.out
            refine ⟨Q, hQ, ?_⟩
            have hs : scanStep id l i (f.x, false) = (writeX (nowS f) (evAt l i).n f.x, false) := by
              unfold scanStep
              rw [if_neg (by simp), if_neg (by simp [kid]), if_pos k6, hov, hnow]
            rw [pair_succ, sendB_neg ht, hP, List.map_append, scan_over]
            simp [ho, hs]
        · by_cases k8 : (evAt l i).k = 8
          · have hbs : begD id l (i + 1) = begD id l i := by rw [hb2]; simp [k2]
            cases hb : f.begun with
            | false =>
              have hbd : begD id l i = false := by rw [← h.begun]; exact hb
              have ho : f.open_ = false := by
                cases hoo : f.open_ with
                | false => rfl
                | true => have := h.ob hoo; rw [hb] at this; cases this
              have e1 : seeS p id f (evAt l i) = f := by unfold seeS; rw [if_neg k1, if_neg (by simp [kid]), if_neg (by omega), if_neg (by simp [hb]), if_neg (by simp [hb])]
              rw [e1]
              exact inv_same h hc hbs (by unfold toD; rw [if_neg (by omega), if_neg (by simp [hbd])]; omega) (fun hx => by rw [ho] at hx; cases hx)
            | true =>
              have hbd : begD id l i = true := by rw [← h.begun]; exact hb
              have e1 : seeS p id f (evAt l i) = stepS p id (evAt l i).st f := by unfold seeS; rw [if_neg k1, if_neg (by simp [kid]), if_neg (by omega), if_neg (by omega), if_pos ⟨k8, hb⟩]
              have ht : toD p id l i = NextM p (evAt l i).st := by unfold toD; rw [if_neg (by omega), if_pos ⟨kid, k8, hbd⟩]
              rw [e1]
              cases hl : isLook (evAt l i).st with
              | true =>
                have e2 : stepS p id (evAt l i).st f = f := by unfold stepS; rw [if_pos hl]
                rw [e2]
                exact inv_same h hc hbs (by rw [ht, Next_look hl]; omega) (fun _ => scan_no f.x (Or.inr ⟨k6, by unfold overD; simp [hl]⟩))
              | false =>
                have hov : overD (evAt l i) = true := by unfold overD; simp [hl, k8]
                obtain ⟨g, hg⟩ : ∃ g, g = closeS (if f.open_ = true then doneS f else f) := ⟨_, rfl⟩
                have e2 : stepS p id (evAt l i).st f = comeS p id (NextM p (evAt l i).st) g := by unfold stepS; rw [if_neg (by simp [hl]), hg]
                have g1 : g.open_ = false := by rw [hg]; rfl
                have g2 : g.round = f.round := by rw [hg]; unfold closeS; simp only; split <;> rfl
                have g3 : g.begun = true := by rw [hg]; unfold closeS; simp only; split <;> exact hb
                have hcb : (comeS p id (NextM p (evAt l i).st) g).begun = true := by unfold comeS; split <;> exact g3
                have hcr : (comeS p id (NextM p (evAt l i).st) g).round = f.round := by unfold comeS; split <;> exact g2
                rw [e2]
                refine ⟨by rw [hcr, h.round, hc], by rw [hcb, hbs, hbd], fun _ => hcb, ?_⟩
                rw [pair_succ, ht]
                have hO : OutIs g ((pairS p id l i i).map (scanStep id l i)) := by
                  obtain ⟨Q, hQ, hP⟩ := h.out
                  rw [hP, List.map_append, scan_over]
                  cases ho : f.open_ with
                  | false =>
                    have e3 : g.out = f.out := by rw [hg, ho]; unfold closeS; simp [ho]
                    exact ⟨Q, by rw [e3, hQ], by rw [g1]; simp⟩
                  | true =>
                    have e3 : g.out = f.out ++ [doneX (nowS f) f.x] := by rw [hg]; unfold closeS doneS; simp [ho]
                    have hs : scanStep id l i (f.x, false) = (doneX (nowS f) f.x, true) := by
                      unfold scanStep
                      rw [if_neg (by simp), if_neg (by simp [kid]), if_neg k6, if_pos hov, hov, hnow]
                    exact ⟨Q ++ [doneX (nowS f) f.x], by rw [e3, hQ], by rw [g1]; simp [hs]⟩
                exact out_come hO g1 p id _ (rndD l i) (by unfold nowS; rw [g2]; exact hnow)
          · have hbs : begD id l (i + 1) = begD id l i := by rw [hb2]; simp [k2]
            have e1 : seeS p id f (evAt l i) = f := by unfold seeS; rw [if_neg k1, if_neg (by simp [kid]), if_neg (by omega), if_neg (by omega), if_neg (by omega)]
            rw [e1]
            exact inv_same h hc hbs (by unfold toD; rw [if_neg (by omega), if_neg (by omega)]; omega) (fun _ => scan_no f.x (Or.inr ⟨k6, over_no k8⟩))
    · have e1 : seeS p id f (evAt l i) = f := by unfold seeS; rw [if_neg k1, if_pos kid]
      rw [e1]
      exact inv_same h hc (by rw [hb2]; simp [kid]) (by unfold toD; rw [if_neg (by omega), if_neg (by omega)]; omega) (fun _ => scan_no f.x (Or.inl kid))
theorem sends_doc (p : ProgM) (id : Int) (l : List Ev) : sendsM p id l = docS p id l := by
  have h := (sw_inv p id l l.length (Nat.le_refl _)).out
  rw [List.take_length] at h
  obtain ⟨Q, hQ, hP⟩ := h
  unfold sendsM docS closeS
  rw [hP, List.map_append, hQ]
  have : (Q.map (fun x => (x, true))).map (·.1) = Q := by rw [List.map_map]; simp [Function.comp_def]
  rw [this]
  cases ho : (seenS p id l).open_ <;> simp
end Go.Proofs.YtdmdohjdmnmabaaGreat
