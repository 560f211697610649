/- How long one waited, plain: the program's and the document's words tell the same. No program. Conditions: those of each theorem. -/
import Derived.Test.YtgfogoplmokilaaNext
import Derived.Test.YtgfogoplmokilaaGraceB
namespace Go.Proofs.Ytgfogoplmokilaa
set_option linter.unusedVariables false

/-- how one waited -/
structure WtM where
  id : Int
  op : Int
  from_ : Int
  until_ : Int
  done : Bool
  at_ : Int
  what : Int
def wt0 : WtM := ⟨0, 0, 0, 0, false, 0, 0⟩
def encWt (x : WtM) : List Value := [.int .i64 x.id, .int .i64 x.op, .int .i64 x.from_, .int .i64 x.until_, .bool x.done, .int .i64 x.at_, .int .i64 x.what]
theorem encWt_len (x : WtM) : (encWt x).length = 7 := rfl
theorem encWt_one (x : WtM) : ∀ u ∈ encWt x, u.oneCell' = true := by intro u hu; simp [encWt] at hu; rcases hu with rfl | rfl | rfl | rfl | rfl | rfl | rfl <;> rfl
def untilM (now n : Int) : Int := if n = 9223372036854775807 then 9223372036854775807 else addT now n
def beginB (p : ProgM) (op : Int) : Bool := (decide (0 ≤ op) && decide (op < p.ops.length)) && decide ((p.ops.getD op.toNat opM0).kind = 2)
def beginW (p : ProgM) (id op now : Int) : WtM := if beginB p op = true then ⟨id, op, now, untilM now (p.ops.getD op.toNat opM0).n, false, 0, 0⟩ else wt0
def closeW (w : WtM) (x : Stp) : WtM := { w with done := true, at_ := x.tick, what := x.what }
def isLook (x : Stp) : Bool := decide (x.what = 1) || decide (x.what = 5)
/-- the program's walk: what was told so far, the wait at hand, whether there is one -/
structure WkM where
  out : List WtM
  w : WtM
  on : Bool
def wk0 (p : ProgM) (id start : Int) : WkM := ⟨[], beginW p id 0 start, beginB p 0⟩
def wkStep (p : ProgM) (id : Int) (f : WkM) (x : Stp) : WkM :=
  if isLook x = true then f else ⟨if f.on = true then f.out ++ [closeW f.w x] else f.out, beginW p id (nextM p x) x.tick, beginB p (nextM p x)⟩
def wkEnd (f : WkM) : List WtM := if f.on = true then f.out ++ [f.w] else f.out
def lifeW (p : ProgM) (id start : Int) (l : List Stp) : List WtM := wkEnd (l.foldl (wkStep p id) (wk0 p id start))
/-- the document's words -/
def closeD (w : WtM) (r : List Stp) : WtM := match r.find? (fun x => !isLook x) with | none => w | some x => closeW w x
def placeD (p : ProgM) (id op now : Int) (r : List Stp) : List WtM := if beginB p op = true then [closeD (beginW p id op now) r] else []
def restD (p : ProgM) (id : Int) : List Stp → List WtM
  | [] => []
  | x :: r => (if 0 ≤ NextM p x then placeD p id (NextM p x) x.tick r else []) ++ restD p id r
def docW (p : ProgM) (id start : Int) (l : List Stp) : List WtM := placeD p id 0 start l ++ restD p id l
theorem restD_cons (p : ProgM) (id : Int) (x : Stp) (r : List Stp) : restD p id (x :: r) = (if 0 ≤ NextM p x then placeD p id (NextM p x) x.tick r else []) ++ restD p id r := rfl
theorem begin_neg {p : ProgM} {op : Int} (h : op < 0) : beginB p op = false := by
  unfold beginB
  rw [show decide (0 ≤ op) = false by simp; omega]
  rfl
theorem next_look {p : ProgM} {x : Stp} (h : isLook x = true) : nextM p x = -1 := by
  unfold isLook at h
  simp only [Bool.or_eq_true, decide_eq_true_eq] at h
  unfold nextM
  split
  · rfl
  · unfold leadsM
    rw [if_neg (by omega), if_neg (by omega)]
    split
    · rfl
    · rw [if_neg (by omega), if_neg (by omega), if_neg (by omega)]
theorem wk_doc (p : ProgM) (id : Int) (hg : goodM p = true) : ∀ (l : List Stp) (out : List WtM) (op now : Int),
    wkEnd (l.foldl (wkStep p id) ⟨out, beginW p id op now, beginB p op⟩) = out ++ placeD p id op now l ++ restD p id l := by
  intro l
  induction l with
  | nil =>
    intro out op now
    unfold wkEnd placeD restD closeD
    cases beginB p op <;> simp
  | cons x r ih =>
    intro out op now
    have hN : NextM p x = nextM p x := by unfold NextM; rw [if_pos hg]
    simp only [List.foldl_cons]
    cases hl : isLook x with
    | true =>
      have e : wkStep p id ⟨out, beginW p id op now, beginB p op⟩ x = ⟨out, beginW p id op now, beginB p op⟩ := by unfold wkStep; rw [if_pos hl]
      rw [e, ih]
      have e2 : placeD p id op now (x :: r) = placeD p id op now r := by
        unfold placeD closeD
        simp [hl]
      have e3 : restD p id (x :: r) = restD p id r := by
        rw [restD_cons, hN, next_look hl]
        simp
      rw [e2, e3]
    | false =>
      have e : wkStep p id ⟨out, beginW p id op now, beginB p op⟩ x = ⟨if beginB p op = true then out ++ [closeW (beginW p id op now) x] else out, beginW p id (nextM p x) x.tick, beginB p (nextM p x)⟩ := by unfold wkStep; rw [if_neg (by rw [hl]; simp)]
      rw [e, ih]
      have e2 : (if beginB p op = true then out ++ [closeW (beginW p id op now) x] else out) = out ++ placeD p id op now (x :: r) := by
        unfold placeD closeD
        cases beginB p op <;> simp [hl]
      have e3 : restD p id (x :: r) = placeD p id (nextM p x) x.tick r ++ restD p id r := by
        rw [restD_cons, hN]
        by_cases h0 : 0 ≤ nextM p x
        · rw [if_pos h0]
        · rw [if_neg h0]
          unfold placeD
          rw [begin_neg (by omega)]
          simp
      rw [e2, e3]
      simp
theorem lifeW_doc (p : ProgM) (id start : Int) (l : List Stp) (hg : goodM p = true) : lifeW p id start l = docW p id start l := by
  unfold lifeW wk0 docW
  rw [wk_doc p id hg l [] 0 start]
  simp
end Go.Proofs.Ytgfogoplmokilaa
