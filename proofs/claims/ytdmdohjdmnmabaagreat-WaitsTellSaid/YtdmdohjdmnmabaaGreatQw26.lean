/- Parts of a chain of lemmas: WtP, WtD, RefOfA. Conditions: those of each theorem. -/
import Derived.Test.YtdmdohjdmnmabaaGreatQw15
import Derived.Test.YtdmdohjdmnmabaaGreatQw25
import Derived.Test.YtdmdohjdmnmabaaGreatQw23
namespace Go.Proofs.YtdmdohjdmnmabaaGreat
set_option linter.unusedVariables false

/-- how one waited -/
structure WtM where
 id : Int
 op : Int
 from_ : Int
 until_ : Int
 done : Bool
 at_ : Int
 what : Int
def wt0 : WtM := ⟨0, 0, 0, 0, false, 0, 0⟩
def encWt (x : WtM) : List Value := [.int .i64 x.id, .int .i64 x.op, .int .i64 x.from_, .int .i64 x.until_, .bool x.done, .int .i64 x.at_, .int .i64 x.what]
theorem encWt_len (x : WtM) : (encWt x).length = 7 := rfl
theorem encWt_one (x : WtM) : ∀ u ∈ encWt x, u.oneCell' = true := by intro u hu; simp [encWt] at hu; rcases hu with rfl | rfl | rfl | rfl | rfl | rfl | rfl <;> rfl
def untilM (now n : Int) : Int := if n = 9223372036854775807 then 9223372036854775807 else addT now n
def beginB (p : ProgM) (op : Int) : Bool := (decide (0 ≤ op) && decide (op < p.ops.length)) && decide ((p.ops.getD op.toNat opM0).kind = 2)
def beginW (p : ProgM) (id op now : Int) : WtM := if beginB p op = true then ⟨id, op, now, untilM now (p.ops.getD op.toNat opM0).n, false, 0, 0⟩ else wt0
def closeW (w : WtM) (x : Stp) : WtM := { w with done := true, at_ := x.tick, what := x.what }
def isLook (x : Stp) : Bool := decide (x.what = 1) || decide (x.what = 5)
/-- the program's walk: what was told so far, the wait at hand, whether there is one -/
structure WkM where
 out : List WtM
 w : WtM
 on : Bool
def wk0 (p : ProgM) (id start : Int) : WkM := ⟨[], beginW p id 0 start, beginB p 0⟩
def wkStep (p : ProgM) (id : Int) (f : WkM) (x : Stp) : WkM :=
 if isLook x = true then f else ⟨if f.on = true then f.out ++ [closeW f.w x] else f.out, beginW p id (nextM p x) x.tick, beginB p (nextM p x)⟩
def wkEnd (f : WkM) : List WtM := if f.on = true then f.out ++ [f.w] else f.out
def lifeW (p : ProgM) (id start : Int) (l : List Stp) : List WtM := wkEnd (l.foldl (wkStep p id) (wk0 p id start))
/-- the document's words -/
def closeD (w : WtM) (r : List Stp) : WtM := match r.find? (fun x => !isLook x) with | none => w | some x => closeW w x
def placeD (p : ProgM) (id op now : Int) (r : List Stp) : List WtM := if beginB p op = true then [closeD (beginW p id op now) r] else []
def restD (p : ProgM) (id : Int) : List Stp → List WtM
 | [] => []
 | x :: r => (if 0 ≤ NextM p x then placeD p id (NextM p x) x.tick r else []) ++ restD p id r
def docW (p : ProgM) (id start : Int) (l : List Stp) : List WtM := placeD p id 0 start l ++ restD p id l
theorem restD_cons (p : ProgM) (id : Int) (x : Stp) (r : List Stp) : restD p id (x :: r) = (if 0 ≤ NextM p x then placeD p id (NextM p x) x.tick r else []) ++ restD p id r := rfl
theorem begin_neg {p : ProgM} {op : Int} (h : op < 0) : beginB p op = false := by
 unfold beginB
 rw [show decide (0 ≤ op) = false by simp; omega]
 rfl
theorem next_look {p : ProgM} {x : Stp} (h : isLook x = true) : nextM p x = -1 := by
 unfold isLook at h
 simp only [Bool.or_eq_true, decide_eq_true_eq] at h
 unfold nextM
 split
 ·rfl
 ·unfold leadsM
  rw [if_neg (by omega), if_neg (by omega)]
  split
  ·rfl
  ·rw [if_neg (by omega), if_neg (by omega), if_neg (by omega)]
theorem wk_doc (p : ProgM) (id : Int) (hg : goodM p = true) : ∀ (l : List Stp) (out : List WtM) (op now : Int),
 wkEnd (l.foldl (wkStep p id) ⟨out, beginW p id op now, beginB p op⟩) = out ++ placeD p id op now l ++ restD p id l := by
 intro l
 induction l with
 | nil =>
  intro out op now
  unfold wkEnd placeD restD closeD
  cases beginB p op <;> simp
 | cons x r ih =>
  intro out op now
  have hN : NextM p x = nextM p x := by unfold NextM; rw [if_pos hg]
  simp only [List.foldl_cons]
  cases hl : isLook x with
  | true =>
   have e : wkStep p id ⟨out, beginW p id op now, beginB p op⟩ x = ⟨out, beginW p id op now, beginB p op⟩ := by unfold wkStep; rw [if_pos hl]
   rw [e, ih]
   have e2 : placeD p id op now (x :: r) = placeD p id op now r := by
    unfold placeD closeD
    simp [hl]
   have e3 : restD p id (x :: r) = restD p id r := by
    rw [restD_cons, hN, next_look hl]
    simp
   rw [e2, e3]
  | false =>
   have e : wkStep p id ⟨out, beginW p id op now, beginB p op⟩ x = ⟨if beginB p op = true then out ++ [closeW (beginW p id op now) x] else out, beginW p id (nextM p x) x.tick, beginB p (nextM p x)⟩ := by unfold wkStep; rw [if_neg (by rw [hl]; simp)]
   rw [e, ih]
   have e2 : (if beginB p op = true then out ++ [closeW (beginW p id op now) x] else out) = out ++ placeD p id op now (x :: r) := by
    unfold placeD closeD
    cases beginB p op <;> simp [hl]
   have e3 : restD p id (x :: r) = placeD p id (nextM p x) x.tick r ++ restD p id r := by
    rw [restD_cons, hN]
    by_cases h0 : 0 ≤ nextM p x
    ·rw [if_pos h0]
    ·rw [if_neg h0]
     unfold placeD
     rw [begin_neg (by omega)]
     simp
   rw [e2, e3]
   simp
theorem lifeW_doc (p : ProgM) (id start : Int) (l : List Stp) (hg : goodM p = true) : lifeW p id start l = docW p id start l := by
 unfold lifeW wk0 docW
 rw [wk_doc p id hg l [] 0 start]
 simp
end Go.Proofs.YtdmdohjdmnmabaaGreat
namespace Go.Proofs.YtdmdohjdmnmabaaGreat
set_option linter.unusedVariables false
set_option linter.unusedSimpArgs false

def stAt (S : List Stp) (k : Nat) : Stp := S.getD k ⟨0, 0, 0, 0, 0, 0⟩
theorem stAt_of {S : List Stp} {k : Nat} (h : k < S.length) : stAt S k = S[k] := by simp [stAt, List.getD, h]
/-- a place: the op, when, the number of the first step behind it -/
def plS (p : ProgM) (S : List Stp) (k : Nat) : List (Int × Int × Nat) := if 0 ≤ NextM p (stAt S k) then [(NextM p (stAt S k), (stAt S k).tick, k + 1)] else []
def placesM (p : ProgM) (start : Int) (S : List Stp) : Nat → List (Int × Int × Nat)
 | 0 => [(0, start, 0)]
 | k + 1 => placesM p start S k ++ plS p S k
def atL (l : List (Int × Int × Nat)) : List Int := l.map (·.1)
def whenL (l : List (Int × Int × Nat)) : List Int := l.map (·.2.1)
def behL (l : List (Int × Int × Nat)) : List Int := l.map (fun t => (t.2.2 : Int))
def waitD (p : ProgM) (id : Int) (S : List Stp) (t : Int × Int × Nat) : List WtM := placeD p id t.1 t.2.1 (S.drop t.2.2)
theorem places_len (p : ProgM) (start : Int) (S : List Stp) : ∀ k, 1 ≤ (placesM p start S k).length ∧ (placesM p start S k).length ≤ k + 1
 | 0 => by simp [placesM]
 | k + 1 => by
  obtain ⟨h1, h2⟩ := places_len p start S k
  unfold placesM plS
  rw [List.length_append]
  split <;> simp <;> omega
/-- of each place: the op is none below 0, the time a tick, and no step is beyond -/
theorem places_ok (p : ProgM) (start : Int) (S : List Stp) (hs : start ≤ 9223372036854775807) (hS : ∀ y ∈ S, y.tick ≤ 9223372036854775807) : ∀ k, k ≤ S.length → ∀ t ∈ placesM p start S k, 0 ≤ t.1 ∧ t.2.1 ≤ 9223372036854775807 ∧ t.2.2 ≤ k
 | 0, _, t, ht => by
  simp only [placesM, List.mem_singleton] at ht
  subst ht
  exact ⟨Int.le_refl _, hs, Nat.le_refl _⟩
 | k + 1, hk, t, ht => by
  unfold placesM at ht
  rcases List.mem_append.1 ht with ht | ht
  ·obtain ⟨h1, h2, h3⟩ := places_ok p start S hs hS k (by omega) t ht
   exact ⟨h1, h2, by omega⟩
  ·unfold plS at ht
   split at ht
   ·rename_i h0
    rw [List.mem_singleton] at ht
    subst ht
    refine ⟨h0, ?_, Nat.le_refl _⟩
    show (stAt S k).tick ≤ _
    rw [stAt_of (by omega)]
    exact hS _ (List.getElem_mem _)
   ·cases ht
theorem rest_places (p : ProgM) (id start : Int) (S : List Stp) : ∀ k, k ≤ S.length → (placesM p start S k).flatMap (waitD p id S) ++ restD p id (S.drop k) = (placesM p start S 0).flatMap (waitD p id S) ++ restD p id S
 | 0, _ => by simp
 | k + 1, hk => by
  rw [← rest_places p id start S k (by omega)]
  rw [show placesM p start S (k + 1) = placesM p start S k ++ plS p S k from rfl, List.flatMap_append, List.append_assoc]
  congr 1
  rw [List.drop_eq_getElem_cons (show k < S.length by omega), restD_cons]
  congr 1
  unfold plS
  rw [stAt_of (show k < S.length by omega)]
  split
  ·simp [waitD]
  ·rfl
theorem docW_places (p : ProgM) (id start : Int) (S : List Stp) : docW p id start S = (placesM p start S S.length).flatMap (waitD p id S) := by
 have h := rest_places p id start S S.length (Nat.le_refl _)
 rw [List.drop_length] at h
 simp only [restD, List.append_nil] at h
 rw [h]
 unfold docW
 simp [placesM, waitD]
/-- the waits of the first j places -/
def outD (p : ProgM) (id : Int) (S : List Stp) (T : List (Int × Int × Nat)) (j : Nat) : List WtM := (T.take j).flatMap (waitD p id S)
theorem outD_succ (p : ProgM) (id : Int) (S : List Stp) (T : List (Int × Int × Nat)) (j : Nat) (h : j < T.length) : outD p id S T (j + 1) = outD p id S T j ++ waitD p id S T[j] := by
 unfold outD
 rw [List.take_succ_eq_append_getElem h, List.flatMap_append]
 simp
theorem outD_len (p : ProgM) (id : Int) (S : List Stp) (T : List (Int × Int × Nat)) : ∀ j, (outD p id S T j).length ≤ j := by
 intro j
 unfold outD
 have h : ∀ L : List (Int × Int × Nat), (L.flatMap (waitD p id S)).length ≤ L.length := by
  intro L
  induction L with
  | nil => simp
  | cons a r ih =>
   rw [List.flatMap_cons, List.length_append, List.length_cons]
   have : (waitD p id S a).length ≤ 1 := by
    unfold waitD placeD
    split <;> simp
   omega
 refine Nat.le_trans (h _) ?_
 rw [List.length_take]
 omega
/-- a wait, and the steps from q on -/
def scanW (w : WtM) (S : List Stp) (q : Nat) : WtM := closeD w (S.drop q)
theorem scanW_end (w : WtM) (S : List Stp) : scanW w S S.length = w := by
 unfold scanW
 rw [List.drop_length]
 rfl
theorem scanW_succ (w : WtM) (S : List Stp) (q : Nat) (h : q < S.length) : scanW w S q = if isLook (stAt S q) = true then scanW w S (q + 1) else closeW (scanW w S (q + 1)) (stAt S q) := by
 unfold scanW
 rw [List.drop_eq_getElem_cons h, stAt_of h]
 unfold closeD
 rw [List.find?_cons]
 cases hl : isLook S[q] with
 | true => simp
 | false =>
  simp only [Bool.not_false, Bool.false_eq_true, if_false]
  cases List.find? (fun x => !isLook x) (List.drop (q + 1) S) <;> rfl
theorem atL_append (a b : List (Int × Int × Nat)) : atL (a ++ b) = atL a ++ atL b := by simp [atL]
theorem whenL_append (a b : List (Int × Int × Nat)) : whenL (a ++ b) = whenL a ++ whenL b := by simp [whenL]
theorem behL_append (a b : List (Int × Int × Nat)) : behL (a ++ b) = behL a ++ behL b := by simp [behL]
end Go.Proofs.YtdmdohjdmnmabaaGreat
namespace Go.Proofs.YtdmdohjdmnmabaaGreat
open Go.RowKit
set_option linter.unusedVariables false

/-- the body of the first loop -/
def loopBody : Code → Option Code
 | .loop c => some c
 | .seq a b => match loopBody a with
  | some c => some c
  | none => loopBody b
 | .block _ c => loopBody c
 | _ => none
set_option maxRecDepth 100000 in
/-- what a round is to come to -/
abbrev RoundN (w : World) (id : Int) (l : List Ev) (n : Nat) (A : Option Addr) (c k : Nat) : Act → World → Prop := fun a' w' =>
 (∃ u7 u8 u9 u10 u12 u13 u14 u15 u16 u17 u18 u19 u20 u21 u22 u23 u24 u25 u26 u27 u28 u29 u30 u31 u32 u33 u34 u35 u36 u37 u38 u39 u40 u41 u42 u43 u44 u45 u46 u47 u48 u49 u50 u51 u52 u53 u54 u55 u56 u57 u58 u59 u60 u61 u62 u63 u64 u65 u66 u67 u68 u69 u70 u71 u72 u73 u74 u75 u76 u77 u78 u79 u80 u81 u82 u83 u84 u85 u86 u87 u88 u89 u90 u91 u92 u93 u94 u95 u96 u97 u98 u99 u100 u101 u102 u103 u104 u105 u106 u107 u108 u109 u110 u111 u112 u113 u114 u115 u116 u117 u118 u119 u120 u121 u122 u123 u124 u125 u126 u127 u128 u129 u130 u131 u132 u133 u134 u135 u136 u137 u138 u139 u140 u141 u142 u143 u144 u145 u146 u147 u148 u149 u150 u151 u152 u153 u154 u155 u156 u157 u158 u159 u160 u161 u162 u163 u164 u165 u166 : Value, (∃ k : Nat, k ≤ n ∧ u9 = .int .i64 k ∧ Hid (OfSt w w' id l k u7 u8)) ∧ a' = { tmps := #[.slice A n c, .int .i64 id, undef, undef, .pointer (some ⟨w.heap.size, 0, none⟩), .bool false, .pointer (some ⟨w.heap.size + 1, 0, none⟩), u7, u8, u9, u10, .agg #[.int .i64 0, .int .i64 0, .int .i64 0, .slice none 0 0, .slice none 0 0, .slice none 0 0, .string ⟨#[]⟩, .string ⟨#[]⟩, .bool false, .int .i64 0], u12, u13, u14, u15, u16, u17, u18, u19, u20, u21, u22, u23, u24, u25, u26, u27, u28, u29, u30, u31, u32, u33, u34, u35, u36, u37, u38, u39, u40, u41, u42, u43, u44, u45, u46, u47, u48, u49, u50, u51, u52, u53, u54, u55, u56, u57, u58, u59, u60, u61, u62, u63, u64, u65, u66, u67, u68, u69, u70, u71, u72, u73, u74, u75, u76, u77, u78, u79, u80, u81, u82, u83, u84, u85, u86, u87, u88, u89, u90, u91, u92, u93, u94, u95, u96, u97, u98, u99, u100, u101, u102, u103, u104, u105, u106, u107, u108, u109, u110, u111, u112, u113, u114, u115, u116, u117, u118, u119, u120, u121, u122, u123, u124, u125, u126, u127, u128, u129, u130, u131, u132, u133, u134, u135, u136, u137, u138, u139, u140, u141, u142, u143, u144, u145, u146, u147, u148, u149, u150, u151, u152, u153, u154, u155, u156, u157, u158, u159, u160, u161, u162, u163, u164, u165, u166, undef, undef], defers := [] }) ∧
  n - (intOf (a'.tmps.getD 9 undef)).toNat < n - (intOf (.int .i64 k)).toNat
end Go.Proofs.YtdmdohjdmnmabaaGreat
