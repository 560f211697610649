/- Parts of a chain of lemmas: Life, Law. Conditions: those of each theorem. -/
import Derived.Test.YtgfogoplmokilaaStr
import Derived.Test.YtgfogoplmokilaaMem
import Derived.ProofKit
import Derived.OpenShut
import Derived.SizedLaws
namespace Go.Proofs.Ytgfogoplmokilaa
open Go.RowKit
set_option linter.unusedVariables false

structure Stp where
  tick : Int
  at_ : Int
  what : Int
  arm : Int
  n : Int
  status : Int
structure Ev where
  k : Int
  id : Int
  n : Int
  tick : Int
  s : ByteArray
  err : Int
  st : Stp
structure Inp where
  k : Int
  s : ByteArray
  n : Int
  tick : Int
def encStp (x : Stp) : List Value := [.int .i64 x.tick, .int .i64 x.at_, .int .i64 x.what, .int .i64 x.arm, .int .i64 x.n, .int .i64 x.status]
def encEv (x : Ev) : List Value := [.int .i64 x.k, .int .i64 x.id, .int .i64 x.n, .int .i64 x.tick, .string x.s, .int .i64 x.err, .int .i64 x.st.tick, .int .i64 x.st.at_, .int .i64 x.st.what, .int .i64 x.st.arm, .int .i64 x.st.n, .int .i64 x.st.status]
def encInp (x : Inp) : List Value := [.int .i64 x.k, .string x.s, .int .i64 x.n, .int .i64 x.tick]
theorem encStp_len (x : Stp) : (encStp x).length = 6 := rfl
theorem encEv_len (x : Ev) : (encEv x).length = 12 := rfl
theorem encInp_len (x : Inp) : (encInp x).length = 4 := rfl

structure LifeM where
  script : Int
  start : Int
  ins : List Inp
  steps : List Stp
  read : ByteArray
  taken : ByteArray
  eof : Bool
  status : Int
def life0 (script start : Int) : LifeM := ⟨script, start, [], [], ⟨#[]⟩, ⟨#[]⟩, false, 0⟩
def addL (id : Int) (f : LifeM) (x : Ev) : LifeM :=
  if x.k = 7 ∧ f.status = 0 then { f with ins := f.ins ++ [⟨4, ⟨#[]⟩, 0, x.tick⟩] }
  else if x.id ≠ id then f
  else if x.k = 4 then { f with ins := f.ins ++ [⟨1, x.s, 0, 0⟩], read := f.read ++ x.s }
  else if x.k = 5 then { f with ins := f.ins ++ [⟨2, ⟨#[]⟩, 0, 0⟩], eof := true }
  else if x.k = 6 then { f with ins := f.ins ++ [⟨3, ⟨#[]⟩, x.n, 0⟩], taken := f.taken ++ x.s }
  else if x.k = 8 then { f with ins := f.ins ++ [⟨5, ⟨#[]⟩, 0, x.st.tick⟩], steps := f.steps ++ [x.st], status := x.st.status }
  else f
/-- the tick of the last round -/
def clockOf (c : Int) (l : List Ev) : Int := l.foldl (fun c x => if x.k = 1 then x.tick else c) c
def opens (id : Int) (x : Ev) : Bool := decide (x.k = 2 ∧ x.id = id)
/-- the life of one -/
def lifeGo (id : Int) : Int → List Ev → Option LifeM
  | _, [] => none
  | c, x :: r => if opens id x then some (r.foldl (addL id) (life0 x.n c)) else lifeGo id (if x.k = 1 then x.tick else c) r
def ownOf (id : Int) (x : Ev) : Bool := decide (x.id = id ∨ x.k = 1 ∨ x.k = 7)
theorem addL_other (id : Int) (f : LifeM) (x : Ev) (h : ownOf id x = false) : addL id f x = f := by
  unfold ownOf at h
  rw [decide_eq_false_iff_not] at h
  unfold addL
  rw [if_neg (by omega), if_pos (by omega)]
theorem foldl_own (id : Int) (l : List Ev) : ∀ f : LifeM, (l.filter (ownOf id)).foldl (addL id) f = l.foldl (addL id) f := by
  induction l with
  | nil => intro f; rfl
  | cons x r ih =>
    intro f
    by_cases h : ownOf id x = true
    · rw [List.filter_cons_of_pos h]
      exact ih _
    · rw [List.filter_cons_of_neg h]
      rw [List.foldl_cons, addL_other id f x (by simpa using h)]
      exact ih _
/-- what is told of others changes no life -/
theorem lifeGo_own (id : Int) (l : List Ev) : ∀ c : Int, lifeGo id c (l.filter (ownOf id)) = lifeGo id c l := by
  induction l with
  | nil => intro c; rfl
  | cons x r ih =>
    intro c
    by_cases h : ownOf id x = true
    · rw [List.filter_cons_of_pos h]
      unfold lifeGo
      by_cases ho : opens id x = true
      · rw [if_pos ho, if_pos ho, foldl_own]
      · rw [if_neg ho, if_neg ho]
        exact ih _
    · rw [List.filter_cons_of_neg h]
      have h' : ownOf id x = false := by simpa using h
      unfold ownOf at h'
      rw [decide_eq_false_iff_not] at h'
      have ho : ¬ opens id x = true := by
        unfold opens
        rw [decide_eq_true_iff]
        omega
      conv => rhs; unfold lifeGo
      rw [if_neg ho, if_neg (by omega)]
      exact ih _
/-- by the place where it was opened -/
theorem lifeGo_none (id : Int) (l : List Ev) (h : ∀ x ∈ l, opens id x = false) : ∀ c, lifeGo id c l = none := by
  induction l with
  | nil => intro c; rfl
  | cons x r ih =>
    intro c
    unfold lifeGo
    rw [if_neg (by rw [h x (by simp)]; decide)]
    exact ih (fun y hy => h y (by simp [hy])) _
theorem lifeGo_at (id : Int) (pre : List Ev) (x : Ev) (post : List Ev) (h : ∀ y ∈ pre, opens id y = false) (hx : opens id x = true) : ∀ c, lifeGo id c (pre ++ x :: post) = some (post.foldl (addL id) (life0 x.n (clockOf c pre))) := by
  induction pre with
  | nil =>
    intro c
    show lifeGo id c (x :: post) = _
    unfold lifeGo
    rw [if_pos hx]
    rfl
  | cons y r ih =>
    intro c
    show lifeGo id c (y :: (r ++ x :: post)) = _
    unfold lifeGo
    rw [if_neg (by rw [h y (by simp)]; decide)]
    exact ih (fun z hz => h z (by simp [hz])) _
def cutEv (x : Ev) (s : ByteArray) : Ev := { x with s := s }
end Go.Proofs.Ytgfogoplmokilaa
namespace Go.Proofs.Ytgfogoplmokilaa
open Go.ChangeShapes Go.WideShapes Go.ChangeAt Go.RowKit

theorem Try.own : ownKnob Try.prog.godebug = none := by kernel_rfl
theorem Try.laidOut : laidOutB Try.prog = true := by kernel_rfl

section
variable {H : Type} {enc : TypeId × Value → H} {P : Program}
theorem trodAll_stays (hl : laidOutB P = true) {W W' : World} (hb : Only NoBlk W W') {sp : Nat → Bool} : ∀ (ts : List TypeId) (vs : List Value) (ds : List (DataW H)) (ps : List MemPlace),
    (∀ t ∈ ts, P.readableRec t = true ∧ t < P.types.size) → DataW.TrodAll enc P W 0 (fun _ => true) true ts vs ds ps → (∀ x ∈ ps, x.block < W.heap.size) → (∀ x ∈ ps, sp x.block = true) →
    DataW.TrodAll enc P W' 0 sp true ts vs ds ps
  | [], vs, ds, ps, _, h, _, _ => by
    obtain ⟨rfl, rfl, rfl⟩ := trodAll_nil h
    exact trodAll_mk0
  | t :: ts, vs, ds, ps, ht, h, hlt, hsp => by
    obtain ⟨v, vs', d, ds', p, q, rfl, rfl, rfl, h0, h1⟩ := trodAll_cons h
    have hsame : ∀ x ∈ p, W.sameAt W' x := fun x hx => by
      have hbx := hb.block x.block (hlt x (List.mem_append_left _ hx)) (fun hf => hf)
      cases x with
      | cell b o => exact World.cell?_of_block (w := W) hbx
      | map b => exact hbx
    exact trodAll_cons_mk (WideElems.Trod_stays hl (ht t (by simp)).1 (ht t (by simp)).2 h0 hsame (fun x hx => hsp x (List.mem_append_left _ hx)))
      (trodAll_stays hl hb ts vs' ds' q (fun t' h' => ht t' (by simp [h'])) h1 (fun x hx => hlt x (List.mem_append_right _ hx)) (fun x hx => hsp x (List.mem_append_right _ hx)))

/-- the call read its arguments alone, and answered true -/
theorem law_post {f : Func} {s : ChangeSpec} {apart fresh handsOn again : Bool} {W W' : World} {args : Array Value} {ds : List (DataW H)} {before : List MemPlace} {tb : TypeId}
    (hl : laidOutB P = true) (hts0 : (f.params.toList.all fun t => P.readableRec t && decide (t < P.types.size)) = true) (hres : f.resultTypes = #[tb]) (htb : P.underlying tb = some .bool) (hvars : s.vars = [])
    (hW : DataW.Whole enc P f.params.toList s.vars apart W args.toList ds [] before)
    (h1 : (s.fn H (ds ++ [])).results = [.lit (.bool true)]) (h2 : (s.fn H (ds ++ [])).args = ds) (h3 : (s.fn H (ds ++ [])).vars = []) (hb : Only NoBlk W W') :
    s.post enc P f apart fresh handsOn again W args (.bool true) W' := by
  have hts : ∀ t ∈ f.params.toList, P.readableRec t = true ∧ t < P.types.size := fun t ht => by
    have := List.all_eq_true.1 hts0 t ht
    simpa using this
  have hW' := hW
  obtain ⟨p, q, hA, hV, he, hfz, hnd⟩ := hW
  rw [hvars] at hV
  obtain ⟨_, rfl⟩ := trodVars_none hV
  rw [List.append_nil] at he
  subst he
  have hlt : ∀ x ∈ before, x.block < W.heap.size := fun x hx => hW'.lt x hx
  have hold : ∀ x ∈ before, (fun b => decide (b < W.heap.size)) x.block = true := fun x hx => by simpa using hlt x hx
  have hR : ∀ (b : Nat) (sp : Nat → Bool) (hd : Bool), DataW.TrodAll enc P W' b sp hd f.resultTypes.toList ((Value.bool true).resultList f.resultTypes.size) (s.fn H (ds ++ [])).results [] := by
    intro b sp hd
    rw [h1, hres]
    exact trodAll_mk1 (shut_bool htb _)
  have hAr : ∀ sp : Nat → Bool, (∀ x ∈ before, sp x.block = true) → DataW.TrodAll enc P W' 0 sp true f.params.toList args.toList (s.fn H (ds ++ [])).args before := by
    intro sp hsp
    rw [h2]
    exact trodAll_stays hl hb _ _ _ _ hts hA hlt hsp
  have hVr : ∀ sp : Nat → Bool, DataW.TrodVars enc P W' sp s.vars (s.fn H (ds ++ [])).vars [] := by
    intro sp
    rw [h3, hvars]
    rfl
  have hk : W.keptBut W' (· ∈ before) := by
    refine ⟨hb.os, hb.output, fun i hi => ?_⟩
    rw [hb.block i hi (fun h => h)]
    split <;> simp_all
  refine ⟨ds, [], before, [], before, [], hW', hR _ _ _, hAr _ hold, hVr _, World.keptBut_mono (fun p hp => ⟨hp, Or.inr (by simpa using hp)⟩) hk, fun _ => ?_⟩
  refine ⟨?_, _, _, ([] ++ before) ++ [], ⟨[] ++ before, [], trodAll_append (hAr _ (fun _ _ => rfl)) (hR _ _ _), hVr _, rfl, ?_, ?_⟩, ?_⟩
  · exact ok_one hres rfl (okWide_bool_mk htb _)
  · intro b off hp
    have hin : MemPlace.cell b off ∈ before := by simpa using hp
    have hbx := hb.block b (hlt _ hin) (fun hf => hf)
    rw [World.frozen?_of_block (w := W) (a := ⟨b, off, none⟩) hbx]
    exact hfz b off (by simpa using hin)
  · intro ha
    have := hnd ha
    simpa using this
  · intro p hp _
    simpa using hp
end
end Go.Proofs.Ytgfogoplmokilaa
