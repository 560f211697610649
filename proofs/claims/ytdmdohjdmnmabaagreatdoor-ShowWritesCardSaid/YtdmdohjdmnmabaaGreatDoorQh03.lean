/- Parts of a chain of lemmas: Life, Law, Open. Conditions: those of each theorem. -/
import Derived.Test.YtdmdohjdmnmabaaGreatDoorQh02
import Derived.Test.YtdmdohjdmnmabaaGreatDoorQh01
import Derived.ProofKit
import Derived.OpenShut
import Derived.SizedLaws
import Derived.Deep.Slices
import Derived.Deep.Fields
import Derived.ChangeSame
namespace Go.Proofs.YtdmdohjdmnmabaaGreatDoor
open Go.RowKit
set_option linter.unusedVariables false

structure Stp where
 tick : Int
 at_ : Int
 what : Int
 arm : Int
 n : Int
 status : Int
structure Ev where
 k : Int
 id : Int
 n : Int
 tick : Int
 s : ByteArray
 err : Int
 st : Stp
structure Inp where
 k : Int
 s : ByteArray
 n : Int
 tick : Int
def encStp (x : Stp) : List Value := [.int .i64 x.tick, .int .i64 x.at_, .int .i64 x.what, .int .i64 x.arm, .int .i64 x.n, .int .i64 x.status]
def encEv (x : Ev) : List Value := [.int .i64 x.k, .int .i64 x.id, .int .i64 x.n, .int .i64 x.tick, .string x.s, .int .i64 x.err, .int .i64 x.st.tick, .int .i64 x.st.at_, .int .i64 x.st.what, .int .i64 x.st.arm, .int .i64 x.st.n, .int .i64 x.st.status]
def encInp (x : Inp) : List Value := [.int .i64 x.k, .string x.s, .int .i64 x.n, .int .i64 x.tick]
theorem encStp_len (x : Stp) : (encStp x).length = 6 := rfl
theorem encEv_len (x : Ev) : (encEv x).length = 12 := rfl
theorem encInp_len (x : Inp) : (encInp x).length = 4 := rfl

structure LifeM where
 script : Int
 start : Int
 ins : List Inp
 steps : List Stp
 read : ByteArray
 taken : ByteArray
 eof : Bool
 status : Int
def life0 (script start : Int) : LifeM := ⟨script, start, [], [], ⟨#[]⟩, ⟨#[]⟩, false, 0⟩
def addL (id : Int) (f : LifeM) (x : Ev) : LifeM :=
 if x.k = 7 ∧ f.status = 0 then { f with ins := f.ins ++ [⟨4, ⟨#[]⟩, 0, x.tick⟩] }
 else if x.id ≠ id then f
 else if x.k = 4 then { f with ins := f.ins ++ [⟨1, x.s, 0, 0⟩], read := f.read ++ x.s }
 else if x.k = 5 then { f with ins := f.ins ++ [⟨2, ⟨#[]⟩, 0, 0⟩], eof := true }
 else if x.k = 6 then { f with ins := f.ins ++ [⟨3, ⟨#[]⟩, x.n, 0⟩], taken := f.taken ++ x.s }
 else if x.k = 8 then { f with ins := f.ins ++ [⟨5, ⟨#[]⟩, 0, x.st.tick⟩], steps := f.steps ++ [x.st], status := x.st.status }
 else f
/-- the tick of the last round -/
def clockOf (c : Int) (l : List Ev) : Int := l.foldl (fun c x => if x.k = 1 then x.tick else c) c
def opens (id : Int) (x : Ev) : Bool := decide (x.k = 2 ∧ x.id = id)
/-- the life of one -/
def lifeGo (id : Int) : Int → List Ev → Option LifeM
 | _, [] => none
 | c, x :: r => if opens id x then some (r.foldl (addL id) (life0 x.n c)) else lifeGo id (if x.k = 1 then x.tick else c) r
def ownOf (id : Int) (x : Ev) : Bool := decide (x.id = id ∨ x.k = 1 ∨ x.k = 7)
theorem addL_other (id : Int) (f : LifeM) (x : Ev) (h : ownOf id x = false) : addL id f x = f := by
 unfold ownOf at h
 rw [decide_eq_false_iff_not] at h
 unfold addL
 rw [if_neg (by omega), if_pos (by omega)]
theorem foldl_own (id : Int) (l : List Ev) : ∀ f : LifeM, (l.filter (ownOf id)).foldl (addL id) f = l.foldl (addL id) f := by
 induction l with
 | nil => intro f; rfl
 | cons x r ih =>
  intro f
  by_cases h : ownOf id x = true
  ·rw [List.filter_cons_of_pos h]
   exact ih _
  ·rw [List.filter_cons_of_neg h]
   rw [List.foldl_cons, addL_other id f x (by simpa using h)]
   exact ih _
/-- what is told of others changes no life -/
theorem lifeGo_own (id : Int) (l : List Ev) : ∀ c : Int, lifeGo id c (l.filter (ownOf id)) = lifeGo id c l := by
 induction l with
 | nil => intro c; rfl
 | cons x r ih =>
  intro c
  by_cases h : ownOf id x = true
  ·rw [List.filter_cons_of_pos h]
   unfold lifeGo
   by_cases ho : opens id x = true
   ·rw [if_pos ho, if_pos ho, foldl_own]
   ·rw [if_neg ho, if_neg ho]
    exact ih _
  ·rw [List.filter_cons_of_neg h]
   have h' : ownOf id x = false := by simpa using h
   unfold ownOf at h'
   rw [decide_eq_false_iff_not] at h'
   have ho : ¬ opens id x = true := by
    unfold opens
    rw [decide_eq_true_iff]
    omega
   conv => rhs; unfold lifeGo
   rw [if_neg ho, if_neg (by omega)]
   exact ih _
/-- by the place where it was opened -/
theorem lifeGo_none (id : Int) (l : List Ev) (h : ∀ x ∈ l, opens id x = false) : ∀ c, lifeGo id c l = none := by
 induction l with
 | nil => intro c; rfl
 | cons x r ih =>
  intro c
  unfold lifeGo
  rw [if_neg (by rw [h x (by simp)]; decide)]
  exact ih (fun y hy => h y (by simp [hy])) _
theorem lifeGo_at (id : Int) (pre : List Ev) (x : Ev) (post : List Ev) (h : ∀ y ∈ pre, opens id y = false) (hx : opens id x = true) : ∀ c, lifeGo id c (pre ++ x :: post) = some (post.foldl (addL id) (life0 x.n (clockOf c pre))) := by
 induction pre with
 | nil =>
  intro c
  show lifeGo id c (x :: post) = _
  unfold lifeGo
  rw [if_pos hx]
  rfl
 | cons y r ih =>
  intro c
  show lifeGo id c (y :: (r ++ x :: post)) = _
  unfold lifeGo
  rw [if_neg (by rw [h y (by simp)]; decide)]
  exact ih (fun z hz => h z (by simp [hz])) _
def cutEv (x : Ev) (s : ByteArray) : Ev := { x with s := s }
end Go.Proofs.YtdmdohjdmnmabaaGreatDoor
namespace Go.Proofs.YtdmdohjdmnmabaaGreatDoor
open Go.ChangeShapes Go.WideShapes Go.ChangeAt Go.RowKit

theorem Tryz.own : ownKnob Tryz.prog.godebug = none := by kernel_rfl
theorem Tryz.laidOut : laidOutB Tryz.prog = true := by kernel_rfl

section
variable {H : Type} {enc : TypeId × Value → H} {P : Program}
theorem trodAll_stays (hl : laidOutB P = true) {W W' : World} (hb : Only NoBlk W W') {sp : Nat → Bool} : ∀ (ts : List TypeId) (vs : List Value) (ds : List (DataW H)) (ps : List MemPlace),
 (∀ t ∈ ts, P.readableRec t = true ∧ t < P.types.size) → DataW.TrodAll enc P W 0 (fun _ => true) true ts vs ds ps → (∀ x ∈ ps, x.block < W.heap.size) → (∀ x ∈ ps, sp x.block = true) →
 DataW.TrodAll enc P W' 0 sp true ts vs ds ps
 | [], vs, ds, ps, _, h, _, _ => by
  obtain ⟨rfl, rfl, rfl⟩ := trodAll_nil h
  exact trodAll_mk0
 | t :: ts, vs, ds, ps, ht, h, hlt, hsp => by
  obtain ⟨v, vs', d, ds', p, q, rfl, rfl, rfl, h0, h1⟩ := trodAll_cons h
  have hsame : ∀ x ∈ p, W.sameAt W' x := fun x hx => by
   have hbx := hb.block x.block (hlt x (List.mem_append_left _ hx)) (fun hf => hf)
   cases x with
   | cell b o => exact World.cell?_of_block (w := W) hbx
   | map b => exact hbx
  exact trodAll_cons_mk (WideElems.Trod_stays hl (ht t (by simp)).1 (ht t (by simp)).2 h0 hsame (fun x hx => hsp x (List.mem_append_left _ hx)))
   (trodAll_stays hl hb ts vs' ds' q (fun t' h' => ht t' (by simp [h'])) h1 (fun x hx => hlt x (List.mem_append_right _ hx)) (fun x hx => hsp x (List.mem_append_right _ hx)))

/-- the call read its arguments alone, and answered true -/
theorem law_post {f : Func} {s : ChangeSpec} {apart fresh handsOn again : Bool} {W W' : World} {args : Array Value} {ds : List (DataW H)} {before : List MemPlace} {tb : TypeId}
 (hl : laidOutB P = true) (hts0 : (f.params.toList.all fun t => P.readableRec t && decide (t < P.types.size)) = true) (hres : f.resultTypes = #[tb]) (htb : P.underlying tb = some .bool) (hvars : s.vars = [])
 (hW : DataW.Whole enc P f.params.toList s.vars apart W args.toList ds [] before)
 (h1 : (s.fn H (ds ++ [])).results = [.lit (.bool true)]) (h2 : (s.fn H (ds ++ [])).args = ds) (h3 : (s.fn H (ds ++ [])).vars = []) (hb : Only NoBlk W W') :
 s.post enc P f apart fresh handsOn again W args (.bool true) W' := by
 have hts : ∀ t ∈ f.params.toList, P.readableRec t = true ∧ t < P.types.size := fun t ht => by
  have := List.all_eq_true.1 hts0 t ht
  simpa using this
 have hW' := hW
 obtain ⟨p, q, hA, hV, he, hfz, hnd⟩ := hW
 rw [hvars] at hV
 obtain ⟨_, rfl⟩ := trodVars_none hV
 rw [List.append_nil] at he
 subst he
 have hlt : ∀ x ∈ before, x.block < W.heap.size := fun x hx => hW'.lt x hx
 have hold : ∀ x ∈ before, (fun b => decide (b < W.heap.size)) x.block = true := fun x hx => by simpa using hlt x hx
 have hR : ∀ (b : Nat) (sp : Nat → Bool) (hd : Bool), DataW.TrodAll enc P W' b sp hd f.resultTypes.toList ((Value.bool true).resultList f.resultTypes.size) (s.fn H (ds ++ [])).results [] := by
  intro b sp hd
  rw [h1, hres]
  exact trodAll_mk1 (shut_bool htb _)
 have hAr : ∀ sp : Nat → Bool, (∀ x ∈ before, sp x.block = true) → DataW.TrodAll enc P W' 0 sp true f.params.toList args.toList (s.fn H (ds ++ [])).args before := by
  intro sp hsp
  rw [h2]
  exact trodAll_stays hl hb _ _ _ _ hts hA hlt hsp
 have hVr : ∀ sp : Nat → Bool, DataW.TrodVars enc P W' sp s.vars (s.fn H (ds ++ [])).vars [] := by
  intro sp
  rw [h3, hvars]
  rfl
 have hk : W.keptBut W' (· ∈ before) := by
  refine ⟨hb.os, hb.output, fun i hi => ?_⟩
  rw [hb.block i hi (fun h => h)]
  split <;> simp_all
 refine ⟨ds, [], before, [], before, [], hW', hR _ _ _, hAr _ hold, hVr _, World.keptBut_mono (fun p hp => ⟨hp, Or.inr (by simpa using hp)⟩) hk, fun _ => ?_⟩
 refine ⟨?_, _, _, ([] ++ before) ++ [], ⟨[] ++ before, [], trodAll_append (hAr _ (fun _ _ => rfl)) (hR _ _ _), hVr _, rfl, ?_, ?_⟩, ?_⟩
 ·exact ok_one hres rfl (okWide_bool_mk htb _)
 ·intro b off hp
  have hin : MemPlace.cell b off ∈ before := by simpa using hp
  have hbx := hb.block b (hlt _ hin) (fun hf => hf)
  rw [World.frozen?_of_block (w := W) (a := ⟨b, off, none⟩) hbx]
  exact hfz b off (by simpa using hin)
 ·intro ha
  have := hnd ha
  simpa using this
 ·intro p hp _
  simpa using hp
end
end Go.Proofs.YtdmdohjdmnmabaaGreatDoor
namespace Go.Proofs.YtdmdohjdmnmabaaGreatDoor
open Go.ChangeShapes Go.WideShapes Go.ChangeAt Go.RowKit Go.Deep

def flat {α : Type} (enc : α → List Value) (l : List α) : List Value := (l.map enc).flatten
theorem flat_nil {α : Type} (enc : α → List Value) : flat enc [] = [] := rfl
theorem flat_cons {α : Type} (enc : α → List Value) (a : α) (l : List α) : flat enc (a :: l) = enc a ++ flat enc l := rfl
theorem flat_append {α : Type} (enc : α → List Value) (a b : List α) : flat enc (a ++ b) = flat enc a ++ flat enc b := by simp [flat]
theorem flat_len {α : Type} (enc : α → List Value) (n : Nat) (h : ∀ a, (enc a).length = n) (l : List α) : (flat enc l).length = l.length * n := by
 induction l with
 | nil => simp [flat]
 | cons a l ih => rw [flat_cons, List.length_append, h, ih, List.length_cons, Nat.add_mul]; omega
theorem flat_at {α : Type} (enc : α → List Value) (n : Nat) (h : ∀ a, (enc a).length = n) : ∀ (l : List α) (k j : Nat) (a : α), l[k]? = some a → j < n → (flat enc l)[k * n + j]? = (enc a)[j]?
 | [], k, j, a, hk, _ => by simp at hk
 | b :: l, 0, j, a, hk, hj => by
  simp at hk
  subst hk
  rw [flat_cons, List.getElem?_append_left (by rw [h]; omega)]
  simp
 | b :: l, k + 1, j, a, hk, hj => by
  have hk' : l[k]? = some a := by simpa using hk
  rw [flat_cons, List.getElem?_append_right (by rw [h, Nat.add_mul]; omega), h, ← flat_at enc n h l k j a hk' hj]
  congr 1
  rw [Nat.add_mul]; omega
theorem exists_map {α : Type} {enc : α → List Value} {ok : α → Prop} : ∀ (xs : List (List Value)), (∀ x ∈ xs, ∃ a, x = enc a ∧ ok a) → ∃ l : List α, xs = l.map enc ∧ ∀ a ∈ l, ok a
 | [], _ => ⟨[], rfl, by simp⟩
 | x :: xs, h => by
  obtain ⟨a, ha, oka⟩ := h x (by simp)
  obtain ⟨l, hl, okl⟩ := exists_map xs (fun y hy => h y (by simp [hy]))
  exact ⟨a :: l, by rw [ha, hl]; rfl, by simp; exact ⟨oka, okl⟩⟩

section
variable {H : Type} {enc : TypeId × Value → H} {P : Program} {w : World}
theorem spot_none {a : Addr} {v : Value} (h : w.cell? a = some v) : a.spot = none := by
 unfold World.cell? at h
 split at h
 ·split at h
  ·cases h
  ·rename_i hs
   simpa using hs
 ·cases h
theorem add_block (a : Addr) (n : Nat) : (a.add n).block = a.block := by unfold Addr.add; split <;> rfl

/-- an argument that is a slice: its elements' cells, each as Q says -/
theorem open_rows {t e : TypeId} {v : Value} {d : DataW H} {p : List MemPlace} {sz : Nat} {Q : List Value → Prop} (ht : P.underlying t = some (.slice e)) (hsz : P.cellsOf e = sz) (hpos : 0 < sz)
 (hv : ∃ a n c, v = .slice a n c) (h : DataW.Trod enc P w 0 (fun _ => true) true t v d p) (hQ : ∀ fuel cs x, DataW.trod enc P w 0 (fun _ => true) true fuel e cs = some x → Q cs) :
 ∃ (A : Option Addr) (n c : Nat) (xs : List (List Value)), v = .slice A n c ∧ xs.length = n ∧ n ≤ c ∧ c ≤ maxLen ∧ Rd w NoBlk A xs.flatten ∧ (∀ x ∈ xs, x.length = sz ∧ Q x) ∧
  (d = .nil ∧ n = 0 ∨ ∃ el sp, d = .slice el sp ∧ el.length = n) := by
 obtain ⟨a0, n0, c0, rfl⟩ := hv
 obtain ⟨fuel, hf⟩ := h
 rcases open_slice ht hf with ⟨hcs, hx⟩ | ⟨a, len, cap, m, n, D, Pl, hcs, _, hl, hm, hmm, hx, hi⟩
 ·have e0 : Value.slice a0 n0 c0 = .slice none 0 0 := by simpa [Value.cells] using hcs
  injection e0 with e1 e2 e3
  subst e1 e2 e3
  simp only [Prod.mk.injEq] at hx
  exact ⟨none, 0, 0, [], rfl, rfl, Nat.le_refl _, by simp [maxLen], Or.inl rfl, by simp, Or.inl ⟨hx.1, rfl⟩⟩
 ·have e0 : Value.slice a0 n0 c0 = .slice (some a) len cap := by simpa [Value.cells] using hcs
  injection e0 with e1 e2 e3
  subst e1 e2 e3
  have hm' : m = c0 := by simpa using hmm
  have hcell : ∀ i, i < n0 → ∃ cs', w.cells? 0 (a.add (i * sz)) sz = some cs' ∧ cs'.length = sz ∧ Q cs' ∧ ∀ j, j < sz → w.cell? (a.add (i * sz + j)) = cs'[j]? := by
   intro i hlt
   obtain ⟨cs', hc, ht'⟩ := hi i (by omega)
   rw [hsz] at hc
   obtain ⟨_, hcl, hat⟩ := World.cells?_some hc
   refine ⟨cs', hc, hcl, hQ _ _ _ ht', fun j hj => ?_⟩
   rw [← Go.Deep.add_add]
   exact hat j hj
  have hxs : ∃ xs : List (List Value), xs.length = n0 ∧ (∀ x ∈ xs, x.length = sz ∧ Q x) ∧ ∀ j, j < n0 * sz → w.cell? (a.add j) = xs.flatten[j]? := by
   clear hi hf hx hcs hm hmm hm' D Pl
   induction n0 with
   | zero => exact ⟨[], rfl, by simp, by simp⟩
   | succ k ih =>
    obtain ⟨xs, h1, h2, h3⟩ := ih (by omega) (fun i hik => hcell i (by omega))
    obtain ⟨cs', _, hcl, hq, hat⟩ := hcell k (by omega)
    refine ⟨xs ++ [cs'], by simp [h1], ?_, fun j hj => ?_⟩
    ·intro x hx
     simp only [List.mem_append, List.mem_singleton] at hx
     rcases hx with hx | rfl
     ·exact h2 x hx
     ·exact ⟨hcl, hq⟩
    ·have hfl : xs.flatten.length = k * sz := by
      have := flat_len (fun x : List Value => x.take sz ++ List.replicate (sz - x.length) undef) sz (fun a => by simp; omega) xs
      rw [h1] at this
      rw [← this]
      unfold flat
      congr 1
      congr 1
      have : xs.map (fun x : List Value => x.take sz ++ List.replicate (sz - x.length) undef) = xs.map id := List.map_congr_left (fun x hx => by
       have hl := (h2 x hx).1
       rw [List.take_of_length_le (by omega)]; simp [hl])
      rw [this]; simp
     rw [List.flatten_append]
     by_cases hjk : j < k * sz
     ·rw [List.getElem?_append_left (by omega), h3 j hjk]
     ·rw [List.getElem?_append_right (by omega), hfl]
      have hs := hat (j - k * sz) (by rw [Nat.add_mul] at hj; omega)
      rw [show k * sz + (j - k * sz) = j by omega] at hs
      rw [hs]; simp
  obtain ⟨xs, h1, h2, h3⟩ := hxs
  refine ⟨some a, n0, c0, xs, rfl, h1, hl, hm, ?_, h2, Or.inr ⟨_, _, by simp only [Prod.mk.injEq] at hx; exact hx.1, by simp⟩⟩
  by_cases hn : n0 = 0
  ·subst hn
   have : xs = [] := List.eq_nil_of_length_eq_zero h1
   subst this
   exact Or.inl rfl
  ·right
   have hfl : xs.flatten.length = n0 * sz := by
    clear h3 hcell hi hf hx hcs
    subst h1
    clear hl hn hmm
    induction xs with
    | nil => simp
    | cons x xs ih =>
     rw [List.flatten_cons, List.length_append, ih (fun y hy => h2 y (by simp [hy])), (h2 x (by simp)).1, List.length_cons, Nat.add_mul]; omega
   have hp0 : 0 < n0 * sz := Nat.mul_pos (by omega) hpos
   have hc0 := h3 0 hp0
   rw [List.getElem?_eq_getElem (by omega)] at hc0
   have hs := spot_none hc0
   have hblk := World.block_lt_of_cell? w _ hc0
   obtain ⟨b, o, s⟩ := a
   have hs' : s = none := by
    unfold Addr.add at hs
    simpa using hs
   subst hs'
   refine ⟨b, o, rfl, fun h => h, by simpa [add_block] using hblk, fun j hj => ?_⟩
   have := h3 j (by omega)
   rw [Addr.add_lit] at this
   exact this

/-- a struct of one-cell fields: its cells, one a field -/
theorem struct_cells {t : TypeId} {fs : Array Field} {fuel : Nat} {cs : List Value} {x : DataW H × List MemPlace} {base : Nat} {spare : Nat → Bool} {held : Bool} (hs : P.underlying t = some (.struct fs)) (hone : oneCellFields P fs = true) (hC : P.cellsOf t = fs.size)
 (h : DataW.trod enc P w base spare held fuel t cs = some x) :
 cs.length = fs.size ∧ ∀ (i : Nat) (f : Field), fs[i]? = some f → ∃ v y n, cs[i]? = some v ∧ DataW.trod enc P w base spare held n f.type [v] = some y := by
 obtain ⟨ys, n', _, hy, hlen, hyl, hf⟩ := DataW.trod_struct hs h
 refine ⟨by rw [hlen, hC], fun j f hj => ?_⟩
 obtain ⟨ho, hk⟩ := hone_of hone j f hj
 have hjl : j < fs.size := (Array.getElem?_eq_some_iff.1 hj).1
 have h1 := hf j f hj
 rw [ho, hk] at h1
 have hone' : (cs.drop j).take 1 = [cs[j]'(by omega)] := by
  rw [List.drop_eq_getElem_cons (by omega)]
  rfl
 rw [hone'] at h1
 have hys : ys[j]? = some (ys[j]'(by omega)) := List.getElem?_eq_getElem (by omega)
 exact ⟨_, _, n', List.getElem?_eq_getElem (by omega), h1.trans hys⟩
theorem slice_of_cell {t e : TypeId} {v : Value} {n : Nat} {y : DataW H × List MemPlace} (ht : P.underlying t = some (.slice e)) (h : DataW.trod enc P w 0 (fun _ => true) true n t [v] = some y) : ∃ a n c, v = .slice a n c := by
 rcases open_slice ht h with ⟨hcs, _⟩ | ⟨a, len, cap, _, _, _, _, hcs, _⟩
 ·injection hcs with hcs _
  exact ⟨_, _, _, hcs⟩
 ·injection hcs with hcs _
  exact ⟨_, _, _, hcs⟩
theorem trod_of_cell {t : TypeId} {v : Value} {n : Nat} {y : DataW H × List MemPlace} (hv : ∃ a n c, v = .slice a n c) (h : DataW.trod enc P w 0 (fun _ => true) true n t [v] = some y) : DataW.Trod enc P w 0 (fun _ => true) true t v y.1 y.2 := by
 obtain ⟨a, k, c, rfl⟩ := hv
 exact ⟨n, h⟩
end
end Go.Proofs.YtdmdohjdmnmabaaGreatDoor
