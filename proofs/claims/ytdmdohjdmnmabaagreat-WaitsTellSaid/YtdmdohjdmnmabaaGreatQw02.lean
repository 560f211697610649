/- Parts of a chain of lemmas: ProgP, Str, Life, Law. Conditions: those of each theorem. -/
import Derived.Test.YtdmdohjdmnmabaaGreatQw01
import Derived.Laws.CopyOwn
import Derived.Lib.LazyBuf
import Derived.Lib.SlBytesRow
import Derived.Deep.RegionLaw
import Derived.ProofKit
import Derived.OpenShut
import Derived.SizedLaws
namespace Go.Proofs.YtdmdohjdmnmabaaGreat
set_option linter.unusedVariables false

/-- an arm: a pattern, and the op that comes -/
structure ArmM where
 pat : ByteArray
 «to» : Int
/-- an op -/
structure OpM where
 kind : Int
 text : ByteArray
 n : Int
 «to» : Int
 arms : List ArmM
 onT : Int
 onE : Int
/-- a script -/
structure ProgM where
 name : ByteArray
 deadline : Int
 jumps : Int
 ops : List OpM

def okC (c : UInt8) : Bool := (decide (97 ≤ c.toNat) && decide (c.toNat ≤ 122)) || (decide (48 ≤ c.toNat) && decide (c.toNat ≤ 57))
/-- whether a text is a name -/
def nameL (l : List UInt8) : Bool := decide (l ≠ []) && decide (l.length ≤ 16) && decide (97 ≤ (l.getD 0 0).toNat) && l.all okC
def nameB (s : ByteArray) : Bool := nameL s.data.toList
/-- whether an op comes -/
def comesB (k : Nat) (t : Int) : Bool := decide (0 ≤ t) && decide (t ≤ k)
/-- whether an op has nothing but what its kind has -/
def bareB (o : OpM) : Bool := (decide (o.kind = 1) || decide (o.text.size = 0)) && (decide (o.kind = 2) || decide (o.kind = 4) || decide (o.n = 0)) && (decide (o.kind = 3) || decide (o.to = 0)) &&
 (decide (o.kind = 2) || (decide (o.arms.length = 0) && decide (o.onT = 0) && decide (o.onE = 0)))
def patE (s : ByteArray) : Int := ((checkS s.data.toList).2 : Nat)
def armE (k : Nat) (a : ArmM) : Int := if 64 < a.pat.size then 4 else if patE a.pat ≠ 0 then patE a.pat else if comesB k a.to = true then 0 else 13
/-- the first that is not 0 -/
def firstE : List Int → Int
 | [] => 0
 | e :: r => if e ≠ 0 then e else firstE r
def tickB (least n : Int) : Bool := decide (least ≤ n) && decide (n ≤ 1000000000000)
def nevB (n : Int) : Bool := decide (n = 9223372036854775807)
def toB (k : Nat) (t : Int) : Bool := decide (t = -1) || comesB k t
def expectE (k : Nat) (o : OpM) : Int := if (nevB o.n || tickB 0 o.n) = false then 12 else if 8 < o.arms.length then 4 else if firstE (o.arms.map (armE k)) ≠ 0 then firstE (o.arms.map (armE k))
 else if (toB k o.onT && toB k o.onE) = true then 0 else 13
/-- what is wrong of an op -/
def opE (k : Nat) (o : OpM) : Int := if o.kind < 1 ∨ 6 < o.kind then 11 else if bareB o = false then 2 else if o.kind = 1 then (if o.text.size = 0 then 9 else if 256 < o.text.size then 4 else 0)
 else if o.kind = 2 then expectE k o else if o.kind = 3 then (if comesB k o.to = true then 0 else 13) else if o.kind = 4 then (if tickB 0 o.n = true then 0 else 12) else 0
/-- the place of the first that is not 0, and it -/
def firstAt : Nat → List Int → Int × Int
 | _, [] => (0, 0)
 | i, e :: r => if e ≠ 0 then (i, e) else firstAt (i + 1) r
def headE (p : ProgM) : Int := if nameB p.name = false then 10 else if ((nevB p.deadline || tickB 1 p.deadline) && decide (0 ≤ p.jumps) && decide (p.jumps ≤ 1000)) = false then 12 else if 200 < p.ops.length then 4 else 0
/-- what is wrong of a script, and where -/
def wrongM (p : ProgM) : Int × Int := if headE p ≠ 0 then (-1, headE p) else firstAt 0 (p.ops.map (opE p.ops.length))
def goodM (p : ProgM) : Bool := decide ((wrongM p).2 = 0)

theorem firstE_take {l : List Int} {k : Nat} (h : ∀ j, j < k → l.getD j 0 = 0) (hk : k < l.length) (hn : l.getD k 0 ≠ 0) : firstE l = l.getD k 0 := by
 induction l generalizing k with
 | nil => simp at hk
 | cons e r ih =>
  cases k with
  | zero => simp at hn; simp [firstE, hn]
  | succ k =>
   have h0 := h 0 (by omega)
   simp at h0
   subst h0
   simp [firstE]
   simp at hk hn
   exact ih (fun j hj => by have := h (j + 1) (by omega); simpa using this) hk (by simpa using hn)
theorem firstE_zero {l : List Int} (h : ∀ j, j < l.length → l.getD j 0 = 0) : firstE l = 0 := by
 induction l with
 | nil => rfl
 | cons e r ih =>
  have h0 := h 0 (by simp)
  simp at h0
  subst h0
  simp [firstE]
  exact ih (fun j hj => by have := h (j + 1) (by simp; omega); simpa using this)
theorem firstAt_take {l : List Int} {i k : Nat} (h : ∀ j, j < k → l.getD j 0 = 0) (hk : k < l.length) (hn : l.getD k 0 ≠ 0) : firstAt i l = (((i + k : Nat) : Int), l.getD k 0) := by
 induction l generalizing k i with
 | nil => simp at hk
 | cons e r ih =>
  cases k with
  | zero => simp at hn; simp [firstAt, hn]
  | succ k =>
   have h0 := h 0 (by omega)
   simp at h0
   subst h0
   simp at hk hn
   have := ih (i := i + 1) (k := k) (fun j hj => by have := h (j + 1) (by omega); simpa using this) hk (by simpa using hn)
   simp [firstAt]
   rw [this]
   simp
   omega
theorem firstAt_zero {l : List Int} {i : Nat} (h : ∀ j, j < l.length → l.getD j 0 = 0) : firstAt i l = (0, 0) := by
 induction l generalizing i with
 | nil => rfl
 | cons e r ih =>
  have h0 := h 0 (by simp)
  simp at h0
  subst h0
  simp [firstAt]
  exact ih (fun j hj => by have := h (j + 1) (by simp; omega); simpa using this)
end Go.Proofs.YtdmdohjdmnmabaaGreat
namespace Go.Proofs.YtdmdohjdmnmabaaGreat
open Go.RowKit
set_option linter.unusedVariables false

theorem ba_ext {a b : ByteArray} (h : a.data.toList = b.data.toList) : a = b := by
 apply ByteArray.ext
 exact Array.toList_inj.1 h
theorem ba_size (a : ByteArray) : a.data.toList.length = a.size := by rw [Array.length_toList]; rfl
theorem ba_app (a b : ByteArray) : (a ++ b).data.toList = a.data.toList ++ b.data.toList := by rw [ByteArray.data_append, Array.toList_append]
theorem ba_sub (s : ByteArray) (a b : Nat) : (s.extract a b).data.toList = (s.data.toList.drop a).take (b - a) := Lib.extract_data s a b
theorem ba_sub_size (s : ByteArray) (a b : Nat) (h : a ≤ b) (hb : b ≤ s.size) : (s.extract a b).size = b - a := by
 rw [← ba_size, ba_sub, List.length_take, List.length_drop, ba_size]; omega
/-- the cells of bytes -/
def bys (X : List UInt8) : List Value := X.map fun x => Value.int .u8 (x.toNat : Int)
theorem bys_len (X : List UInt8) : (bys X).length = X.length := by simp [bys]
theorem bys_at (X : List UInt8) (i : Nat) (h : i < X.length) : (bys X)[i]? = some (.int .u8 (X[i].toNat : Int)) := by simp [bys, h]
theorem bys_one (X : List UInt8) : ∀ u ∈ bys X, u.oneCell' = true := by
 intro u hu
 simp [bys] at hu
 obtain ⟨x, _, rfl⟩ := hu
 rfl
theorem splice_get {α : Type} (L : List α) (off : Nat) (cs : List α) (h : off + cs.length ≤ L.length) (j : Nat) : (splice L off cs)[j]? = if off ≤ j ∧ j < off + cs.length then cs[j - off]? else L[j]? := by
 unfold splice
 have hl : (L.take off).length = off := by rw [List.length_take]; omega
 by_cases h1 : j < off
 ·rw [if_neg (by omega), List.getElem?_append_left (by omega), List.getElem?_take, if_pos h1]
 ·rw [List.getElem?_append_right (by omega), hl]
  by_cases h2 : j < off + cs.length
  ·rw [if_pos (by omega), List.getElem?_append_left (by omega)]
  ·rw [if_neg (by omega), List.getElem?_append_right (by omega), List.getElem?_drop]
   congr 1; omega
theorem splice_bys (X : List UInt8) (off : Nat) (cs : List UInt8) : splice (bys X) off (bys cs) = bys (splice X off cs) := by
 unfold splice bys
 simp

theorem splice_tail {α : Type} (L T : List α) (off : Nat) (cs : List α) (h : off + cs.length ≤ L.length) : splice (L ++ T) off cs = splice L off cs ++ T := by
 unfold splice
 rw [List.take_append_of_le_length (by omega), List.drop_append_of_le_length h]
 simp
section
variable {P : Program}
/-- copy out of a text: as many bytes as there is room for go over -/
theorem run_copy_str (w : World) (dT sT ty elem : TypeId) (g o dLen dCap : Nat) (s : ByteArray) (cur : List Value) (t : TypeId)
 (hu : P.underlying dT = some (.slice elem)) (hs : (P.info? elem).map (·.size) = some 1)
 (hg : w.heap[g]? = some (.cells cur.toArray t (0, 0))) (hfit : o + Nat.min s.size dLen ≤ cur.length) :
 (Builtin.copy_ #[dT, sT] ty #[.slice (some ⟨g, o, none⟩) dLen dCap, .string s]).run P w =
  .ok (goInt (Nat.min s.size dLen)) (w.setRow g (splice cur o (bys (s.data.toList.take (Nat.min s.size dLen)))).toArray) := by
 have hl : (bys (s.data.toList.take (Nat.min s.size dLen))).length = Nat.min s.size dLen := by
  rw [bys_len, List.length_take, ba_size]; exact Nat.min_eq_left (Nat.min_le_left _ _)
 have hst := run_storeCells_at P g o t (bys (s.data.toList.take (Nat.min s.size dLen))) 0 cur.toArray w hg (by rw [hl]; simpa using hfit) (bys_one _)
 cases hq : P.info? elem with
 | none => simp [hq] at hs
 | some i =>
  have hi : i.size = 1 := by simpa [hq] using hs
  simp only [Nat.add_zero] at hst
  have e : (List.map (fun x : UInt8 => Value.int .u8 (x.toNat : Int)) s.data.toList).take (Nat.min s.size dLen) = bys (s.data.toList.take (Nat.min s.size dLen)) := by unfold bys; rw [List.map_take]
  simp [Builtin.copy_, run_underlying hu, Builtin.lenOf, Builtin.firstCells, sizeOf, typeInfo, hq]
  rw [e, hst]
  simp [splice, hl]
theorem setRow_only (w : World) (g : Nat) (cs : Array Value) : Only (· = g) w (w.setRow g cs) :=
 ⟨rfl, rfl, by simp [World.setRow], fun k hk hn => setRow_other w g k cs hn⟩
theorem step_copy_str {ops : Array Oper} {o : Oper} {a : Act} {w : World} {K : Act → World → Prop} {Q : Exit → Act → World → Prop} {E : Prop}
 (hg : o.guard = none) (d x : Operand) (dT sT : TypeId) (hop : o.op = Op.call { callee := Callee.builtin Builtin.copy, args := #[d, x], argTypes := #[dT, sT] })
 (elem : TypeId) (hu : P.underlying dT = some (.slice elem)) (hs : (P.info? elem).map (·.size) = some 1)
 (g off dLen dCap : Nat) (hd : a.eval d = .slice (some ⟨g, off, none⟩) dLen dCap) (s : ByteArray) (hx : a.eval x = .string s) (cur : List UInt8) (t : TypeId)
 (Y : List Value) (hB : Blk w g t (bys cur ++ Y).toArray) (k : Nat) (hk : Nat.min s.size dLen = k) (hfit : off + k ≤ cur.length) (X1 : List UInt8) (hX : splice cur off (s.data.toList.take k) = X1)
 (h : ∀ w', Blk w' g t (bys X1 ++ Y).toArray → Only (· = g) w w' → K (a.put o.dst (.int .i64 k)) w') :
 if Region.wanted o (yielded ops a.tmps) = true then Oper.wp P o a w K Q else E := by
 have hw : Region.wanted o (yielded ops a.tmps) = true := by simp [Region.wanted, hg]
 rw [if_pos hw]
 have hrun := run_copy_str (P := P) w dT sT o.type elem g off dLen dCap s (bys cur ++ Y) t hu hs hB (by rw [hk, List.length_append, bys_len]; omega)
 rw [hk, splice_tail _ _ _ _ (by rw [bys_len, bys_len, List.length_take, ba_size]; omega), splice_bys, hX] at hrun
 unfold Oper.wp
 simp [execOp, hop, resolve, invoke, builtin, hd, hx, hrun, Result.andThen]
 exact h _ (setRow_heap w g _ _ t _ hB) (setRow_only w g _)
theorem wpList_convert_run (w : World) {ops : Array Oper} {rest : List Oper} {o : Oper} {a : Act} {Q : Exit → Act → World → Prop} (hgd : o.guard = none) (src dst : TypeId) (x : Operand)
 (ho : o.op = .convert src dst x) (v : Value) (hx : a.eval x = v) {v' : Value} {w' : World} (hr : (convert src dst v).run P w = .ok v' w') (h : wpList P ops Q rest (a.put o.dst v') w') : wpList P ops Q (o :: rest) a w :=
 wpList_plain hgd fun K hK => by
  unfold Oper.wp execOp
  simp only [ho, Sem.run_bind, Sem.run_pure, Result.andThen_ok, hx, hr]
  exact hK _ _ h
end
end Go.Proofs.YtdmdohjdmnmabaaGreat
namespace Go.Proofs.YtdmdohjdmnmabaaGreat
open Go.RowKit
set_option linter.unusedVariables false

structure Stp where
 tick : Int
 at_ : Int
 what : Int
 arm : Int
 n : Int
 status : Int
structure Ev where
 k : Int
 id : Int
 n : Int
 tick : Int
 s : ByteArray
 err : Int
 st : Stp
structure Inp where
 k : Int
 s : ByteArray
 n : Int
 tick : Int
def encStp (x : Stp) : List Value := [.int .i64 x.tick, .int .i64 x.at_, .int .i64 x.what, .int .i64 x.arm, .int .i64 x.n, .int .i64 x.status]
def encEv (x : Ev) : List Value := [.int .i64 x.k, .int .i64 x.id, .int .i64 x.n, .int .i64 x.tick, .string x.s, .int .i64 x.err, .int .i64 x.st.tick, .int .i64 x.st.at_, .int .i64 x.st.what, .int .i64 x.st.arm, .int .i64 x.st.n, .int .i64 x.st.status]
def encInp (x : Inp) : List Value := [.int .i64 x.k, .string x.s, .int .i64 x.n, .int .i64 x.tick]
theorem encStp_len (x : Stp) : (encStp x).length = 6 := rfl
theorem encEv_len (x : Ev) : (encEv x).length = 12 := rfl
theorem encInp_len (x : Inp) : (encInp x).length = 4 := rfl

structure LifeM where
 script : Int
 start : Int
 ins : List Inp
 steps : List Stp
 read : ByteArray
 taken : ByteArray
 eof : Bool
 status : Int
def life0 (script start : Int) : LifeM := ⟨script, start, [], [], ⟨#[]⟩, ⟨#[]⟩, false, 0⟩
def addL (id : Int) (f : LifeM) (x : Ev) : LifeM :=
 if x.k = 7 ∧ f.status = 0 then { f with ins := f.ins ++ [⟨4, ⟨#[]⟩, 0, x.tick⟩] }
 else if x.id ≠ id then f
 else if x.k = 4 then { f with ins := f.ins ++ [⟨1, x.s, 0, 0⟩], read := f.read ++ x.s }
 else if x.k = 5 then { f with ins := f.ins ++ [⟨2, ⟨#[]⟩, 0, 0⟩], eof := true }
 else if x.k = 6 then { f with ins := f.ins ++ [⟨3, ⟨#[]⟩, x.n, 0⟩], taken := f.taken ++ x.s }
 else if x.k = 8 then { f with ins := f.ins ++ [⟨5, ⟨#[]⟩, 0, x.st.tick⟩], steps := f.steps ++ [x.st], status := x.st.status }
 else f
/-- the tick of the last round -/
def clockOf (c : Int) (l : List Ev) : Int := l.foldl (fun c x => if x.k = 1 then x.tick else c) c
def opens (id : Int) (x : Ev) : Bool := decide (x.k = 2 ∧ x.id = id)
/-- the life of one -/
def lifeGo (id : Int) : Int → List Ev → Option LifeM
 | _, [] => none
 | c, x :: r => if opens id x then some (r.foldl (addL id) (life0 x.n c)) else lifeGo id (if x.k = 1 then x.tick else c) r
def ownOf (id : Int) (x : Ev) : Bool := decide (x.id = id ∨ x.k = 1 ∨ x.k = 7)
theorem addL_other (id : Int) (f : LifeM) (x : Ev) (h : ownOf id x = false) : addL id f x = f := by
 unfold ownOf at h
 rw [decide_eq_false_iff_not] at h
 unfold addL
 rw [if_neg (by omega), if_pos (by omega)]
theorem foldl_own (id : Int) (l : List Ev) : ∀ f : LifeM, (l.filter (ownOf id)).foldl (addL id) f = l.foldl (addL id) f := by
 induction l with
 | nil => intro f; rfl
 | cons x r ih =>
  intro f
  by_cases h : ownOf id x = true
  ·rw [List.filter_cons_of_pos h]
   exact ih _
  ·rw [List.filter_cons_of_neg h]
   rw [List.foldl_cons, addL_other id f x (by simpa using h)]
   exact ih _
/-- what is told of others changes no life -/
theorem lifeGo_own (id : Int) (l : List Ev) : ∀ c : Int, lifeGo id c (l.filter (ownOf id)) = lifeGo id c l := by
 induction l with
 | nil => intro c; rfl
 | cons x r ih =>
  intro c
  by_cases h : ownOf id x = true
  ·rw [List.filter_cons_of_pos h]
   unfold lifeGo
   by_cases ho : opens id x = true
   ·rw [if_pos ho, if_pos ho, foldl_own]
   ·rw [if_neg ho, if_neg ho]
    exact ih _
  ·rw [List.filter_cons_of_neg h]
   have h' : ownOf id x = false := by simpa using h
   unfold ownOf at h'
   rw [decide_eq_false_iff_not] at h'
   have ho : ¬ opens id x = true := by
    unfold opens
    rw [decide_eq_true_iff]
    omega
   conv => rhs; unfold lifeGo
   rw [if_neg ho, if_neg (by omega)]
   exact ih _
/-- by the place where it was opened -/
theorem lifeGo_none (id : Int) (l : List Ev) (h : ∀ x ∈ l, opens id x = false) : ∀ c, lifeGo id c l = none := by
 induction l with
 | nil => intro c; rfl
 | cons x r ih =>
  intro c
  unfold lifeGo
  rw [if_neg (by rw [h x (by simp)]; decide)]
  exact ih (fun y hy => h y (by simp [hy])) _
theorem lifeGo_at (id : Int) (pre : List Ev) (x : Ev) (post : List Ev) (h : ∀ y ∈ pre, opens id y = false) (hx : opens id x = true) : ∀ c, lifeGo id c (pre ++ x :: post) = some (post.foldl (addL id) (life0 x.n (clockOf c pre))) := by
 induction pre with
 | nil =>
  intro c
  show lifeGo id c (x :: post) = _
  unfold lifeGo
  rw [if_pos hx]
  rfl
 | cons y r ih =>
  intro c
  show lifeGo id c (y :: (r ++ x :: post)) = _
  unfold lifeGo
  rw [if_neg (by rw [h y (by simp)]; decide)]
  exact ih (fun z hz => h z (by simp [hz])) _
def cutEv (x : Ev) (s : ByteArray) : Ev := { x with s := s }
end Go.Proofs.YtdmdohjdmnmabaaGreat
namespace Go.Proofs.YtdmdohjdmnmabaaGreat
open Go.ChangeShapes Go.WideShapes Go.ChangeAt Go.RowKit

theorem Tryz.own : ownKnob Tryz.prog.godebug = none := by kernel_rfl
theorem Tryz.laidOut : laidOutB Tryz.prog = true := by kernel_rfl

section
variable {H : Type} {enc : TypeId × Value → H} {P : Program}
theorem trodAll_stays (hl : laidOutB P = true) {W W' : World} (hb : Only NoBlk W W') {sp : Nat → Bool} : ∀ (ts : List TypeId) (vs : List Value) (ds : List (DataW H)) (ps : List MemPlace),
 (∀ t ∈ ts, P.readableRec t = true ∧ t < P.types.size) → DataW.TrodAll enc P W 0 (fun _ => true) true ts vs ds ps → (∀ x ∈ ps, x.block < W.heap.size) → (∀ x ∈ ps, sp x.block = true) →
 DataW.TrodAll enc P W' 0 sp true ts vs ds ps
 | [], vs, ds, ps, _, h, _, _ => by
  obtain ⟨rfl, rfl, rfl⟩ := trodAll_nil h
  exact trodAll_mk0
 | t :: ts, vs, ds, ps, ht, h, hlt, hsp => by
  obtain ⟨v, vs', d, ds', p, q, rfl, rfl, rfl, h0, h1⟩ := trodAll_cons h
  have hsame : ∀ x ∈ p, W.sameAt W' x := fun x hx => by
   have hbx := hb.block x.block (hlt x (List.mem_append_left _ hx)) (fun hf => hf)
   cases x with
   | cell b o => exact World.cell?_of_block (w := W) hbx
   | map b => exact hbx
  exact trodAll_cons_mk (WideElems.Trod_stays hl (ht t (by simp)).1 (ht t (by simp)).2 h0 hsame (fun x hx => hsp x (List.mem_append_left _ hx)))
   (trodAll_stays hl hb ts vs' ds' q (fun t' h' => ht t' (by simp [h'])) h1 (fun x hx => hlt x (List.mem_append_right _ hx)) (fun x hx => hsp x (List.mem_append_right _ hx)))

/-- the call read its arguments alone, and answered true -/
theorem law_post {f : Func} {s : ChangeSpec} {apart fresh handsOn again : Bool} {W W' : World} {args : Array Value} {ds : List (DataW H)} {before : List MemPlace} {tb : TypeId}
 (hl : laidOutB P = true) (hts0 : (f.params.toList.all fun t => P.readableRec t && decide (t < P.types.size)) = true) (hres : f.resultTypes = #[tb]) (htb : P.underlying tb = some .bool) (hvars : s.vars = [])
 (hW : DataW.Whole enc P f.params.toList s.vars apart W args.toList ds [] before)
 (h1 : (s.fn H (ds ++ [])).results = [.lit (.bool true)]) (h2 : (s.fn H (ds ++ [])).args = ds) (h3 : (s.fn H (ds ++ [])).vars = []) (hb : Only NoBlk W W') :
 s.post enc P f apart fresh handsOn again W args (.bool true) W' := by
 have hts : ∀ t ∈ f.params.toList, P.readableRec t = true ∧ t < P.types.size := fun t ht => by
  have := List.all_eq_true.1 hts0 t ht
  simpa using this
 have hW' := hW
 obtain ⟨p, q, hA, hV, he, hfz, hnd⟩ := hW
 rw [hvars] at hV
 obtain ⟨_, rfl⟩ := trodVars_none hV
 rw [List.append_nil] at he
 subst he
 have hlt : ∀ x ∈ before, x.block < W.heap.size := fun x hx => hW'.lt x hx
 have hold : ∀ x ∈ before, (fun b => decide (b < W.heap.size)) x.block = true := fun x hx => by simpa using hlt x hx
 have hR : ∀ (b : Nat) (sp : Nat → Bool) (hd : Bool), DataW.TrodAll enc P W' b sp hd f.resultTypes.toList ((Value.bool true).resultList f.resultTypes.size) (s.fn H (ds ++ [])).results [] := by
  intro b sp hd
  rw [h1, hres]
  exact trodAll_mk1 (shut_bool htb _)
 have hAr : ∀ sp : Nat → Bool, (∀ x ∈ before, sp x.block = true) → DataW.TrodAll enc P W' 0 sp true f.params.toList args.toList (s.fn H (ds ++ [])).args before := by
  intro sp hsp
  rw [h2]
  exact trodAll_stays hl hb _ _ _ _ hts hA hlt hsp
 have hVr : ∀ sp : Nat → Bool, DataW.TrodVars enc P W' sp s.vars (s.fn H (ds ++ [])).vars [] := by
  intro sp
  rw [h3, hvars]
  rfl
 have hk : W.keptBut W' (· ∈ before) := by
  refine ⟨hb.os, hb.output, fun i hi => ?_⟩
  rw [hb.block i hi (fun h => h)]
  split <;> simp_all
 refine ⟨ds, [], before, [], before, [], hW', hR _ _ _, hAr _ hold, hVr _, World.keptBut_mono (fun p hp => ⟨hp, Or.inr (by simpa using hp)⟩) hk, fun _ => ?_⟩
 refine ⟨?_, _, _, ([] ++ before) ++ [], ⟨[] ++ before, [], trodAll_append (hAr _ (fun _ _ => rfl)) (hR _ _ _), hVr _, rfl, ?_, ?_⟩, ?_⟩
 ·exact ok_one hres rfl (okWide_bool_mk htb _)
 ·intro b off hp
  have hin : MemPlace.cell b off ∈ before := by simpa using hp
  have hbx := hb.block b (hlt _ hin) (fun hf => hf)
  rw [World.frozen?_of_block (w := W) (a := ⟨b, off, none⟩) hbx]
  exact hfz b off (by simpa using hin)
 ·intro ha
  have := hnd ha
  simpa using this
 ·intro p hp _
  simpa using hp
end
end Go.Proofs.YtdmdohjdmnmabaaGreat
