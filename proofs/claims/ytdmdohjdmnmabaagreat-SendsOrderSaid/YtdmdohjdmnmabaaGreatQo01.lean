/- Parts of a chain of lemmas: Mem, Str, Life, Law. Conditions: those of each theorem. -/
import Derived.Test.YtdmdohjdmnmabaaGreatRows
import Derived.WalkKit
import Derived.WalkSpells
import Derived.WalkLawsBesides
import Derived.Deep.Draws
import Derived.ChangeAlike
import Derived.Laws.CopyOwn
import Derived.Lib.LazyBuf
import Derived.Lib.SlBytesRow
import Derived.Deep.RegionLaw
import Derived.ProofKit
import Derived.OpenShut
import Derived.SizedLaws
namespace Go.Proofs.YtdmdohjdmnmabaaGreat
open Go.RowKit

theorem hide {p : Prop} (h : p) : Hid p := h

/-- Of the blocks that stood in w only those of S may have changed. -/
structure Only (S : Nat → Prop) (w w' : World) : Prop where
  os : w'.os = w.os
  output : w'.output = w.output
  size : w.heap.size ≤ w'.heap.size
  block : ∀ k, k < w.heap.size → ¬ S k → w'.heap[k]? = w.heap[k]?

def NoBlk : Nat → Prop := fun _ => False

section
variable {S T : Nat → Prop} {a b c w w' : World}
theorem Only.refl (S : Nat → Prop) (w : World) : Only S w w := ⟨rfl, rfl, Nat.le_refl _, fun _ _ _ => rfl⟩
theorem Only.trans (h : Only S a b) (k : Only S b c) : Only S a c :=
  ⟨k.os.trans h.os, k.output.trans h.output, Nat.le_trans h.size k.size, fun i hi hn => (k.block i (Nat.lt_of_lt_of_le hi h.size) hn).trans (h.block i hi hn)⟩
theorem Only.mono (h : Only S w w') (hs : ∀ k, k < w.heap.size → S k → T k) : Only T w w' :=
  ⟨h.os, h.output, h.size, fun i hi hn => h.block i hi (fun hs' => hn (hs i hi hs'))⟩
theorem Only.alike (h : Only S a b) (k : c.Alike b) : Only S a c :=
  ⟨k.2.1.trans h.os, k.2.2.trans h.output, by rw [k.1]; exact h.size, fun i hi hn => by rw [k.1]; exact h.block i hi hn⟩
theorem Only.drew (h : Only S a b) : Only S a b.drew := ⟨h.os, h.output, h.size, h.block⟩
theorem Only.drewN (h : Only S a b) (n : Nat) : Only S a (b.drewN n) := ⟨h.os, h.output, h.size, h.block⟩
theorem Only.alloc (h : Only S a b) (o : Obj) : Only S a (b.alloc o) :=
  ⟨h.os, h.output, Nat.le_trans h.size (by simp), fun i hi hn => (Below.heap_alloc _ _ _ (Nat.lt_of_lt_of_le hi h.size)).trans (h.block i hi hn)⟩
theorem Only.setCell (h : Only S a b) {p : Addr} (hp : S p.block ∨ a.heap.size ≤ p.block) (u : Value) : Only S a (b.setCell p u) :=
  ⟨h.os, h.output, by simpa [World.setCell] using h.size, fun i hi hn => (Below.heap_setCell _ _ _ _ (by
    rintro rfl
    rcases hp with hp | hp
    · exact hn hp
    · omega)).trans (h.block i hi hn)⟩
theorem Only.grown (h : Only S a b) {row : Option Nat} (hg : b.grownBy c row) (hr : ∀ k, row = some k → S k ∨ a.heap.size ≤ k) : Only S a c :=
  ⟨hg.os.trans h.os, hg.output.trans h.output, Nat.le_trans h.size hg.size, fun i hi hn => (hg.block i (Nat.lt_of_lt_of_le hi h.size) (fun e => by
    rcases hr i e.symm with hk | hk
    · exact hn hk
    · omega)).trans (h.block i hi hn)⟩
theorem Only.of_below (h : Below w.heap.size w w') (S : Nat → Prop) : Only S w w' := ⟨h.os, h.output, h.size, fun i hi _ => h.block i hi⟩
theorem Only.none (h : Only NoBlk w w') (S : Nat → Prop) : Only S w w' := h.mono fun _ _ hf => hf.elim
/-- behind it, changes of new blocks alone are none of the elder world's -/
theorem Only.fresh (h : Only S a b) (k : Only T b c) (hT : ∀ i, i < b.heap.size → T i → S i ∨ a.heap.size ≤ i) : Only S a c :=
  ⟨k.os.trans h.os, k.output.trans h.output, Nat.le_trans h.size k.size, fun i hi hn => by
    have hib := Nat.lt_of_lt_of_le hi h.size
    refine (k.block i hib (fun ht => ?_)).trans (h.block i hi hn)
    rcases hT i hib ht with hk | hk
    · exact hn hk
    · omega⟩
theorem only_set (w : World) (h i : Nat) (u : Value) : Only (· = h) w (w.setCell ⟨h, i, none⟩ u) := (Only.refl (· = h) w).setCell (Or.inl rfl) u
theorem Only.cell (h : Only S w w') {p : Addr} (hp : p.block < w.heap.size) (hn : ¬ S p.block) : w'.cell? p = w.cell? p := World.cell?_of_block (h.block p.block hp hn)
end

/-- Block g is just the cells cs of element type t, none frozen. -/
def Blk (w : World) (g : Nat) (t : TypeId) (cs : Array Value) : Prop := w.heap[g]? = some (.cells cs t (0, 0))

section
variable {w w' : World} {g : Nat} {t : TypeId} {cs : Array Value}
theorem Blk.lt (h : Blk w g t cs) : g < w.heap.size := by
  rcases Nat.lt_or_ge g w.heap.size with hlt | hge
  · exact hlt
  · unfold Blk at h; rw [Array.getElem?_eq_none hge] at h; cases h
theorem Blk.cell (h : Blk w g t cs) (i : Nat) : w.cell? ⟨g, i, none⟩ = cs[i]? := cell_of_row w g i cs t (0, 0) h
theorem Blk.frozen (h : Blk w g t cs) (i : Nat) : w.frozen? ⟨g, i, none⟩ = false := by
  unfold Blk at h
  simp [World.frozen?, h]
theorem Blk.new (w : World) (t : TypeId) (cs : Array Value) : Blk (w.alloc (.cells cs t)) w.heap.size t cs := heap_alloc_new w _
theorem heap_alloc_new' {w : World} {o : Obj} {g : Nat} (h : g = w.heap.size) : (w.alloc o).heap[g]? = some o := by subst h; exact heap_alloc_new w o
theorem Blk.new' {w : World} {t : TypeId} {cs : Array Value} {g : Nat} (h : g = w.heap.size) : Blk (w.alloc (.cells cs t)) g t cs := heap_alloc_new' h
theorem Blk.drew (h : Blk w g t cs) : Blk w.drew g t cs := h
theorem Blk.drewN (h : Blk w g t cs) (n : Nat) : Blk (w.drewN n) g t cs := h
theorem Blk.alike (h : Blk w g t cs) (k : w'.Alike w) : Blk w' g t cs := by unfold Blk; rw [k.1]; exact h
theorem Blk.alloc (h : Blk w g t cs) (o : Obj) : Blk (w.alloc o) g t cs := (Below.heap_alloc w o g h.lt).trans h
theorem Blk.set_ (h : Blk w g t cs) (i : Nat) (u : Value) : Blk (w.setCell ⟨g, i, none⟩ u) g t (cs.setIfInBounds i u) := by
  unfold Blk at h ⊢
  simp [World.setCell, Array.getElem?_modify, h]
theorem Blk.far (h : Blk w g t cs) {p : Addr} (hp : g ≠ p.block) (u : Value) : Blk (w.setCell p u) g t cs := (Below.heap_setCell w p u g hp).trans h
theorem Blk.only {S : Nat → Prop} (h : Blk w g t cs) (hb : Only S w w') (hg : ¬ S g) : Blk w' g t cs := (hb.block g h.lt hg).trans h
theorem Blk.ne_ {g' : Nat} {t' : TypeId} {cs' : Array Value} (h : Blk w g t cs) (h' : Blk w g' t' cs') (hne : t ≠ t') : g ≠ g' := by
  rintro rfl
  unfold Blk at h h'
  rw [h] at h'
  injection h' with h'
  injection h' with _ ht
  exact hne ht
end

/-- A slice's address A reads as the cells xs, in a block that is none of M. -/
def Rd (w : World) (M : Nat → Prop) (A : Option Addr) (xs : List Value) : Prop :=
  xs = [] ∨ ∃ b o, A = some ⟨b, o, none⟩ ∧ ¬ M b ∧ b < w.heap.size ∧ ∀ j, j < xs.length → w.cell? ⟨b, o + j, none⟩ = xs[j]?
section
variable {w w' : World} {M S : Nat → Prop} {A : Option Addr} {xs : List Value}
theorem Rd.nil : Rd w M A [] := Or.inl rfl
theorem Rd.only (h : Rd w M A xs) (k : Only S w w') (hs : ∀ b, S b → M b) : Rd w' M A xs := by
  rcases h with h | ⟨b, o, hA, hm, hb, hc⟩
  · exact Or.inl h
  · exact Or.inr ⟨b, o, hA, hm, Nat.lt_of_lt_of_le hb k.size, fun j hj => (k.cell (p := ⟨b, o + j, none⟩) hb (fun hx => hm (hs b hx))).trans (hc j hj)⟩
theorem Rd.below (h : Rd w M A xs) (k : Below w.heap.size w w') : Rd w' M A xs := h.only (Only.of_below k NoBlk) (fun _ h => h.elim)
theorem Rd.mono {M' : Nat → Prop} (h : Rd w M A xs) (hm : ∀ b, M' b → M b) : Rd w M' A xs := by
  rcases h with h | ⟨b, o, hA, hn, hb, hc⟩
  · exact Or.inl h
  · exact Or.inr ⟨b, o, hA, fun h => hn (hm _ h), hb, hc⟩
theorem Rd.at_ (h : Rd w M A xs) {j : Nat} (hj : j < xs.length) : ∃ b o, A = some ⟨b, o, none⟩ ∧ ¬ M b ∧ b < w.heap.size ∧ ∀ j, j < xs.length → w.cell? ⟨b, o + j, none⟩ = xs[j]? := by
  rcases h with h | h
  · subst h; simp at hj
  · exact h
/-- out of a row of the call's own, all of whose blocks are none of M -/
theorem Rd.of_own {base size n c : Nat} {e : TypeId} (h : w.ownsRow base e size (.slice A n c) n xs) (hM : ∀ k, M k → k < base) : Rd w M A xs := by
  obtain ⟨hl, h2⟩ := h
  rcases h2 with ⟨hv, hn⟩ | ⟨g, cap, cur, hv, hb, hh, hnc, hcm, hsz, htk⟩
  · subst hn
    exact Or.inl (List.eq_nil_of_length_eq_zero (by simpa using hl))
  · refine Or.inr ⟨g, 0, by injection hv, fun hm => by have := hM g hm; omega, ?_, fun j hj => ?_⟩
    · exact Blk.lt (t := e) (cs := cur) hh
    · have := Blk.cell (t := e) (cs := cur) hh (0 + j)
      rw [this, ← htk, List.getElem?_take]
      rw [hl] at hj
      rw [if_pos hj]
      simp
end

theorem own_form {w : World} {base size n : Nat} {e : TypeId} {v : Value} {xs : List Value} (h : w.ownsRow base e size v n xs) : ∃ A c, v = .slice A n c := by
  rcases h.2 with ⟨hv, hn⟩ | ⟨g, cap, cur, hv, _⟩
  · exact ⟨none, 0, by rw [hv, hn]⟩
  · exact ⟨_, cap, hv⟩

theorem own_ge {w : World} {base size n : Nat} {e : TypeId} {v : Value} {xs : List Value} (h : w.ownsRow base e size v n xs) : ∀ k, v.ownBlock = some k → base ≤ k := by
  intro k hk
  rcases h.2 with ⟨hv, hn⟩ | ⟨g, cap, cur, hv, hb, _⟩
  · subst hv; simp [Value.ownBlock] at hk
  · subst hv; simp [Value.ownBlock] at hk; omega
/-- behind append of one element, which is laid first in a block of its own -/
theorem Blk.append {w w1 : World} {g base size n : Nat} {t e : TypeId} {cs : Array Value} {v : Value} {xs : List Value} {o : Obj} (h : Blk w g t cs) (hown : w.ownsRow base e size v n xs)
    (hg : g < base) (hgrow : (w.alloc o).grownBy w1 v.ownBlock) : Blk w1 g t cs :=
  (hgrow.block g (h.alloc o).lt (fun e => by have := own_ge hown g e.symm; omega)).trans (h.alloc o)
theorem below_append {B : Nat} {w0 w w1 : World} {base size n : Nat} {e : TypeId} {v : Value} {xs : List Value} {o : Obj} (h : Below B w0 w) (hown : w.ownsRow base e size v n xs)
    (hB : B ≤ w.heap.size) (hb : B ≤ base) (hgrow : (w.alloc o).grownBy w1 v.ownBlock) : Below B w0 w1 :=
  (h.alloc hB o).grown hgrow (by simp; omega) (fun k hk => by have := own_ge hown k hk; omega)

/-- a cell that is there stays behind a call that changes nothing that stood -/
theorem bkeep {W w1 : World} {p : Addr} {v : Value} (hb : Below W.heap.size W w1) (h : W.cell? p = some v) : w1.cell? p = some v :=
  (hb.cell (World.block_lt_of_cell? W p h)).trans h
theorem okeep {W w1 : World} {p : Addr} {v : Value} {S : Nat → Prop} (hb : Only S W w1) (hp : ¬ S p.block) (h : W.cell? p = some v) : w1.cell? p = some v :=
  (hb.cell (World.block_lt_of_cell? W p h) hp).trans h
theorem Blk.below {w w' : World} {g : Nat} {t : TypeId} {cs : Array Value} (h : Blk w g t cs) (hb : Below w.heap.size w w') : Blk w' g t cs := (hb.block g h.lt).trans h
/-- the cells of a block of three -/
theorem Blk.three {w : World} {g : Nat} {t : TypeId} {a b c : Value} (h : Blk w g t #[a, b, c]) :
    (w.cell? ⟨g, 0, none⟩ = some a ∧ w.cell? ⟨g, 1, none⟩ = some b ∧ w.cell? ⟨g, 2, none⟩ = some c) ∧ w.frozen? ⟨g, 0, none⟩ = false ∧ w.frozen? ⟨g, 1, none⟩ = false ∧ w.frozen? ⟨g, 2, none⟩ = false :=
  ⟨⟨by rw [h.cell]; rfl, by rw [h.cell]; rfl, by rw [h.cell]; rfl⟩, h.frozen 0, h.frozen 1, h.frozen 2⟩
theorem below_trans {a b c : World} (h : Below a.heap.size a b) (k : Below b.heap.size b c) : Below a.heap.size a c := h.trans (k.mono h.size)

/-- M and the blocks from lo on, below hi -/
def MM (M : Nat → Prop) (lo hi : Nat) : Nat → Prop := fun k => M k ∨ (lo ≤ k ∧ k < hi)
theorem MM.lt {M : Nat → Prop} {lo hi n : Nat} (h : ∀ k, M k → k < lo) (h1 : lo ≤ n) (h2 : hi ≤ n) : ∀ k, MM M lo hi k → k < n := by
  intro k hk
  rcases hk with hk | hk
  · have := h k hk; omega
  · omega
theorem Rd.wide {w : World} {M : Nat → Prop} {A : Option Addr} {xs : List Value} (h : Rd w M A xs) (hi : Nat) : Rd w (MM M w.heap.size hi) A xs := by
  rcases h with h | ⟨b, o, hA, hn, hb, hc⟩
  · exact Or.inl h
  · exact Or.inr ⟨b, o, hA, fun hk => by
      rcases hk with hk | hk
      · exact hn hk
      · omega, hb, hc⟩
theorem Rd.set_ {w : World} {M : Nat → Prop} {A : Option Addr} {xs : List Value} (h : Rd w M A xs) {p : Addr} (hp : M p.block) (u : Value) : Rd (w.setCell p u) M A xs :=
  h.only (S := M) ((Only.refl _ w).setCell (Or.inl hp) u) (fun _ hb => hb)
theorem Rd.narrow {w : World} {M : Nat → Prop} {A : Option Addr} {xs : List Value} {lo hi : Nat} (h : Rd w (MM M lo hi) A xs) : Rd w M A xs := h.mono fun _ hk => Or.inl hk

theorem Rd.drew {w : World} {M : Nat → Prop} {A : Option Addr} {xs : List Value} (h : Rd w M A xs) : Rd w.drew M A xs := h
theorem Rd.drewN {w : World} {M : Nat → Prop} {A : Option Addr} {xs : List Value} (h : Rd w M A xs) (n : Nat) : Rd (w.drewN n) M A xs := h

/-- the number at a place -/
def nth (l : List Int) (i : Nat) : Int := l.getD i 0
theorem nth_of_lt {l : List Int} {i : Nat} (h : i < l.length) : nth l i = l[i] := by simp [nth, List.getD, h]
theorem nth_set {l : List Int} {i k : Nat} {v : Int} : nth (l.set i v) k = if i = k ∧ k < l.length then v else nth l k := by
  unfold nth
  by_cases h : i = k
  · subst h
    by_cases hl : i < l.length
    · simp [List.getD, hl]
    · simp [List.getD, hl]
  · simp [List.getD, h]
theorem nth_rep (n i : Nat) : nth (List.replicate n 0) i = 0 := by
  unfold nth
  by_cases h : i < n
  · simp [List.getD, h]
  · simp [List.getD, h]
def zeros (n : Nat) : List Int := List.replicate n 0
theorem zeros_len (n : Nat) : (zeros n).length = n := by simp [zeros]

theorem ret_int {k : IntKind} {a b : Int} (h : a = b) : Ending.returned (.int k a) = .returned (.int k b) := by rw [h]
theorem ret_bool {a b : Bool} (h : a = b) : Ending.returned (.bool a) = .returned (.bool b) := by rw [h]

end Go.Proofs.YtdmdohjdmnmabaaGreat
namespace Go.Proofs.YtdmdohjdmnmabaaGreat
open Go.RowKit
set_option linter.unusedVariables false

theorem ba_ext {a b : ByteArray} (h : a.data.toList = b.data.toList) : a = b := by
  apply ByteArray.ext
  exact Array.toList_inj.1 h
theorem ba_size (a : ByteArray) : a.data.toList.length = a.size := by rw [Array.length_toList]; rfl
theorem ba_app (a b : ByteArray) : (a ++ b).data.toList = a.data.toList ++ b.data.toList := by rw [ByteArray.data_append, Array.toList_append]
theorem ba_sub (s : ByteArray) (a b : Nat) : (s.extract a b).data.toList = (s.data.toList.drop a).take (b - a) := Lib.extract_data s a b
theorem ba_sub_size (s : ByteArray) (a b : Nat) (h : a ≤ b) (hb : b ≤ s.size) : (s.extract a b).size = b - a := by
  rw [← ba_size, ba_sub, List.length_take, List.length_drop, ba_size]; omega
/-- the cells of bytes -/
def bys (X : List UInt8) : List Value := X.map fun x => Value.int .u8 (x.toNat : Int)
theorem bys_len (X : List UInt8) : (bys X).length = X.length := by simp [bys]
theorem bys_at (X : List UInt8) (i : Nat) (h : i < X.length) : (bys X)[i]? = some (.int .u8 (X[i].toNat : Int)) := by simp [bys, h]
theorem bys_one (X : List UInt8) : ∀ u ∈ bys X, u.oneCell' = true := by
  intro u hu
  simp [bys] at hu
  obtain ⟨x, _, rfl⟩ := hu
  rfl
theorem splice_get {α : Type} (L : List α) (off : Nat) (cs : List α) (h : off + cs.length ≤ L.length) (j : Nat) : (splice L off cs)[j]? = if off ≤ j ∧ j < off + cs.length then cs[j - off]? else L[j]? := by
  unfold splice
  have hl : (L.take off).length = off := by rw [List.length_take]; omega
  by_cases h1 : j < off
  · rw [if_neg (by omega), List.getElem?_append_left (by omega), List.getElem?_take, if_pos h1]
  · rw [List.getElem?_append_right (by omega), hl]
    by_cases h2 : j < off + cs.length
    · rw [if_pos (by omega), List.getElem?_append_left (by omega)]
    · rw [if_neg (by omega), List.getElem?_append_right (by omega), List.getElem?_drop]
      congr 1; omega
theorem splice_bys (X : List UInt8) (off : Nat) (cs : List UInt8) : splice (bys X) off (bys cs) = bys (splice X off cs) := by
  unfold splice bys
  simp

theorem splice_tail {α : Type} (L T : List α) (off : Nat) (cs : List α) (h : off + cs.length ≤ L.length) : splice (L ++ T) off cs = splice L off cs ++ T := by
  unfold splice
  rw [List.take_append_of_le_length (by omega), List.drop_append_of_le_length h]
  simp
section
variable {P : Program}
/-- copy out of a text: as many bytes as there is room for go over -/
theorem run_copy_str (w : World) (dT sT ty elem : TypeId) (g o dLen dCap : Nat) (s : ByteArray) (cur : List Value) (t : TypeId)
    (hu : P.underlying dT = some (.slice elem)) (hs : (P.info? elem).map (·.size) = some 1)
    (hg : w.heap[g]? = some (.cells cur.toArray t (0, 0))) (hfit : o + Nat.min s.size dLen ≤ cur.length) :
    (Builtin.copy_ #[dT, sT] ty #[.slice (some ⟨g, o, none⟩) dLen dCap, .string s]).run P w =
      .ok (goInt (Nat.min s.size dLen)) (w.setRow g (splice cur o (bys (s.data.toList.take (Nat.min s.size dLen)))).toArray) := by
  have hl : (bys (s.data.toList.take (Nat.min s.size dLen))).length = Nat.min s.size dLen := by
    rw [bys_len, List.length_take, ba_size]; exact Nat.min_eq_left (Nat.min_le_left _ _)
  have hst := run_storeCells_at P g o t (bys (s.data.toList.take (Nat.min s.size dLen))) 0 cur.toArray w hg (by rw [hl]; simpa using hfit) (bys_one _)
  cases hq : P.info? elem with
  | none => simp [hq] at hs
  | some i =>
    have hi : i.size = 1 := by simpa [hq] using hs
    simp only [Nat.add_zero] at hst
    have e : (List.map (fun x : UInt8 => Value.int .u8 (x.toNat : Int)) s.data.toList).take (Nat.min s.size dLen) = bys (s.data.toList.take (Nat.min s.size dLen)) := by unfold bys; rw [List.map_take]
    simp [Builtin.copy_, run_underlying hu, Builtin.lenOf, Builtin.firstCells, sizeOf, typeInfo, hq]
    rw [e, hst]
    simp [splice, hl]
theorem setRow_only (w : World) (g : Nat) (cs : Array Value) : Only (· = g) w (w.setRow g cs) :=
  ⟨rfl, rfl, by simp [World.setRow], fun k hk hn => setRow_other w g k cs hn⟩
theorem step_copy_str {ops : Array Oper} {o : Oper} {a : Act} {w : World} {K : Act → World → Prop} {Q : Exit → Act → World → Prop} {E : Prop}
    (hg : o.guard = none) (d x : Operand) (dT sT : TypeId) (hop : o.op = Op.call { callee := Callee.builtin Builtin.copy, args := #[d, x], argTypes := #[dT, sT] })
    (elem : TypeId) (hu : P.underlying dT = some (.slice elem)) (hs : (P.info? elem).map (·.size) = some 1)
    (g off dLen dCap : Nat) (hd : a.eval d = .slice (some ⟨g, off, none⟩) dLen dCap) (s : ByteArray) (hx : a.eval x = .string s) (cur : List UInt8) (t : TypeId)
    (Y : List Value) (hB : Blk w g t (bys cur ++ Y).toArray) (k : Nat) (hk : Nat.min s.size dLen = k) (hfit : off + k ≤ cur.length) (X1 : List UInt8) (hX : splice cur off (s.data.toList.take k) = X1)
    (h : ∀ w', Blk w' g t (bys X1 ++ Y).toArray → Only (· = g) w w' → K (a.put o.dst (.int .i64 k)) w') :
    if Region.wanted o (yielded ops a.tmps) = true then Oper.wp P o a w K Q else E := by
  have hw : Region.wanted o (yielded ops a.tmps) = true := by simp [Region.wanted, hg]
  rw [if_pos hw]
  have hrun := run_copy_str (P := P) w dT sT o.type elem g off dLen dCap s (bys cur ++ Y) t hu hs hB (by rw [hk, List.length_append, bys_len]; omega)
  rw [hk, splice_tail _ _ _ _ (by rw [bys_len, bys_len, List.length_take, ba_size]; omega), splice_bys, hX] at hrun
  unfold Oper.wp
  simp [execOp, hop, resolve, invoke, builtin, hd, hx, hrun, Result.andThen]
  exact h _ (setRow_heap w g _ _ t _ hB) (setRow_only w g _)
theorem wpList_convert_run (w : World) {ops : Array Oper} {rest : List Oper} {o : Oper} {a : Act} {Q : Exit → Act → World → Prop} (hgd : o.guard = none) (src dst : TypeId) (x : Operand)
    (ho : o.op = .convert src dst x) (v : Value) (hx : a.eval x = v) {v' : Value} {w' : World} (hr : (convert src dst v).run P w = .ok v' w') (h : wpList P ops Q rest (a.put o.dst v') w') : wpList P ops Q (o :: rest) a w :=
  wpList_plain hgd fun K hK => by
    unfold Oper.wp execOp
    simp only [ho, Sem.run_bind, Sem.run_pure, Result.andThen_ok, hx, hr]
    exact hK _ _ h
end
end Go.Proofs.YtdmdohjdmnmabaaGreat
namespace Go.Proofs.YtdmdohjdmnmabaaGreat
open Go.RowKit
set_option linter.unusedVariables false

structure Stp where
  tick : Int
  at_ : Int
  what : Int
  arm : Int
  n : Int
  status : Int
structure Ev where
  k : Int
  id : Int
  n : Int
  tick : Int
  s : ByteArray
  err : Int
  st : Stp
structure Inp where
  k : Int
  s : ByteArray
  n : Int
  tick : Int
def encStp (x : Stp) : List Value := [.int .i64 x.tick, .int .i64 x.at_, .int .i64 x.what, .int .i64 x.arm, .int .i64 x.n, .int .i64 x.status]
def encEv (x : Ev) : List Value := [.int .i64 x.k, .int .i64 x.id, .int .i64 x.n, .int .i64 x.tick, .string x.s, .int .i64 x.err, .int .i64 x.st.tick, .int .i64 x.st.at_, .int .i64 x.st.what, .int .i64 x.st.arm, .int .i64 x.st.n, .int .i64 x.st.status]
def encInp (x : Inp) : List Value := [.int .i64 x.k, .string x.s, .int .i64 x.n, .int .i64 x.tick]
theorem encStp_len (x : Stp) : (encStp x).length = 6 := rfl
theorem encEv_len (x : Ev) : (encEv x).length = 12 := rfl
theorem encInp_len (x : Inp) : (encInp x).length = 4 := rfl

structure LifeM where
  script : Int
  start : Int
  ins : List Inp
  steps : List Stp
  read : ByteArray
  taken : ByteArray
  eof : Bool
  status : Int
def life0 (script start : Int) : LifeM := ⟨script, start, [], [], ⟨#[]⟩, ⟨#[]⟩, false, 0⟩
def addL (id : Int) (f : LifeM) (x : Ev) : LifeM :=
  if x.k = 7 ∧ f.status = 0 then { f with ins := f.ins ++ [⟨4, ⟨#[]⟩, 0, x.tick⟩] }
  else if x.id ≠ id then f
  else if x.k = 4 then { f with ins := f.ins ++ [⟨1, x.s, 0, 0⟩], read := f.read ++ x.s }
  else if x.k = 5 then { f with ins := f.ins ++ [⟨2, ⟨#[]⟩, 0, 0⟩], eof := true }
  else if x.k = 6 then { f with ins := f.ins ++ [⟨3, ⟨#[]⟩, x.n, 0⟩], taken := f.taken ++ x.s }
  else if x.k = 8 then { f with ins := f.ins ++ [⟨5, ⟨#[]⟩, 0, x.st.tick⟩], steps := f.steps ++ [x.st], status := x.st.status }
  else f
/-- the tick of the last round -/
def clockOf (c : Int) (l : List Ev) : Int := l.foldl (fun c x => if x.k = 1 then x.tick else c) c
def opens (id : Int) (x : Ev) : Bool := decide (x.k = 2 ∧ x.id = id)
/-- the life of one -/
def lifeGo (id : Int) : Int → List Ev → Option LifeM
  | _, [] => none
  | c, x :: r => if opens id x then some (r.foldl (addL id) (life0 x.n c)) else lifeGo id (if x.k = 1 then x.tick else c) r
def ownOf (id : Int) (x : Ev) : Bool := decide (x.id = id ∨ x.k = 1 ∨ x.k = 7)
theorem addL_other (id : Int) (f : LifeM) (x : Ev) (h : ownOf id x = false) : addL id f x = f := by
  unfold ownOf at h
  rw [decide_eq_false_iff_not] at h
  unfold addL
  rw [if_neg (by omega), if_pos (by omega)]
theorem foldl_own (id : Int) (l : List Ev) : ∀ f : LifeM, (l.filter (ownOf id)).foldl (addL id) f = l.foldl (addL id) f := by
  induction l with
  | nil => intro f; rfl
  | cons x r ih =>
    intro f
    by_cases h : ownOf id x = true
    · rw [List.filter_cons_of_pos h]
      exact ih _
    · rw [List.filter_cons_of_neg h]
      rw [List.foldl_cons, addL_other id f x (by simpa using h)]
      exact ih _
/-- what is told of others changes no life -/
theorem lifeGo_own (id : Int) (l : List Ev) : ∀ c : Int, lifeGo id c (l.filter (ownOf id)) = lifeGo id c l := by
  induction l with
  | nil => intro c; rfl
  | cons x r ih =>
    intro c
    by_cases h : ownOf id x = true
    · rw [List.filter_cons_of_pos h]
      unfold lifeGo
      by_cases ho : opens id x = true
      · rw [if_pos ho, if_pos ho, foldl_own]
      · rw [if_neg ho, if_neg ho]
        exact ih _
    · rw [List.filter_cons_of_neg h]
      have h' : ownOf id x = false := by simpa using h
      unfold ownOf at h'
      rw [decide_eq_false_iff_not] at h'
      have ho : ¬ opens id x = true := by
        unfold opens
        rw [decide_eq_true_iff]
        omega
      conv => rhs; unfold lifeGo
      rw [if_neg ho, if_neg (by omega)]
      exact ih _
/-- by the place where it was opened -/
theorem lifeGo_none (id : Int) (l : List Ev) (h : ∀ x ∈ l, opens id x = false) : ∀ c, lifeGo id c l = none := by
  induction l with
  | nil => intro c; rfl
  | cons x r ih =>
    intro c
    unfold lifeGo
    rw [if_neg (by rw [h x (by simp)]; decide)]
    exact ih (fun y hy => h y (by simp [hy])) _
theorem lifeGo_at (id : Int) (pre : List Ev) (x : Ev) (post : List Ev) (h : ∀ y ∈ pre, opens id y = false) (hx : opens id x = true) : ∀ c, lifeGo id c (pre ++ x :: post) = some (post.foldl (addL id) (life0 x.n (clockOf c pre))) := by
  induction pre with
  | nil =>
    intro c
    show lifeGo id c (x :: post) = _
    unfold lifeGo
    rw [if_pos hx]
    rfl
  | cons y r ih =>
    intro c
    show lifeGo id c (y :: (r ++ x :: post)) = _
    unfold lifeGo
    rw [if_neg (by rw [h y (by simp)]; decide)]
    exact ih (fun z hz => h z (by simp [hz])) _
def cutEv (x : Ev) (s : ByteArray) : Ev := { x with s := s }
end Go.Proofs.YtdmdohjdmnmabaaGreat
namespace Go.Proofs.YtdmdohjdmnmabaaGreat
open Go.ChangeShapes Go.WideShapes Go.ChangeAt Go.RowKit

theorem Tryz.own : ownKnob Tryz.prog.godebug = none := by kernel_rfl
theorem Tryz.laidOut : laidOutB Tryz.prog = true := by kernel_rfl

section
variable {H : Type} {enc : TypeId × Value → H} {P : Program}
theorem trodAll_stays (hl : laidOutB P = true) {W W' : World} (hb : Only NoBlk W W') {sp : Nat → Bool} : ∀ (ts : List TypeId) (vs : List Value) (ds : List (DataW H)) (ps : List MemPlace),
    (∀ t ∈ ts, P.readableRec t = true ∧ t < P.types.size) → DataW.TrodAll enc P W 0 (fun _ => true) true ts vs ds ps → (∀ x ∈ ps, x.block < W.heap.size) → (∀ x ∈ ps, sp x.block = true) →
    DataW.TrodAll enc P W' 0 sp true ts vs ds ps
  | [], vs, ds, ps, _, h, _, _ => by
    obtain ⟨rfl, rfl, rfl⟩ := trodAll_nil h
    exact trodAll_mk0
  | t :: ts, vs, ds, ps, ht, h, hlt, hsp => by
    obtain ⟨v, vs', d, ds', p, q, rfl, rfl, rfl, h0, h1⟩ := trodAll_cons h
    have hsame : ∀ x ∈ p, W.sameAt W' x := fun x hx => by
      have hbx := hb.block x.block (hlt x (List.mem_append_left _ hx)) (fun hf => hf)
      cases x with
      | cell b o => exact World.cell?_of_block (w := W) hbx
      | map b => exact hbx
    exact trodAll_cons_mk (WideElems.Trod_stays hl (ht t (by simp)).1 (ht t (by simp)).2 h0 hsame (fun x hx => hsp x (List.mem_append_left _ hx)))
      (trodAll_stays hl hb ts vs' ds' q (fun t' h' => ht t' (by simp [h'])) h1 (fun x hx => hlt x (List.mem_append_right _ hx)) (fun x hx => hsp x (List.mem_append_right _ hx)))

/-- the call read its arguments alone, and answered true -/
theorem law_post {f : Func} {s : ChangeSpec} {apart fresh handsOn again : Bool} {W W' : World} {args : Array Value} {ds : List (DataW H)} {before : List MemPlace} {tb : TypeId}
    (hl : laidOutB P = true) (hts0 : (f.params.toList.all fun t => P.readableRec t && decide (t < P.types.size)) = true) (hres : f.resultTypes = #[tb]) (htb : P.underlying tb = some .bool) (hvars : s.vars = [])
    (hW : DataW.Whole enc P f.params.toList s.vars apart W args.toList ds [] before)
    (h1 : (s.fn H (ds ++ [])).results = [.lit (.bool true)]) (h2 : (s.fn H (ds ++ [])).args = ds) (h3 : (s.fn H (ds ++ [])).vars = []) (hb : Only NoBlk W W') :
    s.post enc P f apart fresh handsOn again W args (.bool true) W' := by
  have hts : ∀ t ∈ f.params.toList, P.readableRec t = true ∧ t < P.types.size := fun t ht => by
    have := List.all_eq_true.1 hts0 t ht
    simpa using this
  have hW' := hW
  obtain ⟨p, q, hA, hV, he, hfz, hnd⟩ := hW
  rw [hvars] at hV
  obtain ⟨_, rfl⟩ := trodVars_none hV
  rw [List.append_nil] at he
  subst he
  have hlt : ∀ x ∈ before, x.block < W.heap.size := fun x hx => hW'.lt x hx
  have hold : ∀ x ∈ before, (fun b => decide (b < W.heap.size)) x.block = true := fun x hx => by simpa using hlt x hx
  have hR : ∀ (b : Nat) (sp : Nat → Bool) (hd : Bool), DataW.TrodAll enc P W' b sp hd f.resultTypes.toList ((Value.bool true).resultList f.resultTypes.size) (s.fn H (ds ++ [])).results [] := by
    intro b sp hd
    rw [h1, hres]
    exact trodAll_mk1 (shut_bool htb _)
  have hAr : ∀ sp : Nat → Bool, (∀ x ∈ before, sp x.block = true) → DataW.TrodAll enc P W' 0 sp true f.params.toList args.toList (s.fn H (ds ++ [])).args before := by
    intro sp hsp
    rw [h2]
    exact trodAll_stays hl hb _ _ _ _ hts hA hlt hsp
  have hVr : ∀ sp : Nat → Bool, DataW.TrodVars enc P W' sp s.vars (s.fn H (ds ++ [])).vars [] := by
    intro sp
    rw [h3, hvars]
    rfl
  have hk : W.keptBut W' (· ∈ before) := by
    refine ⟨hb.os, hb.output, fun i hi => ?_⟩
    rw [hb.block i hi (fun h => h)]
    split <;> simp_all
  refine ⟨ds, [], before, [], before, [], hW', hR _ _ _, hAr _ hold, hVr _, World.keptBut_mono (fun p hp => ⟨hp, Or.inr (by simpa using hp)⟩) hk, fun _ => ?_⟩
  refine ⟨?_, _, _, ([] ++ before) ++ [], ⟨[] ++ before, [], trodAll_append (hAr _ (fun _ _ => rfl)) (hR _ _ _), hVr _, rfl, ?_, ?_⟩, ?_⟩
  · exact ok_one hres rfl (okWide_bool_mk htb _)
  · intro b off hp
    have hin : MemPlace.cell b off ∈ before := by simpa using hp
    have hbx := hb.block b (hlt _ hin) (fun hf => hf)
    rw [World.frozen?_of_block (w := W) (a := ⟨b, off, none⟩) hbx]
    exact hfz b off (by simpa using hin)
  · intro ha
    have := hnd ha
    simpa using this
  · intro p hp _
    simpa using hp
end
end Go.Proofs.YtdmdohjdmnmabaaGreat
