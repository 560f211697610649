/- Parts of a chain of lemmas: Mem, PatP, ProgP, ShwP. Conditions: those of each theorem. -/
import Derived.Test.YtaioaojfdngfdaaGreatDoorRows
import Derived.WalkKit
import Derived.WalkSpells
import Derived.WalkLawsBesides
import Derived.Deep.Draws
import Derived.ChangeAlike
import Derived.Lib.ItoaNum
set_option linter.unusedVariables false
set_option linter.unusedSimpArgs false
namespace Go.Proofs.YtaioaojfdngfdaaGreatDoor
open Go.RowKit
theorem hide {p : Prop} (h : p) : Hid p := h
/-- Of the blocks that stood in w only those of S may have changed. -/
structure Only (S : Nat → Prop) (w w' : World) : Prop where
 os : w'.os = w.os
 output : w'.output = w.output
 size : w.heap.size ≤ w'.heap.size
 block : ∀ k, k < w.heap.size → ¬ S k → w'.heap[k]? = w.heap[k]?
def NoBlk : Nat → Prop := fun _ => False
section
variable {S T : Nat → Prop} {a b c w w' : World}
theorem Only.refl (S : Nat → Prop) (w : World) : Only S w w := ⟨rfl, rfl, Nat.le_refl _, fun _ _ _ => rfl⟩
theorem Only.trans (h : Only S a b) (k : Only S b c) : Only S a c :=
 ⟨k.os.trans h.os, k.output.trans h.output, Nat.le_trans h.size k.size, fun i hi hn => (k.block i (Nat.lt_of_lt_of_le hi h.size) hn).trans (h.block i hi hn)⟩
theorem Only.mono (h : Only S w w') (hs : ∀ k, k < w.heap.size → S k → T k) : Only T w w' :=
 ⟨h.os, h.output, h.size, fun i hi hn => h.block i hi (fun hs' => hn (hs i hi hs'))⟩
theorem Only.alike (h : Only S a b) (k : c.Alike b) : Only S a c :=
 ⟨k.2.1.trans h.os, k.2.2.trans h.output, by rw [k.1]; exact h.size, fun i hi hn => by rw [k.1]; exact h.block i hi hn⟩
theorem Only.drew (h : Only S a b) : Only S a b.drew := ⟨h.os, h.output, h.size, h.block⟩
theorem Only.drewN (h : Only S a b) (n : Nat) : Only S a (b.drewN n) := ⟨h.os, h.output, h.size, h.block⟩
theorem Only.alloc (h : Only S a b) (o : Obj) : Only S a (b.alloc o) :=
 ⟨h.os, h.output, Nat.le_trans h.size (by simp), fun i hi hn => (Below.heap_alloc _ _ _ (Nat.lt_of_lt_of_le hi h.size)).trans (h.block i hi hn)⟩
theorem Only.setCell (h : Only S a b) {p : Addr} (hp : S p.block ∨ a.heap.size ≤ p.block) (u : Value) : Only S a (b.setCell p u) :=
 ⟨h.os, h.output, by simpa [World.setCell] using h.size, fun i hi hn => (Below.heap_setCell _ _ _ _ (by
  rintro rfl
  rcases hp with hp | hp
  ·exact hn hp
  ·omega)).trans (h.block i hi hn)⟩
theorem Only.grown (h : Only S a b) {row : Option Nat} (hg : b.grownBy c row) (hr : ∀ k, row = some k → S k ∨ a.heap.size ≤ k) : Only S a c :=
 ⟨hg.os.trans h.os, hg.output.trans h.output, Nat.le_trans h.size hg.size, fun i hi hn => (hg.block i (Nat.lt_of_lt_of_le hi h.size) (fun e => by
  rcases hr i e.symm with hk | hk
  ·exact hn hk
  ·omega)).trans (h.block i hi hn)⟩
theorem Only.of_below (h : Below w.heap.size w w') (S : Nat → Prop) : Only S w w' := ⟨h.os, h.output, h.size, fun i hi _ => h.block i hi⟩
theorem Only.none (h : Only NoBlk w w') (S : Nat → Prop) : Only S w w' := h.mono fun _ _ hf => hf.elim
/-- behind it, changes of new blocks alone are none of the elder world's -/
theorem Only.fresh (h : Only S a b) (k : Only T b c) (hT : ∀ i, i < b.heap.size → T i → S i ∨ a.heap.size ≤ i) : Only S a c :=
 ⟨k.os.trans h.os, k.output.trans h.output, Nat.le_trans h.size k.size, fun i hi hn => by
  have hib := Nat.lt_of_lt_of_le hi h.size
  refine (k.block i hib (fun ht => ?_)).trans (h.block i hi hn)
  rcases hT i hib ht with hk | hk
  ·exact hn hk
  ·omega⟩
theorem only_set (w : World) (h i : Nat) (u : Value) : Only (· = h) w (w.setCell ⟨h, i, none⟩ u) := (Only.refl (· = h) w).setCell (Or.inl rfl) u
theorem Only.cell (h : Only S w w') {p : Addr} (hp : p.block < w.heap.size) (hn : ¬ S p.block) : w'.cell? p = w.cell? p := World.cell?_of_block (h.block p.block hp hn)
end
/-- Block g is just the cells cs of element type t, none frozen. -/
def Blk (w : World) (g : Nat) (t : TypeId) (cs : Array Value) : Prop := w.heap[g]? = some (.cells cs t (0, 0))
section
variable {w w' : World} {g : Nat} {t : TypeId} {cs : Array Value}
theorem Blk.lt (h : Blk w g t cs) : g < w.heap.size := by
 rcases Nat.lt_or_ge g w.heap.size with hlt | hge
 ·exact hlt
 ·unfold Blk at h; rw [Array.getElem?_eq_none hge] at h; cases h
theorem Blk.cell (h : Blk w g t cs) (i : Nat) : w.cell? ⟨g, i, none⟩ = cs[i]? := cell_of_row w g i cs t (0, 0) h
theorem Blk.frozen (h : Blk w g t cs) (i : Nat) : w.frozen? ⟨g, i, none⟩ = false := by
 unfold Blk at h
 simp [World.frozen?, h]
theorem Blk.new (w : World) (t : TypeId) (cs : Array Value) : Blk (w.alloc (.cells cs t)) w.heap.size t cs := heap_alloc_new w _
theorem heap_alloc_new' {w : World} {o : Obj} {g : Nat} (h : g = w.heap.size) : (w.alloc o).heap[g]? = some o := by subst h; exact heap_alloc_new w o
theorem Blk.new' {w : World} {t : TypeId} {cs : Array Value} {g : Nat} (h : g = w.heap.size) : Blk (w.alloc (.cells cs t)) g t cs := heap_alloc_new' h
theorem Blk.drew (h : Blk w g t cs) : Blk w.drew g t cs := h
theorem Blk.drewN (h : Blk w g t cs) (n : Nat) : Blk (w.drewN n) g t cs := h
theorem Blk.alike (h : Blk w g t cs) (k : w'.Alike w) : Blk w' g t cs := by unfold Blk; rw [k.1]; exact h
theorem Blk.alloc (h : Blk w g t cs) (o : Obj) : Blk (w.alloc o) g t cs := (Below.heap_alloc w o g h.lt).trans h
theorem Blk.set_ (h : Blk w g t cs) (i : Nat) (u : Value) : Blk (w.setCell ⟨g, i, none⟩ u) g t (cs.setIfInBounds i u) := by
 unfold Blk at h ⊢
 simp [World.setCell, Array.getElem?_modify, h]
theorem Blk.far (h : Blk w g t cs) {p : Addr} (hp : g ≠ p.block) (u : Value) : Blk (w.setCell p u) g t cs := (Below.heap_setCell w p u g hp).trans h
theorem Blk.only {S : Nat → Prop} (h : Blk w g t cs) (hb : Only S w w') (hg : ¬ S g) : Blk w' g t cs := (hb.block g h.lt hg).trans h
theorem Blk.ne_ {g' : Nat} {t' : TypeId} {cs' : Array Value} (h : Blk w g t cs) (h' : Blk w g' t' cs') (hne : t ≠ t') : g ≠ g' := by
 rintro rfl
 unfold Blk at h h'
 rw [h] at h'
 injection h' with h'
 injection h' with _ ht
 exact hne ht
end
/-- A slice's address A reads as the cells xs, in a block that is none of M. -/
def Rd (w : World) (M : Nat → Prop) (A : Option Addr) (xs : List Value) : Prop :=
 xs = [] ∨ ∃ b o, A = some ⟨b, o, none⟩ ∧ ¬ M b ∧ b < w.heap.size ∧ ∀ j, j < xs.length → w.cell? ⟨b, o + j, none⟩ = xs[j]?
section
variable {w w' : World} {M S : Nat → Prop} {A : Option Addr} {xs : List Value}
theorem Rd.nil : Rd w M A [] := Or.inl rfl
theorem Rd.only (h : Rd w M A xs) (k : Only S w w') (hs : ∀ b, S b → M b) : Rd w' M A xs := by
 rcases h with h | ⟨b, o, hA, hm, hb, hc⟩
 ·exact Or.inl h
 ·exact Or.inr ⟨b, o, hA, hm, Nat.lt_of_lt_of_le hb k.size, fun j hj => (k.cell (p := ⟨b, o + j, none⟩) hb (fun hx => hm (hs b hx))).trans (hc j hj)⟩
theorem Rd.below (h : Rd w M A xs) (k : Below w.heap.size w w') : Rd w' M A xs := h.only (Only.of_below k NoBlk) (fun _ h => h.elim)
theorem Rd.mono {M' : Nat → Prop} (h : Rd w M A xs) (hm : ∀ b, M' b → M b) : Rd w M' A xs := by
 rcases h with h | ⟨b, o, hA, hn, hb, hc⟩
 ·exact Or.inl h
 ·exact Or.inr ⟨b, o, hA, fun h => hn (hm _ h), hb, hc⟩
theorem Rd.at_ (h : Rd w M A xs) {j : Nat} (hj : j < xs.length) : ∃ b o, A = some ⟨b, o, none⟩ ∧ ¬ M b ∧ b < w.heap.size ∧ ∀ j, j < xs.length → w.cell? ⟨b, o + j, none⟩ = xs[j]? := by
 rcases h with h | h
 ·subst h; simp at hj
 ·exact h
/-- out of a row of the call's own, all of whose blocks are none of M -/
theorem Rd.of_own {base size n c : Nat} {e : TypeId} (h : w.ownsRow base e size (.slice A n c) n xs) (hM : ∀ k, M k → k < base) : Rd w M A xs := by
 obtain ⟨hl, h2⟩ := h
 rcases h2 with ⟨hv, hn⟩ | ⟨g, cap, cur, hv, hb, hh, hnc, hcm, hsz, htk⟩
 ·subst hn
  exact Or.inl (List.eq_nil_of_length_eq_zero (by simpa using hl))
 ·refine Or.inr ⟨g, 0, by injection hv, fun hm => by have := hM g hm; omega, ?_, fun j hj => ?_⟩
  ·exact Blk.lt (t := e) (cs := cur) hh
  ·have := Blk.cell (t := e) (cs := cur) hh (0 + j)
   rw [this, ← htk, List.getElem?_take]
   rw [hl] at hj
   rw [if_pos hj]
   simp
end
theorem own_form {w : World} {base size n : Nat} {e : TypeId} {v : Value} {xs : List Value} (h : w.ownsRow base e size v n xs) : ∃ A c, v = .slice A n c := by
 rcases h.2 with ⟨hv, hn⟩ | ⟨g, cap, cur, hv, _⟩
 ·exact ⟨none, 0, by rw [hv, hn]⟩
 ·exact ⟨_, cap, hv⟩
theorem own_ge {w : World} {base size n : Nat} {e : TypeId} {v : Value} {xs : List Value} (h : w.ownsRow base e size v n xs) : ∀ k, v.ownBlock = some k → base ≤ k := by
 intro k hk
 rcases h.2 with ⟨hv, hn⟩ | ⟨g, cap, cur, hv, hb, _⟩
 ·subst hv; simp [Value.ownBlock] at hk
 ·subst hv; simp [Value.ownBlock] at hk; omega
/-- behind append of one element, which is laid first in a block of its own -/
theorem Blk.append {w w1 : World} {g base size n : Nat} {t e : TypeId} {cs : Array Value} {v : Value} {xs : List Value} {o : Obj} (h : Blk w g t cs) (hown : w.ownsRow base e size v n xs)
 (hg : g < base) (hgrow : (w.alloc o).grownBy w1 v.ownBlock) : Blk w1 g t cs :=
 (hgrow.block g (h.alloc o).lt (fun e => by have := own_ge hown g e.symm; omega)).trans (h.alloc o)
theorem below_append {B : Nat} {w0 w w1 : World} {base size n : Nat} {e : TypeId} {v : Value} {xs : List Value} {o : Obj} (h : Below B w0 w) (hown : w.ownsRow base e size v n xs)
 (hB : B ≤ w.heap.size) (hb : B ≤ base) (hgrow : (w.alloc o).grownBy w1 v.ownBlock) : Below B w0 w1 :=
 (h.alloc hB o).grown hgrow (by simp; omega) (fun k hk => by have := own_ge hown k hk; omega)
/-- a cell that is there stays behind a call that changes nothing that stood -/
theorem bkeep {W w1 : World} {p : Addr} {v : Value} (hb : Below W.heap.size W w1) (h : W.cell? p = some v) : w1.cell? p = some v :=
 (hb.cell (World.block_lt_of_cell? W p h)).trans h
theorem okeep {W w1 : World} {p : Addr} {v : Value} {S : Nat → Prop} (hb : Only S W w1) (hp : ¬ S p.block) (h : W.cell? p = some v) : w1.cell? p = some v :=
 (hb.cell (World.block_lt_of_cell? W p h) hp).trans h
theorem Blk.below {w w' : World} {g : Nat} {t : TypeId} {cs : Array Value} (h : Blk w g t cs) (hb : Below w.heap.size w w') : Blk w' g t cs := (hb.block g h.lt).trans h
/-- the cells of a block of three -/
theorem Blk.three {w : World} {g : Nat} {t : TypeId} {a b c : Value} (h : Blk w g t #[a, b, c]) :
 (w.cell? ⟨g, 0, none⟩ = some a ∧ w.cell? ⟨g, 1, none⟩ = some b ∧ w.cell? ⟨g, 2, none⟩ = some c) ∧ w.frozen? ⟨g, 0, none⟩ = false ∧ w.frozen? ⟨g, 1, none⟩ = false ∧ w.frozen? ⟨g, 2, none⟩ = false :=
 ⟨⟨by rw [h.cell]; rfl, by rw [h.cell]; rfl, by rw [h.cell]; rfl⟩, h.frozen 0, h.frozen 1, h.frozen 2⟩
theorem below_trans {a b c : World} (h : Below a.heap.size a b) (k : Below b.heap.size b c) : Below a.heap.size a c := h.trans (k.mono h.size)
/-- M and the blocks from lo on, below hi -/
def MM (M : Nat → Prop) (lo hi : Nat) : Nat → Prop := fun k => M k ∨ (lo ≤ k ∧ k < hi)
theorem MM.lt {M : Nat → Prop} {lo hi n : Nat} (h : ∀ k, M k → k < lo) (h1 : lo ≤ n) (h2 : hi ≤ n) : ∀ k, MM M lo hi k → k < n := by
 intro k hk
 rcases hk with hk | hk
 ·have := h k hk; omega
 ·omega
theorem Rd.wide {w : World} {M : Nat → Prop} {A : Option Addr} {xs : List Value} (h : Rd w M A xs) (hi : Nat) : Rd w (MM M w.heap.size hi) A xs := by
 rcases h with h | ⟨b, o, hA, hn, hb, hc⟩
 ·exact Or.inl h
 ·exact Or.inr ⟨b, o, hA, fun hk => by
   rcases hk with hk | hk
   ·exact hn hk
   ·omega, hb, hc⟩
theorem Rd.set_ {w : World} {M : Nat → Prop} {A : Option Addr} {xs : List Value} (h : Rd w M A xs) {p : Addr} (hp : M p.block) (u : Value) : Rd (w.setCell p u) M A xs :=
 h.only (S := M) ((Only.refl _ w).setCell (Or.inl hp) u) (fun _ hb => hb)
theorem Rd.narrow {w : World} {M : Nat → Prop} {A : Option Addr} {xs : List Value} {lo hi : Nat} (h : Rd w (MM M lo hi) A xs) : Rd w M A xs := h.mono fun _ hk => Or.inl hk
theorem Rd.drew {w : World} {M : Nat → Prop} {A : Option Addr} {xs : List Value} (h : Rd w M A xs) : Rd w.drew M A xs := h
theorem Rd.drewN {w : World} {M : Nat → Prop} {A : Option Addr} {xs : List Value} (h : Rd w M A xs) (n : Nat) : Rd (w.drewN n) M A xs := h
/-- the number at a place -/
def nth (l : List Int) (i : Nat) : Int := l.getD i 0
theorem nth_of_lt {l : List Int} {i : Nat} (h : i < l.length) : nth l i = l[i] := by simp [nth, List.getD, h]
theorem nth_set {l : List Int} {i k : Nat} {v : Int} : nth (l.set i v) k = if i = k ∧ k < l.length then v else nth l k := by
 unfold nth
 by_cases h : i = k
 ·subst h
  by_cases hl : i < l.length
  ·simp [List.getD, hl]
  ·simp [List.getD, hl]
 ·simp [List.getD, h]
theorem nth_rep (n i : Nat) : nth (List.replicate n 0) i = 0 := by
 unfold nth
 by_cases h : i < n
 ·simp [List.getD, h]
 ·simp [List.getD, h]
def zeros (n : Nat) : List Int := List.replicate n 0
theorem zeros_len (n : Nat) : (zeros n).length = n := by simp [zeros]
theorem ret_int {k : IntKind} {a b : Int} (h : a = b) : Ending.returned (.int k a) = .returned (.int k b) := by rw [h]
theorem ret_bool {a b : Bool} (h : a = b) : Ending.returned (.bool a) = .returned (.bool b) := by rw [h]
end Go.Proofs.YtaioaojfdngfdaaGreatDoor
namespace Go.Proofs.YtaioaojfdngfdaaGreatDoor
/-- a sign of a set's text: how many bytes it takes, which byte it is, what is wrong -/
def signS : List UInt8 → Nat × UInt8 × Nat
 | [] => (0, 0, 3)
 | c :: r => if c = 37 then (match r with | [] => (1, 0, 3) | b :: _ => (2, b, 0)) else if c = 93 ∨ c = 45 then (0, 0, 2) else (1, c, 0)
/-- a part of a set's text -/
def partS (l : List UInt8) : Nat × Nat :=
 if (signS l).2.2 ≠ 0 then ((signS l).1, (signS l).2.2)
 else match l.drop (signS l).1 with
  | [] => ((signS l).1, 0)
  | c :: r => if c = 45 then (if (signS r).2.2 ≠ 0 then ((signS l).1 + 1 + (signS r).1, (signS r).2.2)
   else if (signS r).2.1.toNat < (signS l).2.1.toNat then ((signS l).1 + (signS r).1, 12) else ((signS l).1 + 1 + (signS r).1, 0)) else ((signS l).1, 0)
/-- the parts of a set's text and what shuts it -/
def loopS : Nat → List UInt8 → Nat × Nat
 | 0, _ => (0, 0)
 | f + 1, l => if (partS l).2 ≠ 0 then partS l
  else match l.drop (partS l).1 with
   | [] => ((partS l).1 + (loopS f []).1, (loopS f []).2)
   | c :: r => if c = 93 then ((partS l).1 + 1, 0) else ((partS l).1 + (loopS f (c :: r)).1, (loopS f (c :: r)).2)
def partsS (l : List UInt8) : Nat × Nat := loopS (l.length + 1) l
/-- a set's text -/
def readS : List UInt8 → Nat × Nat
 | [] => (0, 3)
 | c :: r => if c = 91 then (match r with | [] => (1 + (partsS []).1, (partsS []).2) | b :: q => if b = 94 then (2 + (partsS q).1, (partsS q).2) else (1 + (partsS (b :: q)).1, (partsS (b :: q)).2)) else (0, 2)
/-- an item of a pattern's text: whether it is a run, how many bytes it takes, what is wrong -/
def itemS : List UInt8 → Bool × Nat × Nat
 | [] => (false, 0, 0)
 | c :: r => if c = 42 then (true, 1, 0) else if c = 63 then (false, 1, 0) else if c = 91 then (false, readS (c :: r)) else if c = 93 then (false, 0, 2)
  else if c = 37 then (if r = [] then (false, 1, 3) else (false, 2, 0)) else (false, 1, 0)
/-- a pattern's text behind so many items: which items are runs, where what is wrong stands, what is wrong -/
def parseS : Nat → Nat → List UInt8 → List Bool × Nat × Nat
 | 0, _, _ => ([], 0, 0)
 | f + 1, k, l => if l = [] then ([], 0, 0) else if k = 60 then ([], 0, 4)
  else if (itemS l).2.2 ≠ 0 then ([], (itemS l).2.1, (itemS l).2.2)
  else if (parseS f (k + 1) (l.drop (itemS l).2.1)).2.2 ≠ 0 then ([], (itemS l).2.1 + (parseS f (k + 1) (l.drop (itemS l).2.1)).2.1, (parseS f (k + 1) (l.drop (itemS l).2.1)).2.2)
  else ((itemS l).1 :: (parseS f (k + 1) (l.drop (itemS l).2.1)).1, 0, 0)
def parsesS (k : Nat) (l : List UInt8) : List Bool × Nat × Nat := parseS (l.length + 1) k l
/-- what is wrong of a pattern, and where -/
def checkS (l : List UInt8) : Nat × Nat := if (parsesS 0 l).2.2 ≠ 0 then (parsesS 0 l).2 else if (parsesS 0 l).1.all id = true then (0, 9) else (0, 0)
theorem signS_pos {l : List UInt8} (h : (signS l).2.2 = 0) : 1 ≤ (signS l).1 := by
 cases l with
 | nil => simp [signS] at h
 | cons c r =>
  by_cases h1 : c = 37
  ·subst h1
   cases r with
   | nil => simp [signS] at h
   | cons b q => simp [signS]
  ·by_cases h2 : c = 93 ∨ c = 45
   ·simp [signS, h1, h2] at h
   ·simp [signS, h1, h2]
theorem signS_le (l : List UInt8) : (signS l).1 ≤ l.length := by
 unfold signS
 split
 ·simp
 ·split
  ·split <;> simp
  ·split <;> simp
theorem drop_cons_len {α : Type} {l r : List α} {n : Nat} {c : α} (h : l.drop n = c :: r) : n + 1 + r.length = l.length := by
 have h1 := congrArg List.length h
 simp at h1
 omega
theorem partS_le (l : List UInt8) : (partS l).1 ≤ l.length := by
 have h1 := signS_le l
 unfold partS
 split
 ·exact h1
 ·split
  ·exact h1
  ·rename_i c r h
   have h2 := drop_cons_len h
   have h3 := signS_le r
   split
   ·split
    ·simp; omega
    ·split <;> simp <;> omega
   ·exact h1
theorem partS_pos {l : List UInt8} (h : (partS l).2 = 0) : 1 ≤ (partS l).1 := by
 unfold partS at h ⊢
 split at h
 ·rename_i h1; exact absurd h h1
 ·rename_i h1
  have h2 : (signS l).2.2 = 0 := by simpa using h1
  have h3 := signS_pos h2
  rw [if_neg h1]
  split
  ·exact h3
  ·split
   ·split
    ·simp; omega
    ·split
     ·rename_i hd _ _ _ _ 
      simp_all
     ·simp; omega
   ·exact h3
theorem loopS_fuel : ∀ (f : Nat) (l : List UInt8), l.length + 1 ≤ f → loopS f l = loopS (l.length + 1) l := by
 have key : ∀ (n : Nat) (l : List UInt8), l.length ≤ n → ∀ f g, l.length + 1 ≤ f → l.length + 1 ≤ g → loopS f l = loopS g l := by
  intro n
  induction n with
  | zero =>
   intro l hl f g hf hg
   obtain rfl : l = [] := List.eq_nil_of_length_eq_zero (by omega)
   obtain ⟨f', rfl⟩ : ∃ f', f = f' + 1 := ⟨f - 1, by simp at hf; omega⟩
   obtain ⟨g', rfl⟩ : ∃ g', g = g' + 1 := ⟨g - 1, by simp at hg; omega⟩
   simp [loopS, partS, signS]
  | succ n ih =>
   intro l hl f g hf hg
   obtain ⟨f', rfl⟩ : ∃ f', f = f' + 1 := ⟨f - 1, by omega⟩
   obtain ⟨g', rfl⟩ : ∃ g', g = g' + 1 := ⟨g - 1, by omega⟩
   unfold loopS
   by_cases hp : (partS l).2 ≠ 0
   ·rw [if_pos hp, if_pos hp]
   ·rw [if_neg hp, if_neg hp]
    have hp0 : (partS l).2 = 0 := by simpa using hp
    have h1 := partS_pos hp0
    have h2 := partS_le l
    split
    ·rename_i hd
     have := ih [] (by simp) f' g' (by simp; omega) (by simp; omega)
     rw [this]
    ·rename_i c r hd
     have hlen := drop_cons_len hd
     have := ih (c :: r) (by simp; omega) f' g' (by simp; omega) (by simp; omega)
     rw [this]
 intro f l h
 exact key l.length l (Nat.le_refl _) _ _ h (Nat.le_refl _)
/-- one part more -/
theorem partsS_bad {l : List UInt8} (h : (partS l).2 ≠ 0) : partsS l = partS l := by unfold partsS loopS; rw [if_pos h]
theorem partsS_shut {l r : List UInt8} (h : (partS l).2 = 0) (hd : l.drop (partS l).1 = 93 :: r) : partsS l = ((partS l).1 + 1, 0) := by
 unfold partsS loopS
 rw [if_neg (by simp [h]), hd]
 simp
theorem partsS_more {l : List UInt8} (h : (partS l).2 = 0) (hd : ∀ r, l.drop (partS l).1 ≠ 93 :: r) : partsS l = ((partS l).1 + (partsS (l.drop (partS l).1)).1, (partsS (l.drop (partS l).1)).2) := by
 have h1 := partS_pos h
 have h2 := partS_le l
 have hl : l.length + 1 = (l.length) + 1 := rfl
 conv => lhs; unfold partsS loopS
 rw [if_neg (by simp [h])]
 have hf : loopS l.length (l.drop (partS l).1) = partsS (l.drop (partS l).1) := by
  unfold partsS
  exact loopS_fuel _ _ (by simp; omega)
 rw [← hf]
 cases hq : l.drop (partS l).1 with
 | nil => rfl
 | cons c r =>
  have hc : c ≠ 93 := by
   intro e
   subst e
   exact hd r hq
  simp [hc]
theorem partsS_le (l : List UInt8) : (partsS l).1 ≤ l.length := by
 have key : ∀ (n : Nat) (l : List UInt8), l.length ≤ n → (partsS l).1 ≤ l.length := by
  intro n
  induction n with
  | zero =>
   intro l hl
   obtain rfl : l = [] := List.eq_nil_of_length_eq_zero (by omega)
   decide
  | succ n ih =>
   intro l hl
   have h2 := partS_le l
   by_cases hp : (partS l).2 = 0
   ·have h1 := partS_pos hp
    by_cases hd : ∃ r, l.drop (partS l).1 = 93 :: r
    ·obtain ⟨r, hr⟩ := hd
     rw [partsS_shut hp hr]
     have := drop_cons_len hr
     simp; omega
    ·rw [partsS_more hp (fun r hr => hd ⟨r, hr⟩)]
     have := ih (l.drop (partS l).1) (by simp; omega)
     simp at this ⊢; omega
   ·rw [partsS_bad hp]; exact h2
 exact key _ l (Nat.le_refl _)
theorem loopS_pos : ∀ (f : Nat) (l : List UInt8), l.length + 1 ≤ f → (loopS f l).2 = 0 → 1 ≤ (loopS f l).1 := by
 intro f l hf h
 obtain ⟨f', rfl⟩ : ∃ f', f = f' + 1 := ⟨f - 1, by omega⟩
 unfold loopS at h ⊢
 split at h
 ·rename_i h1; exact absurd h h1
 ·rename_i h1
  have h0 := partS_pos (l := l) (by simpa using h1)
  rw [if_neg h1]
  split
  ·simp; omega
  ·split <;> simp <;> omega
theorem readS_le (l : List UInt8) : (readS l).1 ≤ l.length := by
 unfold readS
 split
 ·simp
 ·split
  ·split
   ·have := partsS_le []; simp at this ⊢; omega
   ·rename_i b q
    split
    ·have := partsS_le q; simp; omega
    ·have := partsS_le (b :: q); simp at this ⊢; omega
  ·simp
theorem readS_pos {l : List UInt8} (h : (readS l).2 = 0) : 1 ≤ (readS l).1 := by
 unfold readS at h ⊢
 split at h
 ·simp at h
 ·split at h
  ·rename_i hc
   rw [if_pos hc]
   split
   ·simp
   ·split <;> simp <;> omega
  ·simp at h
theorem itemS_le (l : List UInt8) : (itemS l).2.1 ≤ l.length := by
 unfold itemS
 split
 ·simp
 ·rename_i c r
  have := readS_le (c :: r)
  split
  ·simp
  ·split
   ·simp
   ·split
    ·exact this
    ·split
     ·simp
     ·split
      ·split
       ·simp
       ·rename_i h
        have : r.length ≠ 0 := fun e => h (List.eq_nil_of_length_eq_zero e)
        simp; omega
      ·simp
theorem itemS_pos {l : List UInt8} (hl : l ≠ []) (h : (itemS l).2.2 = 0) : 1 ≤ (itemS l).2.1 := by
 cases l with
 | nil => exact absurd rfl hl
 | cons c r =>
  unfold itemS at h ⊢
  by_cases h1 : c = 42
  ·simp [h1]
  ·by_cases h2 : c = 63
   ·simp [h2]
   ·by_cases h3 : c = 91
    ·subst h3
     simp at h ⊢
     exact readS_pos h
    ·by_cases h4 : c = 93
     ·subst h4; simp at h
     ·by_cases h5 : c = 37
      ·subst h5
       by_cases h6 : r = []
       ·subst h6; simp at h
       ·simp [h6]
      ·simp [h1, h2, h3, h4, h5]
theorem parseS_fuel : ∀ (f k : Nat) (l : List UInt8), l.length + 1 ≤ f → parseS f k l = parsesS k l := by
 have key : ∀ (n : Nat) (l : List UInt8), l.length ≤ n → ∀ k f g, l.length + 1 ≤ f → l.length + 1 ≤ g → parseS f k l = parseS g k l := by
  intro n
  induction n with
  | zero =>
   intro l hl k f g hf hg
   obtain rfl : l = [] := List.eq_nil_of_length_eq_zero (by omega)
   obtain ⟨f', rfl⟩ : ∃ f', f = f' + 1 := ⟨f - 1, by simp at hf; omega⟩
   obtain ⟨g', rfl⟩ : ∃ g', g = g' + 1 := ⟨g - 1, by simp at hg; omega⟩
   simp [parseS]
  | succ n ih =>
   intro l hl k f g hf hg
   obtain ⟨f', rfl⟩ : ∃ f', f = f' + 1 := ⟨f - 1, by omega⟩
   obtain ⟨g', rfl⟩ : ∃ g', g = g' + 1 := ⟨g - 1, by omega⟩
   unfold parseS
   by_cases hn : l = []
   ·rw [if_pos hn, if_pos hn]
   ·rw [if_neg hn, if_neg hn]
    by_cases hk : k = 60
    ·rw [if_pos hk, if_pos hk]
    ·rw [if_neg hk, if_neg hk]
     by_cases he : (itemS l).2.2 ≠ 0
     ·rw [if_pos he, if_pos he]
     ·rw [if_neg he, if_neg he]
      have h1 := itemS_pos hn (by simpa using he)
      have h2 := itemS_le l
      have := ih (l.drop (itemS l).2.1) (by simp; omega) (k + 1) f' g' (by simp; omega) (by simp; omega)
      rw [this]
 intro f k l h
 exact key l.length l (Nat.le_refl _) k _ _ h (Nat.le_refl _)
theorem parsesS_nil (k : Nat) : parsesS k [] = ([], 0, 0) := by simp [parsesS, parseS]
theorem parsesS_full {l : List UInt8} (h : l ≠ []) : parsesS 60 l = ([], 0, 4) := by unfold parsesS parseS; rw [if_neg h, if_pos rfl]
theorem parsesS_bad {l : List UInt8} {k : Nat} (h : l ≠ []) (hk : k ≠ 60) (he : (itemS l).2.2 ≠ 0) : parsesS k l = ([], (itemS l).2) := by unfold parsesS parseS; rw [if_neg h, if_neg hk, if_pos he]
theorem parsesS_more {l : List UInt8} {k : Nat} (h : l ≠ []) (hk : k ≠ 60) (he : (itemS l).2.2 = 0) :
 parsesS k l = if (parsesS (k + 1) (l.drop (itemS l).2.1)).2.2 ≠ 0 then ([], (itemS l).2.1 + (parsesS (k + 1) (l.drop (itemS l).2.1)).2.1, (parsesS (k + 1) (l.drop (itemS l).2.1)).2.2) else ((itemS l).1 :: (parsesS (k + 1) (l.drop (itemS l).2.1)).1, 0, 0) := by
 have h1 := itemS_pos h he
 have h2 := itemS_le l
 conv => lhs; unfold parsesS parseS
 rw [if_neg h, if_neg hk, if_neg (by simp [he]), parseS_fuel l.length (k + 1) _ (by simp; omega)]
end Go.Proofs.YtaioaojfdngfdaaGreatDoor
namespace Go.Proofs.YtaioaojfdngfdaaGreatDoor
/-- an arm: a pattern, and the op that comes -/
structure ArmM where
 pat : ByteArray
 «to» : Int
/-- an op -/
structure OpM where
 kind : Int
 text : ByteArray
 n : Int
 «to» : Int
 arms : List ArmM
 onT : Int
 onE : Int
/-- a script -/
structure ProgM where
 name : ByteArray
 deadline : Int
 jumps : Int
 ops : List OpM
def okC (c : UInt8) : Bool := (decide (97 ≤ c.toNat) && decide (c.toNat ≤ 122)) || (decide (48 ≤ c.toNat) && decide (c.toNat ≤ 57))
/-- whether a text is a name -/
def nameL (l : List UInt8) : Bool := decide (l ≠ []) && decide (l.length ≤ 16) && decide (97 ≤ (l.getD 0 0).toNat) && l.all okC
def nameB (s : ByteArray) : Bool := nameL s.data.toList
/-- whether an op comes -/
def comesB (k : Nat) (t : Int) : Bool := decide (0 ≤ t) && decide (t ≤ k)
/-- whether an op has nothing but what its kind has -/
def bareB (o : OpM) : Bool := (decide (o.kind = 1) || decide (o.text.size = 0)) && (decide (o.kind = 2) || decide (o.kind = 4) || decide (o.n = 0)) && (decide (o.kind = 3) || decide (o.to = 0)) &&
 (decide (o.kind = 2) || (decide (o.arms.length = 0) && decide (o.onT = 0) && decide (o.onE = 0)))
def patE (s : ByteArray) : Int := ((checkS s.data.toList).2 : Nat)
def armE (k : Nat) (a : ArmM) : Int := if 64 < a.pat.size then 4 else if patE a.pat ≠ 0 then patE a.pat else if comesB k a.to = true then 0 else 13
/-- the first that is not 0 -/
def firstE : List Int → Int
 | [] => 0
 | e :: r => if e ≠ 0 then e else firstE r
def tickB (least n : Int) : Bool := decide (least ≤ n) && decide (n ≤ 1000000000000)
def nevB (n : Int) : Bool := decide (n = 9223372036854775807)
def toB (k : Nat) (t : Int) : Bool := decide (t = -1) || comesB k t
def expectE (k : Nat) (o : OpM) : Int := if (nevB o.n || tickB 0 o.n) = false then 12 else if 8 < o.arms.length then 4 else if firstE (o.arms.map (armE k)) ≠ 0 then firstE (o.arms.map (armE k))
 else if (toB k o.onT && toB k o.onE) = true then 0 else 13
/-- what is wrong of an op -/
def opE (k : Nat) (o : OpM) : Int := if o.kind < 1 ∨ 6 < o.kind then 11 else if bareB o = false then 2 else if o.kind = 1 then (if o.text.size = 0 then 9 else if 256 < o.text.size then 4 else 0)
 else if o.kind = 2 then expectE k o else if o.kind = 3 then (if comesB k o.to = true then 0 else 13) else if o.kind = 4 then (if tickB 0 o.n = true then 0 else 12) else 0
/-- the place of the first that is not 0, and it -/
def firstAt : Nat → List Int → Int × Int
 | _, [] => (0, 0)
 | i, e :: r => if e ≠ 0 then (i, e) else firstAt (i + 1) r
def headE (p : ProgM) : Int := if nameB p.name = false then 10 else if ((nevB p.deadline || tickB 1 p.deadline) && decide (0 ≤ p.jumps) && decide (p.jumps ≤ 1000)) = false then 12 else if 200 < p.ops.length then 4 else 0
/-- what is wrong of a script, and where -/
def wrongM (p : ProgM) : Int × Int := if headE p ≠ 0 then (-1, headE p) else firstAt 0 (p.ops.map (opE p.ops.length))
def goodM (p : ProgM) : Bool := decide ((wrongM p).2 = 0)
theorem firstE_take {l : List Int} {k : Nat} (h : ∀ j, j < k → l.getD j 0 = 0) (hk : k < l.length) (hn : l.getD k 0 ≠ 0) : firstE l = l.getD k 0 := by
 induction l generalizing k with
 | nil => simp at hk
 | cons e r ih =>
  cases k with
  | zero => simp at hn; simp [firstE, hn]
  | succ k =>
   have h0 := h 0 (by omega)
   simp at h0
   subst h0
   simp [firstE]
   simp at hk hn
   exact ih (fun j hj => by have := h (j + 1) (by omega); simpa using this) hk (by simpa using hn)
theorem firstE_zero {l : List Int} (h : ∀ j, j < l.length → l.getD j 0 = 0) : firstE l = 0 := by
 induction l with
 | nil => rfl
 | cons e r ih =>
  have h0 := h 0 (by simp)
  simp at h0
  subst h0
  simp [firstE]
  exact ih (fun j hj => by have := h (j + 1) (by simp; omega); simpa using this)
theorem firstAt_take {l : List Int} {i k : Nat} (h : ∀ j, j < k → l.getD j 0 = 0) (hk : k < l.length) (hn : l.getD k 0 ≠ 0) : firstAt i l = (((i + k : Nat) : Int), l.getD k 0) := by
 induction l generalizing k i with
 | nil => simp at hk
 | cons e r ih =>
  cases k with
  | zero => simp at hn; simp [firstAt, hn]
  | succ k =>
   have h0 := h 0 (by omega)
   simp at h0
   subst h0
   simp at hk hn
   have := ih (i := i + 1) (k := k) (fun j hj => by have := h (j + 1) (by omega); simpa using this) hk (by simpa using hn)
   simp [firstAt]
   rw [this]
   simp
   omega
theorem firstAt_zero {l : List Int} {i : Nat} (h : ∀ j, j < l.length → l.getD j 0 = 0) : firstAt i l = (0, 0) := by
 induction l generalizing i with
 | nil => rfl
 | cons e r ih =>
  have h0 := h 0 (by simp)
  simp at h0
  subst h0
  simp [firstAt]
  exact ih (fun j hj => by have := h (j + 1) (by simp; omega); simpa using this)
end Go.Proofs.YtaioaojfdngfdaaGreatDoor
namespace Go.Proofs.YtaioaojfdngfdaaGreatDoor
def hexD (d : Nat) : UInt8 := if d < 10 then UInt8.ofNat (48 + d) else UInt8.ofNat (87 + d)
/-- a byte's sign -/
def signT (b : UInt8) : List UInt8 := if b = 34 ∨ b = 92 then [92, b] else if b = 10 then [92, 110] else if b = 13 then [92, 114] else if b = 9 then [92, 116] else if b < 32 ∨ 126 < b then [92, 120, hexD (b.toNat / 16), hexD (b.toNat % 16)] else [b]
def signsT (l : List UInt8) : List UInt8 := l.flatMap signT
/-- a text in quotes -/
def quoteT (l : List UInt8) : List UInt8 := 34 :: (signsT l ++ [34])
theorem signs_succ (l : List UInt8) (k : Nat) (h : k < l.length) : signsT (l.take (k + 1)) = signsT (l.take k) ++ signT l[k] := by
 unfold signsT
 rw [List.take_succ_eq_append_getElem h, List.flatMap_append]
 simp
theorem sign_len (b : UInt8) : 1 ≤ (signT b).length ∧ (signT b).length ≤ 4 := by
 unfold signT
 split
 ·simp
 split
 ·simp
 split
 ·simp
 split
 ·simp
 split <;> simp
theorem signs_len (l : List UInt8) : (signsT l).length ≤ 4 * l.length := by
 induction l with
 | nil => simp [signsT]
 | cons a r ih =>
  have := (sign_len a).2
  unfold signsT at ih ⊢
  rw [List.flatMap_cons, List.length_append, List.length_cons]
  omega
theorem quote_len (l : List UInt8) : (quoteT l).length ≤ 4 * l.length + 2 := by
 have := signs_len l
 unfold quoteT
 simp
 omega
def nnT (n : Int) : Int := if n < 0 then 0 else n
/-- an op's label -/
def labelT (n : Int) : List UInt8 := 108 :: Lib.itoa (nnT n)
def wordT (k : Int) : List UInt8 := if k = 1 then [115, 101, 110, 100] else if k = 2 then [101, 120, 112, 101, 99, 116] else if k = 3 then [103, 111, 116, 111] else if k = 4 then [112, 97, 117, 115, 101] else if k = 5 then [100, 111, 110, 101] else if k = 6 then [102, 97, 105, 108] else []
def tkT (t : Int) : List UInt8 := if t = 9223372036854775807 then [110, 101, 118, 101, 114] else Lib.itoa (nnT t)
/-- words as a line -/
def wordsT : List (List UInt8) → List UInt8
 | [] => []
 | w :: r => w ++ r.flatMap (fun x => 32 :: x)
def lineT (ws : List (List UInt8)) : List UInt8 := wordsT ws ++ [10]
theorem words_succ (w : List UInt8) (r : List (List UInt8)) (k : Nat) (h : k < r.length) : wordsT (w :: r.take (k + 1)) = wordsT (w :: r.take k) ++ 32 :: r[k] := by
 rw [List.take_succ_eq_append_getElem h]
 show w ++ List.flatMap _ _ = w ++ List.flatMap _ _ ++ _
 rw [List.flatMap_append]
 simp
/-- the lines of an op, by the program -/
def armT (a : ArmM) : List UInt8 := lineT [[111, 110], quoteT a.pat.data.toList, labelT a.to]
def expectT (o : OpM) : List UInt8 := lineT [wordT o.kind, tkT o.n] ++ o.arms.flatMap armT ++ (if 0 ≤ o.onT then lineT [[116, 105, 109, 101, 111, 117, 116], labelT o.onT] else []) ++ (if 0 ≤ o.onE then lineT [[101, 111, 102], labelT o.onE] else [])
def opT (o : OpM) : List UInt8 := if o.kind = 1 then lineT [wordT o.kind, quoteT o.text.data.toList] else if o.kind = 2 then expectT o else if o.kind = 3 then lineT [wordT o.kind, labelT o.to] else if o.kind = 4 then lineT [wordT o.kind, tkT o.n] else lineT [wordT o.kind]
/-- the lines of an op, by the document -/
def opD (o : OpM) : List UInt8 := (wordT o.kind ++ (if o.kind = 1 then 32 :: quoteT o.text.data.toList else []) ++ (if o.kind = 2 ∨ o.kind = 4 then 32 :: tkT o.n else []) ++ (if o.kind = 3 then 32 :: labelT o.to else []) ++ [10]) ++ o.arms.flatMap armT ++
 (if o.kind = 2 ∧ o.onT ≠ -1 then lineT [[116, 105, 109, 101, 111, 117, 116], labelT o.onT] else []) ++ (if o.kind = 2 ∧ o.onE ≠ -1 then lineT [[101, 111, 102], labelT o.onE] else [])
theorem toB_nn {k : Nat} {t : Int} (h : toB k t = true) : t ≠ -1 ↔ 0 ≤ t := by
 unfold toB comesB at h
 simp at h
 omega
theorem expectE_to {k : Nat} {o : OpM} (h : expectE k o = 0) : toB k o.onT = true ∧ toB k o.onE = true := by
 unfold expectE at h
 split at h
 ·simp at h
 split at h
 ·simp at h
 split at h
 ·rename_i h1; exact absurd h h1
 split at h
 ·rename_i h1; simpa using h1
 ·simp at h
/-- of an op that may be both are the same -/
theorem opT_doc {k : Nat} {o : OpM} (h : opE k o = 0) : opT o = opD o := by
 unfold opE at h
 split at h
 ·simp at h
 rename_i h0
 split at h
 ·simp at h
 rename_i hb
 have hb' : bareB o = true := by simpa using hb
 have harm : o.kind ≠ 2 → o.arms = [] := by
  intro h2
  unfold bareB at hb'
  simp [h2] at hb'
  exact hb'.2.1.1
 unfold opT opD lineT wordsT
 by_cases h1 : o.kind = 1
 ·simp [h1, harm (by omega)]
 by_cases h2 : o.kind = 2
 ·rw [if_neg (by omega), if_pos h2] at h
  obtain ⟨ht, he⟩ := expectE_to h
  unfold expectT lineT wordsT
  simp only [h2, toB_nn ht, toB_nn he]
  simp
 by_cases h3 : o.kind = 3
 ·simp [h1, h2, h3, harm h2]
 by_cases h4 : o.kind = 4
 ·simp [h1, h2, h3, h4, harm h2]
 ·simp [h1, h2, h3, h4, harm h2]
end Go.Proofs.YtaioaojfdngfdaaGreatDoor
