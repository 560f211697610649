/- Parts of a chain of lemmas: Cut, Few, Add, Bld. Conditions: those of each theorem. -/
import Derived.Test.YtdmdohjdmnmabaaGreatDoorQh03
import Derived.Test.YtdmdohjdmnmabaaGreatDoorQh04
import Derived.BigRegion
import Derived.RegionTactic
import Derived.BigQuiet
import Derived.Deep.QuietTactic
import Derived.Deep.RegionHeld3
import Derived.Deep.DeepCutAuto
import Derived.Deep.CutBlock
import Derived.Test.YtdmdohjdmnmabaaGreatDoorQh02
namespace Go.Proofs.YtdmdohjdmnmabaaGreatDoor
open Go.RowKit
set_option linter.unusedVariables false

theorem below_drewN (w : World) (n : Nat) : Below w.heap.size w (w.drewN n) := ⟨rfl, rfl, rfl, Nat.le_refl _, fun _ _ => rfl⟩
theorem below_drew (w : World) : Below w.heap.size w w.drew := ⟨rfl, rfl, rfl, Nat.le_refl _, fun _ _ => rfl⟩
theorem below_alloc (w : World) (o : Obj) : Below w.heap.size w (w.alloc o) := (Below.refl _ _).alloc (Nat.le_refl _) _
def cutS (s : ByteArray) (most : Nat) : ByteArray := if most < s.size then s.extract 0 most else s
theorem cutS_size (s : ByteArray) (most : Nat) : (cutS s most).size = min s.size most := by
 unfold cutS
 split
 ·rw [ba_sub_size s 0 most (by omega) (by omega)]; omega
 ·omega
theorem cutS_c (s : ByteArray) (most : Nat) (w : World) (hm : most ≤ 100000) :
 Calls Tryz.prog 16 #[.string s, .int .i64 most] w fun e w' => e = .returned (.string (cutS s most)) ∧ w = w' := by
 unfold cutS
 by_cases h : most < s.size
 ·rw [if_pos h]
  have hle : most ≤ s.size := by omega
  go_enter Tryz.func16, Tryz.ntmps16
  go_wp2
  go_ret
  exact ⟨rfl, rfl⟩
 ·rw [if_neg h]
  have hd : decide ((most : Int) < s.size) = false := by simp; omega
  have hd2 : decide (most < s.size) = false := by simp; omega
  go_enter Tryz.func16, Tryz.ntmps16
  go_wp2
  go_ret
  exact ⟨rfl, rfl⟩
/-- events that are returned -/
def RetEvs (M : Nat → Prop) (L : List Ev) (w : World) (e : Ending) (w' : World) : Prop :=
 ∃ A c, e = .returned (.slice A L.length c) ∧ Rd w' M A (flat encEv L) ∧ Below w.heap.size w w' ∧ L.length ≤ c
theorem encEv_one (x : Ev) : ∀ u ∈ encEv x, u.oneCell' = true := by
 intro u hu
 simp [encEv] at hu
 rcases hu with rfl | rfl | rfl | rfl | rfl | rfl | rfl | rfl | rfl | rfl | rfl | rfl <;> rfl
def fewL (l : List Ev) (m : Nat) : List Ev := (l.take m).map fun x => { x with s := cutS x.s 24 }
end Go.Proofs.YtdmdohjdmnmabaaGreatDoor
namespace Go.Proofs.YtdmdohjdmnmabaaGreatDoor
open Go.RowKit
set_option linter.unusedVariables false

section
variable {w : World} {M : Nat → Prop} {A : Option Addr} {l : List Ev}
theorem ev_cells (hr : Rd w M A (flat encEv l)) (k : Nat) (hk : k < l.length) : ∃ b o, A = some ⟨b, o, none⟩ ∧ ¬ M b ∧ b < w.heap.size ∧
 w.cell? ⟨b, o + k * 12, none⟩ = some (.int .i64 (evAt l k).k) ∧ w.cell? ⟨b, o + k * 12 + 1, none⟩ = some (.int .i64 (evAt l k).id) ∧ w.cell? ⟨b, o + k * 12 + 2, none⟩ = some (.int .i64 (evAt l k).n) ∧ w.cell? ⟨b, o + k * 12 + 3, none⟩ = some (.int .i64 (evAt l k).tick) ∧
 w.cell? ⟨b, o + k * 12 + 4, none⟩ = some (.string (evAt l k).s) ∧ w.cell? ⟨b, o + k * 12 + 5, none⟩ = some (.int .i64 (evAt l k).err) ∧ w.cell? ⟨b, o + k * 12 + 6, none⟩ = some (.int .i64 (evAt l k).st.tick) ∧ w.cell? ⟨b, o + k * 12 + 7, none⟩ = some (.int .i64 (evAt l k).st.at_) ∧
 w.cell? ⟨b, o + k * 12 + 8, none⟩ = some (.int .i64 (evAt l k).st.what) ∧ w.cell? ⟨b, o + k * 12 + 9, none⟩ = some (.int .i64 (evAt l k).st.arm) ∧ w.cell? ⟨b, o + k * 12 + 10, none⟩ = some (.int .i64 (evAt l k).st.n) ∧ w.cell? ⟨b, o + k * 12 + 11, none⟩ = some (.int .i64 (evAt l k).st.status) := by
 obtain ⟨b, o, hA, hm, hb, hc⟩ := flat_cells encEv_len hr k _ (evAt_some hk) (by omega)
 exact ⟨b, o, hA, hm, hb, hc 0 (by omega), hc 1 (by omega), hc 2 (by omega), hc 3 (by omega), hc 4 (by omega), hc 5 (by omega), hc 6 (by omega), hc 7 (by omega), hc 8 (by omega), hc 9 (by omega), hc 10 (by omega), hc 11 (by omega)⟩
end
theorem bkeepL {B : Nat} {w0 w1 : World} {b o : Nat} {v : Value} (h : Below B w0 w1) (hb : b < B) (hc : w0.cell? ⟨b, o, none⟩ = some v) : w1.cell? ⟨b, o, none⟩ = some v :=
 (h.cell (p := ⟨b, o, none⟩) hb).trans hc
/-- the twelve values of an event -/
def evV (x : Ev) : Array Value := #[.int .i64 x.k, .int .i64 x.id, .int .i64 x.n, .int .i64 x.tick, .string x.s, .int .i64 x.err, .int .i64 x.st.tick, .int .i64 x.st.at_, .int .i64 x.st.what, .int .i64 x.st.arm, .int .i64 x.st.n, .int .i64 x.st.status]
theorem fewL_succ (l : List Ev) (k : Nat) (h : k < l.length) : fewL l (k + 1) = fewL l k ++ [{ evAt l k with s := cutS (evAt l k).s 24 }] := by
 unfold fewL
 rw [List.take_succ_eq_append_getElem h, List.map_append]
 have e : evAt l k = l[k] := by simp [evAt, List.getD, h]
 rw [e]; rfl
theorem fewL_len (l : List Ev) (k : Nat) (h : k ≤ l.length) : (fewL l k).length = k := by
 unfold fewL
 rw [List.length_map, List.length_take]; omega
/-- the first who was opened under a number: its place -/
def idxO (id : Int) (l : List Ev) : Int := if l.any (opens id) then (l.findIdx (opens id) : Int) else -1
theorem idxO_at (id : Int) (l : List Ev) (k : Nat) (hk : k < l.length) (h : ∀ y ∈ l.take k, opens id y = false) (hx : opens id (evAt l k) = true) : idxO id l = k := by
 have e : evAt l k = l[k] := by simp [evAt, List.getD, hk]
 rw [e] at hx
 unfold idxO
 have ha : l.any (opens id) = true := List.any_eq_true.2 ⟨l[k], List.getElem_mem hk, hx⟩
 rw [if_pos ha]
 have : l.findIdx (opens id) = k := by
  rw [List.findIdx_eq hk]
  refine ⟨hx, fun j hj => ?_⟩
  exact h _ (by rw [List.mem_take_iff_getElem]; exact ⟨j, by omega, rfl⟩)
 rw [this]
theorem idxO_none (id : Int) (l : List Ev) (h : ∀ y ∈ l, opens id y = false) : idxO id l = -1 := by
 unfold idxO
 have ha : ¬ l.any (opens id) = true := by
  rw [List.any_eq_true]
  rintro ⟨x, hx, ho⟩
  rw [h x hx] at ho
  cases ho
 rw [if_neg ha]
end Go.Proofs.YtdmdohjdmnmabaaGreatDoor
namespace Go.Proofs.YtdmdohjdmnmabaaGreatDoor
open Go.RowKit
set_option linter.unusedVariables false

theorem own_only {S : Nat → Prop} {w w' : World} {base size n : Nat} {e : TypeId} {v : Value} {xs : List Value} (h : w.ownsRow base e size v n xs) (k : Only S w w') (hS : ∀ g cs, S g → ¬ Blk w g e cs) : w'.ownsRow base e size v n xs := by
 obtain ⟨hl, h2⟩ := h
 refine ⟨hl, ?_⟩
 rcases h2 with ⟨hv, hn⟩ | ⟨g, cap, cur, hv, hb, hh, r⟩
 ·exact Or.inl ⟨hv, hn⟩
 ·refine Or.inr ⟨g, cap, cur, hv, hb, ?_, r⟩
  have hlt : g < w.heap.size := Blk.lt (t := e) (cs := cur) hh
  rw [k.block g hlt (fun hs => hS g cur hs hh)]
  exact hh
theorem Blk.nine {w : World} {g : Nat} {t : TypeId} {a b c d e f h i j : Value} (hb : Blk w g t #[a, b, c, d, e, f, h, i, j]) :
 (w.cell? ⟨g, 0, none⟩ = some a ∧ w.cell? ⟨g, 1, none⟩ = some b ∧ w.cell? ⟨g, 2, none⟩ = some c ∧ w.cell? ⟨g, 3, none⟩ = some d ∧ w.cell? ⟨g, 4, none⟩ = some e ∧ w.cell? ⟨g, 5, none⟩ = some f ∧ w.cell? ⟨g, 6, none⟩ = some h ∧ w.cell? ⟨g, 7, none⟩ = some i ∧ w.cell? ⟨g, 8, none⟩ = some j) ∧
 (w.frozen? ⟨g, 0, none⟩ = false ∧ w.frozen? ⟨g, 1, none⟩ = false ∧ w.frozen? ⟨g, 2, none⟩ = false ∧ w.frozen? ⟨g, 3, none⟩ = false ∧ w.frozen? ⟨g, 4, none⟩ = false ∧ w.frozen? ⟨g, 5, none⟩ = false ∧ w.frozen? ⟨g, 6, none⟩ = false ∧ w.frozen? ⟨g, 7, none⟩ = false ∧ w.frozen? ⟨g, 8, none⟩ = false) :=
 ⟨⟨by rw [hb.cell]; rfl, by rw [hb.cell]; rfl, by rw [hb.cell]; rfl, by rw [hb.cell]; rfl, by rw [hb.cell]; rfl, by rw [hb.cell]; rfl, by rw [hb.cell]; rfl, by rw [hb.cell]; rfl, by rw [hb.cell]; rfl⟩,
  hb.frozen 0, hb.frozen 1, hb.frozen 2, hb.frozen 3, hb.frozen 4, hb.frozen 5, hb.frozen 6, hb.frozen 7, hb.frozen 8⟩
theorem Blk.fourF {w : World} {g : Nat} {t : TypeId} {a b c d : Value} (hb : Blk w g t #[a, b, c, d]) :
 (w.cell? ⟨g, 0, none⟩ = some a ∧ w.cell? ⟨g, 1, none⟩ = some b ∧ w.cell? ⟨g, 2, none⟩ = some c ∧ w.cell? ⟨g, 3, none⟩ = some d) ∧ (w.frozen? ⟨g, 0, none⟩ = false ∧ w.frozen? ⟨g, 1, none⟩ = false ∧ w.frozen? ⟨g, 2, none⟩ = false ∧ w.frozen? ⟨g, 3, none⟩ = false) :=
 ⟨⟨by rw [hb.cell]; rfl, by rw [hb.cell]; rfl, by rw [hb.cell]; rfl, by rw [hb.cell]; rfl⟩, hb.frozen 0, hb.frozen 1, hb.frozen 2, hb.frozen 3⟩
theorem Blk.twelve {w : World} {g : Nat} {t : TypeId} {a b c d e f h i j k l m : Value} (hb : Blk w g t #[a, b, c, d, e, f, h, i, j, k, l, m]) :
 w.cell? ⟨g, 0, none⟩ = some a ∧ w.cell? ⟨g, 1, none⟩ = some b ∧ w.cell? ⟨g, 2, none⟩ = some c ∧ w.cell? ⟨g, 3, none⟩ = some d ∧ w.cell? ⟨g, 4, none⟩ = some e ∧ w.cell? ⟨g, 5, none⟩ = some f ∧ w.cell? ⟨g, 6, none⟩ = some h ∧ w.cell? ⟨g, 7, none⟩ = some i ∧ w.cell? ⟨g, 8, none⟩ = some j ∧ w.cell? ⟨g, 9, none⟩ = some k ∧ w.cell? ⟨g, 10, none⟩ = some l ∧ w.cell? ⟨g, 11, none⟩ = some m :=
 ⟨by rw [hb.cell]; rfl, by rw [hb.cell]; rfl, by rw [hb.cell]; rfl, by rw [hb.cell]; rfl, by rw [hb.cell]; rfl, by rw [hb.cell]; rfl, by rw [hb.cell]; rfl, by rw [hb.cell]; rfl, by rw [hb.cell]; rfl, by rw [hb.cell]; rfl, by rw [hb.cell]; rfl, by rw [hb.cell]; rfl⟩
section
variable {w w' : World} {base F Wn : Nat} {id : Int} {f f' : LifeM}
end
abbrev outV (n : Int) (s : ByteArray) (t : Stp) (d : Bool) : List Value := [.int .i64 n, .string s, .int .i64 t.tick, .int .i64 t.at_, .int .i64 t.what, .int .i64 t.arm, .int .i64 t.n, .int .i64 t.status, .bool d]
theorem outV_one (n : Int) (s : ByteArray) (t : Stp) (d : Bool) : ∀ u ∈ outV n s t d, u.oneCell' = true := by
 intro u hu
 simp [outV] at hu
 rcases hu with rfl | rfl | rfl | rfl | rfl | rfl | rfl | rfl | rfl <;> rfl
abbrev st0 : Stp := ⟨0, 0, 0, 0, 0, 0⟩
theorem encInp_one (x : Inp) : ∀ u ∈ encInp x, u.oneCell' = true := by
 intro u hu
 simp [encInp] at hu
 rcases hu with rfl | rfl | rfl | rfl <;> rfl
theorem encStp_one (x : Stp) : ∀ u ∈ encStp x, u.oneCell' = true := by
 intro u hu
 simp [encStp] at hu
 rcases hu with rfl | rfl | rfl | rfl | rfl | rfl <;> rfl
theorem Blk.grown {w w1 : World} {g base size n : Nat} {t e : TypeId} {cs : Array Value} {v : Value} {xs : List Value} (h : Blk w g t cs) (hown : w.ownsRow base e size v n xs) (hne : t ≠ e) (hg : w.grownBy w1 v.ownBlock) : Blk w1 g t cs := by
 refine (hg.block g h.lt (fun ho => ?_)).trans h
 rcases hown.2 with ⟨hv, _⟩ | ⟨g', cap, cur, hv, _, hh, _⟩
 ·subst hv; simp [Value.ownBlock] at ho
 ·subst hv
  simp [Value.ownBlock] at ho
  subst ho
  exact Blk.ne_ (g' := g) h hh hne rfl
theorem own_grown {w w1 : World} {base base' size size' n n' : Nat} {e e' : TypeId} {v v' : Value} {xs xs' : List Value} (h : w.ownsRow base e size v n xs) (hown : w.ownsRow base' e' size' v' n' xs') (hne : e ≠ e') (hg : w.grownBy w1 v'.ownBlock) : w1.ownsRow base e size v n xs := by
 obtain ⟨hl, h2⟩ := h
 refine ⟨hl, ?_⟩
 rcases h2 with ⟨hv, hn⟩ | ⟨g, cap, cur, hv, hb, hh, r⟩
 ·exact Or.inl ⟨hv, hn⟩
 ·exact Or.inr ⟨g, cap, cur, hv, hb, Blk.grown (t := e) (cs := cur) hh hown hne hg, r⟩
theorem below_grown {B : Nat} {w0 w w1 : World} {base size n : Nat} {e : TypeId} {v : Value} {xs : List Value} (h : Below B w0 w) (hown : w.ownsRow base e size v n xs) (hB : B ≤ w.heap.size) (hb : B ≤ base) (hg : w.grownBy w1 v.ownBlock) : Below B w0 w1 :=
 h.grown hg hB (fun k hk => by have := own_ge hown k hk; omega)
theorem below_drewN' {B : Nat} {w0 w : World} (h : Below B w0 w) (n : Nat) : Below B w0 (w.drewN n) := ⟨h.os, h.tape, h.output, h.size, h.block⟩
theorem list9 {α : Type} {l : List α} (h : l.length = 9) : ∃ a b c d e f g i j, l = [a, b, c, d, e, f, g, i, j] := by
 match l, h with
 | [x0, x1, x2, x3, x4, x5, x6, x7, x8], _ => exact ⟨_, _, _, _, _, _, _, _, _, rfl⟩
end Go.Proofs.YtdmdohjdmnmabaaGreatDoor
namespace Go.Proofs.YtdmdohjdmnmabaaGreatDoor
open Go.RowKit
set_option linter.unusedVariables false

/-- a builder in block b (from B on) holds the text s -/
def BldAt (B b : Nat) (s : ByteArray) (w : World) : Prop := Lib.IsBuilderF 55 5 B b (Lib.strCells s) w
/-- all but the builder's block, and rows of bytes, stands -/
def Kep (b : Nat) (w w' : World) : Prop := Lib.OthersKept 5 (some b) w w'
def Bk (b : Nat) (w : World) : Nat → Prop := fun k => k = b ∨ ∃ c fz, w.heap[k]? = some (.cells c 5 fz)
theorem only_from {B : Nat} {w w' : World} (h : Below B w w') : Only (B ≤ ·) w w' := ⟨h.os, h.output, h.size, fun k hk hn => h.block k (by omega)⟩
theorem only_kept {B b : Nat} {w w' : World} (hb : Below B w w') (hk : Kep b w w') : Only (Bk b w) w w' := by
 refine ⟨hb.os, hb.output, hb.size, fun k hlt hn => ?_⟩
 have h1 : w.heap[k]? = some w.heap[k] := Array.getElem?_eq_getElem hlt
 rw [h1]
 exact hk k _ h1 (fun e => hn (Or.inl (by injection e))) (fun c fz e => hn (Or.inr ⟨c, fz, by rw [h1, e]⟩))
theorem Bk.none {b g : Nat} {w : World} {t : TypeId} {cs : Array Value} (h : Blk w g t cs) (ht : t ≠ 5) (hg : g ≠ b) : ¬ Bk b w g := by
 rintro (h1 | ⟨c, fz, h1⟩)
 ·exact hg h1
 ·unfold Blk at h
  rw [h] at h1
  injection h1 with h1
  injection h1 with _ h2
  exact ht h2
theorem BldAt.blk {B b : Nat} {s : ByteArray} {w : World} (h : BldAt B b s w) : ∃ cs, Blk w b 55 cs := by
 rcases h with ⟨_, v, h, _⟩ | ⟨_, v, h, _⟩ <;> exact ⟨_, h⟩
theorem BldAt.lt {B b : Nat} {s : ByteArray} {w : World} (h : BldAt B b s w) : b < w.heap.size := by
 obtain ⟨cs, hb⟩ := h.blk
 exact hb.lt
theorem BldAt.alloc {B b : Nat} {s : ByteArray} {w : World} (h : BldAt B b s w) (o : Obj) : BldAt B b s (w.alloc o) := h.elim (fun h => Or.inl (h.alloc o)) (fun h => Or.inr (h.alloc o))
theorem BldAt.drew {B b : Nat} {s : ByteArray} {w : World} (h : BldAt B b s w) : BldAt B b s w.drew := h
theorem rowF_only {w w' : World} {base size n : Nat} {e : TypeId} {v : Value} {xs : List Value} (h : w.ownsRowF base e size v n xs) (k : Only NoBlk w w') : w'.ownsRowF base e size v n xs := by
 obtain ⟨hl, h2⟩ := h
 refine ⟨hl, ?_⟩
 rcases h2 with h2 | ⟨g, cap, cur, fz, rfl, hb, hg, r⟩
 ·exact Or.inl h2
 ·exact Or.inr ⟨g, cap, cur, fz, rfl, hb, (k.block g (Array.getElem?_eq_some_iff.1 hg).1 (fun h => h)).trans hg, r⟩
theorem BldAt.only {B b : Nat} {s : ByteArray} {w w' : World} (h : BldAt B b s w) (k : Only NoBlk w w') : BldAt B b s w' := by
 rcases h with ⟨hB, v, hb, hown, hne⟩ | ⟨hB, v, hb, hown, hne⟩
 ·exact Or.inl ⟨hB, v, Blk.only (t := 55) hb k (fun h => h), rowF_only hown k, hne⟩
 ·exact Or.inr ⟨hB, v, Blk.only (t := 55) hb k (fun h => h), rowF_only hown k, hne⟩
theorem BldAt.new {w : World} : BldAt w.heap.size w.heap.size ⟨#[]⟩ (w.alloc (.cells #[.pointer none, .slice none 0 0] 55)) := Lib.IsBuilderF.of (Lib.fresh_isBuilder _ _ w)
/-- a row of another type stays -/
theorem BldAt.row {B b base size n : Nat} {s : ByteArray} {w w' : World} {e : TypeId} {v : Value} {xs : List Value} (h : BldAt B b s w) (hown : w.ownsRow base e size v n xs) (hb : Below B w w') (hk : Kep b w w') (h1 : e ≠ 5) (h2 : e ≠ 55) : w'.ownsRow base e size v n xs := by
 obtain ⟨cs, hbb⟩ := h.blk
 exact own_only hown (only_kept hb hk) (fun g cs' hg hx => Bk.none hx h1 (Blk.ne_ hx hbb h2) hg)
theorem BldAt.side {B b g : Nat} {s : ByteArray} {w w' : World} {e : TypeId} {cs : Array Value} (h : BldAt B b s w) (hx : Blk w g e cs) (hb : Below B w w') (hk : Kep b w w') (h1 : e ≠ 5) (h2 : e ≠ 55) : Blk w' g e cs := by
 obtain ⟨cs', hbb⟩ := h.blk
 exact hx.only (only_kept hb hk) (Bk.none hx h1 (Blk.ne_ hx hbb h2))
theorem strCells_append (s t : ByteArray) : Lib.strCells (s ++ t) = Lib.strCells s ++ Lib.strCells t := by
 simp [Lib.strCells, ByteArray.data_append]
theorem BStr_c (B b : Nat) (s t : ByteArray) (w : World) (h : BldAt B b s w) (hlen : s.size + t.size ≤ 140737488355328) (hBw : B ≤ w.heap.size) :
 Calls Tryz.prog 52 #[.pointer (some ⟨b, 0, none⟩), .string t] w fun e w' => e = .returned (.tuple #[.int .i64 t.size, .nilIface]) ∧ BldAt B b (s ++ t) w' ∧ Below B w w' ∧ Kep b w w' := by
 refine (Tryz.Builder_WriteString_k B b (Lib.strCells s) t w h (by rw [Lib.strCells_length]; exact hlen) hBw).mono ?_
 rintro e w' ⟨rfl, h1, h2, h3⟩
 refine ⟨rfl, Or.inr ?_, h2, h3⟩
 rw [strCells_append]
 exact h1
theorem BOut_c (B b : Nat) (s : ByteArray) (w : World) (h : BldAt B b s w) (hBw : B ≤ w.heap.size) :
 Calls Tryz.prog 32 #[.pointer (some ⟨b, 0, none⟩)] w fun e w' => e = .returned (.string s) ∧ BldAt B b s w' ∧ Below B w w' ∧ Kep b w w' := by
 refine (Tryz.Builder_String_any_k B b s.data.toList w h hBw).mono ?_
 rintro e w' ⟨rfl, h1, h2, h3⟩
 refine ⟨by simp, h1, h2, h3⟩
end Go.Proofs.YtdmdohjdmnmabaaGreatDoor
