/- Parts of a chain of lemmas: ShelfO, Bld, BldL, Lin, Word, Quo, Quo2, ExpP. Conditions: those of each theorem. -/
import Derived.Shelf.Strings.Builder1
import Derived.Shelf.Small.Bits
import Derived.Shelf.Strings.BuilderF
import Derived.Shelf.Strings.BuilderK
import Derived.Ground.Names2Prog
import Derived.Test.YtaioaojfdngfdaaGreatDoorNb01
import Derived.Test.YtaioaojfdngfdaaGreatDoorNb14
import Derived.Test.YtaioaojfdngfdaaGreatDoorNb04
import Derived.Test.YtaioaojfdngfdaaGreatDoorNb13
set_option linter.unusedVariables false
set_option linter.unusedSimpArgs false
namespace Go.Proofs
open Go.Shelf
def Tryz.lays169_ren : Go.Shelf.Ren := ⟨fun | 169 => 66 | n => n, fun | 70 => 118 | 9 => 9 | 0 => 0 | 72 => 120 | 37 => 47 | 127 => 176 | 3 => 3 | 5 => 5 | n => n, fun | n => n⟩
theorem Tryz.lays169 : Go.Proofs.Lays.n169 Tryz.prog Tryz.lays169_ren := {
 mixed := by kernel_rfl
 f169 := Tryz.func66.trans (congrArg some (by kernel_rfl))
 t0 := Tryz.underlying0
 a0 := Tryz.isAgg0
 z0 := Tryz.sizeOf0
 v0 := Tryz.zeroValue0
 t3 := Tryz.underlying3
 a3 := Tryz.isAgg3
 z3 := Tryz.sizeOf3
 v3 := Tryz.zeroValue3
 t9 := Tryz.underlying9
 a9 := Tryz.isAgg9
 z9 := Tryz.sizeOf9
 v9 := Tryz.zeroValue9
 t37 := Tryz.underlying47
 a37 := Tryz.isAgg47
 z37 := Tryz.sizeOf47
 v37 := Tryz.zeroValue47
 t70 := Tryz.underlying118
 a70 := Tryz.isAgg118
 z70 := Tryz.sizeOf118
 v70 := Tryz.zeroValue118
 t72 := Tryz.underlying120
 a72 := Tryz.isAgg120
 z72 := Tryz.sizeOf120
 v72 := Tryz.zeroValue120
 t127 := Tryz.underlying176
 a127 := Tryz.isAgg176
 z127 := Tryz.sizeOf176
 v127 := Tryz.zeroValue176 }
theorem Tryz.Builder_Extra_169 : Builder.Extra Tryz.prog Tryz.lays169_ren := {
 sizeBuilder := by kernel_rfl
 liesBuilder := by kernel_rfl
 t5 := Tryz.underlying5
 a5 := Tryz.isAgg5
 z5 := Tryz.sizeOf5
 v5 := Tryz.zeroValue5
 infoByte := by kernel_rfl
 cellsByte := by kernel_rfl
 sizeByte := by kernel_rfl
 neB5 := by decide }
open Go.RowKit in
theorem Tryz.Builder_String_any_k (B b : Nat) (l : List UInt8) (w : World) (h : Lib.IsBuilderF 120 5 B b (Lib.byteCells l) w) (hBw : B ≤ w.heap.size) :
 Calls Tryz.prog 66 #[.pointer (some ⟨b, 0, none⟩)] w fun e w' => e = .returned (.string ⟨l.toArray⟩) ∧ (Lib.IsBuilderF 120 5 B b (Lib.byteCells l) w' ∧ Below B w w' ∧ Lib.OthersKept 5 (some b) w w') := Any.Builder_String_any_k Tryz.lays169 Tryz.Builder_Extra_169 B b l w h hBw
def Tryz.lays166_ren : Go.Shelf.Ren := ⟨fun | 166 => 95 | 240 => 136 | 276 => 163 | n => n, fun | 0 => 0 | 3 => 3 | 4 => 4 | 5 => 5 | 9 => 9 | 20 => 20 | 37 => 47 | 70 => 118 | 72 => 120 | 75 => 62 | 80 => 37 | 164 => 153 | n => n, fun | n => n⟩
theorem Tryz.lays166 : Go.Proofs.Lays.n166 Tryz.prog Tryz.lays166_ren := {
 mixed := by kernel_rfl
 f166 := Tryz.func95.trans (congrArg some (by kernel_rfl))
 f240 := Tryz.func136.trans (congrArg some (by kernel_rfl))
 f276 := Tryz.func163.trans (congrArg some (by kernel_rfl))
 t0 := Tryz.underlying0
 a0 := Tryz.isAgg0
 z0 := Tryz.sizeOf0
 v0 := Tryz.zeroValue0
 t3 := Tryz.underlying3
 a3 := Tryz.isAgg3
 z3 := Tryz.sizeOf3
 v3 := Tryz.zeroValue3
 t4 := Tryz.underlying4
 a4 := Tryz.isAgg4
 z4 := Tryz.sizeOf4
 v4 := Tryz.zeroValue4
 t9 := Tryz.underlying9
 a9 := Tryz.isAgg9
 z9 := Tryz.sizeOf9
 v9 := Tryz.zeroValue9
 t20 := Tryz.underlying20
 a20 := Tryz.isAgg20
 z20 := Tryz.sizeOf20
 v20 := Tryz.zeroValue20
 t37 := Tryz.underlying47
 a37 := Tryz.isAgg47
 z37 := Tryz.sizeOf47
 v37 := Tryz.zeroValue47
 t70 := Tryz.underlying118
 a70 := Tryz.isAgg118
 z70 := Tryz.sizeOf118
 v70 := Tryz.zeroValue118
 t72 := Tryz.underlying120
 a72 := Tryz.isAgg120
 z72 := Tryz.sizeOf120
 v72 := Tryz.zeroValue120
 t75 := Tryz.underlying62
 a75 := Tryz.isAgg62
 z75 := Tryz.sizeOf62
 v75 := Tryz.zeroValue62
 t164 := Tryz.underlying153
 a164 := Tryz.isAgg153
 z164 := Tryz.sizeOf153
 v164 := Tryz.zeroValue153 }
theorem Tryz.Builder_Extra_166 : Builder.Extra Tryz.prog Tryz.lays166_ren := {
 sizeBuilder := by kernel_rfl
 liesBuilder := by kernel_rfl
 t5 := Tryz.underlying5
 a5 := Tryz.isAgg5
 z5 := Tryz.sizeOf5
 v5 := Tryz.zeroValue5
 infoByte := by kernel_rfl
 cellsByte := by kernel_rfl
 sizeByte := by kernel_rfl
 neB5 := by decide }
def Tryz.lays167_ren : Go.Shelf.Ren := ⟨fun | 167 => 94 | 240 => 136 | 276 => 163 | n => n, fun | 0 => 0 | 3 => 3 | 4 => 4 | 5 => 5 | 9 => 9 | 20 => 20 | 37 => 47 | 70 => 118 | 72 => 120 | 75 => 62 | 80 => 37 | 164 => 153 | n => n, fun | n => n⟩
theorem Tryz.lays167 : Go.Proofs.Lays.n167 Tryz.prog Tryz.lays167_ren := {
 mixed := by kernel_rfl
 f167 := Tryz.func94.trans (congrArg some (by kernel_rfl))
 f240 := Tryz.func136.trans (congrArg some (by kernel_rfl))
 f276 := Tryz.func163.trans (congrArg some (by kernel_rfl))
 t0 := Tryz.underlying0
 a0 := Tryz.isAgg0
 z0 := Tryz.sizeOf0
 v0 := Tryz.zeroValue0
 t4 := Tryz.underlying4
 a4 := Tryz.isAgg4
 z4 := Tryz.sizeOf4
 v4 := Tryz.zeroValue4
 t5 := Tryz.underlying5
 a5 := Tryz.isAgg5
 z5 := Tryz.sizeOf5
 v5 := Tryz.zeroValue5
 t9 := Tryz.underlying9
 a9 := Tryz.isAgg9
 z9 := Tryz.sizeOf9
 v9 := Tryz.zeroValue9
 t20 := Tryz.underlying20
 a20 := Tryz.isAgg20
 z20 := Tryz.sizeOf20
 v20 := Tryz.zeroValue20
 t37 := Tryz.underlying47
 a37 := Tryz.isAgg47
 z37 := Tryz.sizeOf47
 v37 := Tryz.zeroValue47
 t70 := Tryz.underlying118
 a70 := Tryz.isAgg118
 z70 := Tryz.sizeOf118
 v70 := Tryz.zeroValue118
 t72 := Tryz.underlying120
 a72 := Tryz.isAgg120
 z72 := Tryz.sizeOf120
 v72 := Tryz.zeroValue120
 t75 := Tryz.underlying62
 a75 := Tryz.isAgg62
 z75 := Tryz.sizeOf62
 v75 := Tryz.zeroValue62
 t164 := Tryz.underlying153
 a164 := Tryz.isAgg153
 z164 := Tryz.sizeOf153
 v164 := Tryz.zeroValue153 }
theorem Tryz.Builder_Extra_167 : Builder.Extra Tryz.prog Tryz.lays167_ren := {
 sizeBuilder := by kernel_rfl
 liesBuilder := by kernel_rfl
 t5 := Tryz.underlying5
 a5 := Tryz.isAgg5
 z5 := Tryz.sizeOf5
 v5 := Tryz.zeroValue5
 infoByte := by kernel_rfl
 cellsByte := by kernel_rfl
 sizeByte := by kernel_rfl
 neB5 := by decide }
open Go.RowKit in
theorem Tryz.Builder_WriteString_k (B b : Nat) (bs : List Value) (s : ByteArray) (w : World) (h : Lib.IsBuilderF 120 5 B b bs w) (hlen : bs.length + s.size ≤ 140737488355328) (hBw : B ≤ w.heap.size) :
 Calls Tryz.prog 95 #[.pointer (some ⟨b, 0, none⟩), .string s] w fun e w' => e = .returned (.tuple #[.int .i64 s.size, .nilIface]) ∧ (Lib.BuilderAtF 120 5 B b (.pointer (some ⟨b, 0, none⟩)) (bs ++ Lib.strCells s) w' ∧ Below B w w' ∧ Lib.OthersKept 5 (some b) w w') := Any.Builder_WriteString_k Tryz.lays166 Tryz.Builder_Extra_166 B b bs s w h hlen hBw
open Go.RowKit in
theorem Tryz.Builder_WriteByte_k (B b : Nat) (bs : List Value) (c : Int) (w : World) (h : Lib.IsBuilderF 120 5 B b bs w) (hlen : bs.length + 1 ≤ 140737488355328) (hBw : B ≤ w.heap.size) :
 Calls Tryz.prog 94 #[.pointer (some ⟨b, 0, none⟩), .int .u8 c] w fun e w' => e = .returned .nilIface ∧ (Lib.BuilderAtF 120 5 B b (.pointer (some ⟨b, 0, none⟩)) (bs ++ [.int .u8 c]) w' ∧ Below B w w' ∧ Lib.OthersKept 5 (some b) w w') := Any.Builder_WriteByte_k Tryz.lays167 Tryz.Builder_Extra_167 B b bs c w h hlen hBw
end Go.Proofs
namespace Go.Proofs.YtaioaojfdngfdaaGreatDoor
open Go.RowKit
/-- a builder in block b (from B on) holds the text s -/
def BldAt (B b : Nat) (s : ByteArray) (w : World) : Prop := Lib.IsBuilderF 120 5 B b (Lib.strCells s) w
/-- all but the builder's block, and rows of bytes, stands -/
def Kep (b : Nat) (w w' : World) : Prop := Lib.OthersKept 5 (some b) w w'
def Bk (b : Nat) (w : World) : Nat → Prop := fun k => k = b ∨ ∃ c fz, w.heap[k]? = some (.cells c 5 fz)
theorem only_from {B : Nat} {w w' : World} (h : Below B w w') : Only (B ≤ ·) w w' := ⟨h.os, h.output, h.size, fun k hk hn => h.block k (by omega)⟩
theorem only_kept {B b : Nat} {w w' : World} (hb : Below B w w') (hk : Kep b w w') : Only (Bk b w) w w' := by
 refine ⟨hb.os, hb.output, hb.size, fun k hlt hn => ?_⟩
 have h1 : w.heap[k]? = some w.heap[k] := Array.getElem?_eq_getElem hlt
 rw [h1]
 exact hk k _ h1 (fun e => hn (Or.inl (by injection e))) (fun c fz e => hn (Or.inr ⟨c, fz, by rw [h1, e]⟩))
theorem Bk.none {b g : Nat} {w : World} {t : TypeId} {cs : Array Value} (h : Blk w g t cs) (ht : t ≠ 5) (hg : g ≠ b) : ¬ Bk b w g := by
 rintro (h1 | ⟨c, fz, h1⟩)
 ·exact hg h1
 ·unfold Blk at h
  rw [h] at h1
  injection h1 with h1
  injection h1 with _ h2
  exact ht h2
theorem BldAt.blk {B b : Nat} {s : ByteArray} {w : World} (h : BldAt B b s w) : ∃ cs, Blk w b 120 cs := by
 rcases h with ⟨_, v, h, _⟩ | ⟨_, v, h, _⟩ <;> exact ⟨_, h⟩
theorem BldAt.lt {B b : Nat} {s : ByteArray} {w : World} (h : BldAt B b s w) : b < w.heap.size := by
 obtain ⟨cs, hb⟩ := h.blk
 exact hb.lt
theorem BldAt.alloc {B b : Nat} {s : ByteArray} {w : World} (h : BldAt B b s w) (o : Obj) : BldAt B b s (w.alloc o) := h.elim (fun h => Or.inl (h.alloc o)) (fun h => Or.inr (h.alloc o))
theorem BldAt.drew {B b : Nat} {s : ByteArray} {w : World} (h : BldAt B b s w) : BldAt B b s w.drew := h
theorem rowF_only {w w' : World} {base size n : Nat} {e : TypeId} {v : Value} {xs : List Value} (h : w.ownsRowF base e size v n xs) (k : Only NoBlk w w') : w'.ownsRowF base e size v n xs := by
 obtain ⟨hl, h2⟩ := h
 refine ⟨hl, ?_⟩
 rcases h2 with h2 | ⟨g, cap, cur, fz, rfl, hb, hg, r⟩
 ·exact Or.inl h2
 ·exact Or.inr ⟨g, cap, cur, fz, rfl, hb, (k.block g (Array.getElem?_eq_some_iff.1 hg).1 (fun h => h)).trans hg, r⟩
theorem BldAt.only {B b : Nat} {s : ByteArray} {w w' : World} (h : BldAt B b s w) (k : Only NoBlk w w') : BldAt B b s w' := by
 rcases h with ⟨hB, v, hb, hown, hne⟩ | ⟨hB, v, hb, hown, hne⟩
 ·exact Or.inl ⟨hB, v, Blk.only (t := 120) hb k (fun h => h), rowF_only hown k, hne⟩
 ·exact Or.inr ⟨hB, v, Blk.only (t := 120) hb k (fun h => h), rowF_only hown k, hne⟩
theorem BldAt.new {w : World} : BldAt w.heap.size w.heap.size ⟨#[]⟩ (w.alloc (.cells #[.pointer none, .slice none 0 0] 120)) := Lib.IsBuilderF.of (Lib.fresh_isBuilder _ _ w)
/-- a row of another type stays -/
theorem BldAt.row {B b base size n : Nat} {s : ByteArray} {w w' : World} {e : TypeId} {v : Value} {xs : List Value} (h : BldAt B b s w) (hown : w.ownsRow base e size v n xs) (hb : Below B w w') (hk : Kep b w w') (h1 : e ≠ 5) (h2 : e ≠ 120) : w'.ownsRow base e size v n xs := by
 obtain ⟨cs, hbb⟩ := h.blk
 exact own_only hown (only_kept hb hk) (fun g cs' hg hx => Bk.none hx h1 (Blk.ne_ hx hbb h2) hg)
theorem BldAt.side {B b g : Nat} {s : ByteArray} {w w' : World} {e : TypeId} {cs : Array Value} (h : BldAt B b s w) (hx : Blk w g e cs) (hb : Below B w w') (hk : Kep b w w') (h1 : e ≠ 5) (h2 : e ≠ 120) : Blk w' g e cs := by
 obtain ⟨cs', hbb⟩ := h.blk
 exact hx.only (only_kept hb hk) (Bk.none hx h1 (Blk.ne_ hx hbb h2))
theorem strCells_append (s t : ByteArray) : Lib.strCells (s ++ t) = Lib.strCells s ++ Lib.strCells t := by
 simp [Lib.strCells, ByteArray.data_append]
theorem BStr_c (B b : Nat) (s t : ByteArray) (w : World) (h : BldAt B b s w) (hlen : s.size + t.size ≤ 140737488355328) (hBw : B ≤ w.heap.size) :
 Calls Tryz.prog 95 #[.pointer (some ⟨b, 0, none⟩), .string t] w fun e w' => e = .returned (.tuple #[.int .i64 t.size, .nilIface]) ∧ BldAt B b (s ++ t) w' ∧ Below B w w' ∧ Kep b w w' := by
 refine (Tryz.Builder_WriteString_k B b (Lib.strCells s) t w h (by rw [Lib.strCells_length]; exact hlen) hBw).mono ?_
 rintro e w' ⟨rfl, h1, h2, h3⟩
 refine ⟨rfl, Or.inr ?_, h2, h3⟩
 rw [strCells_append]
 exact h1
theorem BOut_c (B b : Nat) (s : ByteArray) (w : World) (h : BldAt B b s w) (hBw : B ≤ w.heap.size) :
 Calls Tryz.prog 66 #[.pointer (some ⟨b, 0, none⟩)] w fun e w' => e = .returned (.string s) ∧ BldAt B b s w' ∧ Below B w w' ∧ Kep b w w' := by
 refine (Tryz.Builder_String_any_k B b s.data.toList w h hBw).mono ?_
 rintro e w' ⟨rfl, h1, h2, h3⟩
 refine ⟨by simp, h1, h2, h3⟩
def BlAt (B b : Nat) (l : List UInt8) (w : World) : Prop := BldAt B b ⟨l.toArray⟩ w
/-- behind a call that writes to it -/
def Bo (B b : Nat) (l : List UInt8) (w w' : World) : Prop := BlAt B b l w' ∧ Below B w w' ∧ Kep b w w'
theorem Bo.refl {B b : Nat} {l : List UInt8} {w : World} (h : BlAt B b l w) : Bo B b l w w := ⟨h, Below.refl _ _, Lib.OthersKept.refl _ _ _⟩
theorem Bo.trans {B b : Nat} {l l' : List UInt8} {w w' w2 : World} (h : Bo B b l w w') (k : Bo B b l' w' w2) : Bo B b l' w w2 := ⟨k.1, h.2.1.trans k.2.1, h.2.2.trans k.2.2⟩
theorem BlAt.le {B b : Nat} {l : List UInt8} {w : World} (h : BlAt B b l w) : B ≤ w.heap.size := by
 have h2 := BldAt.lt h
 have h1 : B ≤ b := by
  rcases h with ⟨h, _⟩ | ⟨h, _⟩ <;> exact h
 omega
theorem WS_c (B b : Nat) (l t : List UInt8) (s : ByteArray) (w : World) (h : BlAt B b l w) (hs : s = ⟨t.toArray⟩) (hlen : l.length + t.length ≤ 140737488355328) :
 Calls Tryz.prog 95 #[.pointer (some ⟨b, 0, none⟩), .string s] w fun e w' => e = .returned (.tuple #[.int .i64 t.length, .nilIface]) ∧ Bo B b (l ++ t) w w' := by
 subst hs
 refine (Tryz.Builder_WriteString_k B b (Lib.byteCells l) ⟨t.toArray⟩ w h (by rw [Lib.byteCells_length]; exact hlen) h.le).mono ?_
 rintro e w' ⟨rfl, h1, h2, h3⟩
 refine ⟨rfl, Or.inr ?_, h2, h3⟩
 show Lib.BuilderAtF _ _ _ _ _ (Lib.byteCells _) _
 rw [Lib.byteCells_append]
 exact h1
theorem WB_c (B b : Nat) (l : List UInt8) (c : UInt8) (n : Int) (w : World) (h : BlAt B b l w) (hn : n = c.toNat) (hlen : l.length + 1 ≤ 140737488355328) :
 Calls Tryz.prog 94 #[.pointer (some ⟨b, 0, none⟩), .int .u8 n] w fun e w' => e = .returned .nilIface ∧ Bo B b (l ++ [c]) w w' := by
 subst hn
 refine (Tryz.Builder_WriteByte_k B b (Lib.byteCells l) c.toNat w h (by rw [Lib.byteCells_length]; exact hlen) h.le).mono ?_
 rintro e w' ⟨rfl, h1, h2, h3⟩
 refine ⟨rfl, Or.inr ?_, h2, h3⟩
 show Lib.BuilderAtF _ _ _ _ _ (Lib.byteCells _) _
 rw [Lib.byteCells_append]
 exact h1
theorem Out_c (B b : Nat) (l : List UInt8) (w : World) (h : BlAt B b l w) :
 Calls Tryz.prog 66 #[.pointer (some ⟨b, 0, none⟩)] w fun e w' => e = .returned (.string ⟨l.toArray⟩) ∧ Below B w w' ∧ Kep b w w' := by
 refine (Tryz.Builder_String_any_k B b l w h h.le).mono ?_
 rintro e w' ⟨rfl, h1, h2, h3⟩
 exact ⟨rfl, h2, h3⟩
theorem itoa_nnT {n : Int} (h : -9223372036854775808 ≤ n) (h2 : n ≤ 9223372036854775807) : (Lib.itoa (nnT n)).length ≤ 21 := itoa_len (by unfold nnT; split <;> omega) (by unfold nnT; split <;> omega)
set_option maxHeartbeats 1600000 in
theorem label_c (n : Int) (w : World) (h0 : -9223372036854775808 ≤ n) (h1 : n ≤ 9223372036854775807) (ht : Tab w) : Calls Tryz.prog 64 #[.int .i64 n] w fun e w' => e = .returned (.string ⟨(labelT n).toArray⟩) ∧ Below w.heap.size w w' := by
 have HI := hide (Itoa_c (nnT n) w (by unfold nnT; split <;> omega) (by unfold nnT; split <;> omega) ht)
 have hl := itoa_nnT h0 h1
 have hm : max n 0 = nnT n := by unfold nnT; split <;> omega
 have HT := hide (show labelT n = 108 :: Lib.itoa (nnT n) from rfl)
 obtain ⟨I, hI⟩ : ∃ I, I = Lib.itoa (nnT n) := ⟨_, rfl⟩
 rw [← hI] at HI hl HT
 have hz : (bs I).size = I.length := bs_size I
 have hc : (⟨#[108]⟩ : ByteArray).size + (bs I).size ≤ 9223372036854775807 := by rw [hz]; show 1 + _ ≤ _; omega
 clear hI ht
 go_enter Tryz.func64, Tryz.ntmps64
 go_wp2_with fail
 refine HI.out.mono ?_
 rintro e w2 ⟨rfl, hb2⟩
 have HB2 := hide hb2
 clear hb2
 go_wp2_with fail
 go_ret
 refine ⟨?_, HB2.out⟩
 rw [HT.out]
 show Ending.returned (.string (bs [108] ++ bs I)) = _
 rw [bs_append]
 rfl
def strV (t : List UInt8) : Value := .string ⟨t.toArray⟩
theorem words_add (ws : List (List UInt8)) (k : Nat) (h : k < ws.length) : wordsT (ws.take (k + 1)) = (wordsT (ws.take k) ++ (if k = 0 then [] else [32])) ++ ws[k] := by
 cases ws with
 | nil => simp at h
 | cons t r =>
  cases k with
  | zero => simp [wordsT]
  | succ k =>
   have hk : k < r.length := by simpa using h
   simp only [List.take_succ_cons, List.getElem_cons_succ]
   rw [words_succ t r k hk]
   simp
theorem words_le (ws : List (List UInt8)) : ∀ d k, k + d = ws.length → (wordsT (ws.take k)).length ≤ (wordsT ws).length
 | 0, k, h => by rw [List.take_of_length_le (by omega)]; exact Nat.le_refl _
 | d + 1, k, h => by
  have h1 := words_le ws d (k + 1) (by omega)
  rw [words_add ws k (by omega)] at h1
  simp only [List.length_append] at h1
  omega
set_option maxRecDepth 100000 in
set_option maxHeartbeats 6400000 in
theorem line_c (B b g : Nat) (l : List UInt8) (ws : List (List UInt8)) (w : World) (h : BlAt B b l w) (hg : Blk w g 9 (ws.map strV).toArray) (hn : ws.length ≤ 8) (hlen : l.length + (lineT ws).length ≤ 140737488355328) :
 Calls Tryz.prog 60 #[.pointer (some ⟨b, 0, none⟩), .slice (some ⟨g, 0, none⟩) ws.length ws.length] w fun e w' => e = .returned (.tuple #[]) ∧ Bo B b (l ++ lineT ws) w w' := by
 have HWB := hide (fun (l : List UInt8) (c : UInt8) (n : Int) (w : World) (h : BlAt B b l w) (hn : n = c.toNat) (hlen : l.length + 1 ≤ 140737488355328) => WB_c B b l c n w h hn hlen)
 have HWS := hide (fun (l t : List UInt8) (s : ByteArray) (w : World) (h : BlAt B b l w) (hs : s = ⟨t.toArray⟩) (hlen : l.length + t.length ≤ 140737488355328) => WS_c B b l t s w h hs hlen)
 have HD := hide (show Bo B b (l ++ wordsT (ws.take 0)) w w by rw [show l ++ wordsT (ws.take 0) = l by simp [wordsT]]; exact Bo.refl h)
 have HCl := hide (fun (l' : List UInt8) (w' : World) (h2 : Bo B b l' w w') (k : Nat) (hk : k < ws.length) => show w'.cell? ⟨g, k, none⟩ = some (strV ws[k]) by
  rw [(BldAt.side h hg h2.2.1 h2.2.2 (by decide) (by decide)).cell]
  simp [hk])
 have HSc := hide (words_add ws)
 have hle : ∀ k, k ≤ ws.length → (wordsT (ws.take k)).length + 1 ≤ (lineT ws).length := fun k hk => by
  have := words_le ws (ws.length - k) k (by omega)
  unfold lineT
  simp
  omega
 have HLe := hide hle
 have HLn := hide (show l ++ lineT ws = (l ++ wordsT (ws.take ws.length)) ++ [10] by unfold lineT; rw [List.take_length]; simp)
 obtain ⟨N, hN⟩ : ∃ N, N = (lineT ws).length := ⟨_, rfl⟩
 rw [← hN] at hlen HLe
 obtain ⟨m, hm⟩ : ∃ m, m = ws.length := ⟨_, rfl⟩
 have Hm := hide hm
 rw [← hm] at hn HLe HLn ⊢
 clear h hg hle hN hm
 go_enter Tryz.func60, Tryz.ntmps60
 go_wp2_with fail
 go_loopw [8] (fun i wr => ∃ k : Nat, k ≤ m ∧ i = .int .i64 k ∧ Hid (Bo B b (l ++ wordsT (ws.take k)) w wr)) (fun i _ => m - (intOf i).toNat)
 case atStart => exact ⟨0, Nat.zero_le _, rfl, HD⟩
 case round =>
  clear HD
  obtain ⟨k, hk, rfl, HQ⟩ := hrel
  have w0 : IntKind.i64.wrap ((k : Int) + 1) = (k : Int) + 1 := IntWalk.i64_in _ (by omega)
  by_cases hlt : k < m
  case neg =>
   obtain rfl : k = m := by omega
   have d1 : decide ((k : Int) < (k : Int)) = false := by simp
   have d2 : decide (k < k) = false := by simp
   have hl := HLe.out k (by omega)
   go_wp2_with fail
   refine (HWB.out _ 10 _ _ HQ.out.1 rfl (by simp; omega)).mono ?_
   rintro e w3 ⟨rfl, hq3⟩
   have HQ3 := hide (HQ.out.trans hq3)
   rw [← HLn.out] at HQ3
   clear hq3
   go_wp2_with fail
   go_end0
   exact ⟨rfl, HQ3.out⟩
  case pos =>
   have d1 : decide ((k : Int) < (m : Int)) = true := by simp; exact hlt
   have d2 : decide (k < m) = true := by simp; exact hlt
   have j1 : (0 : Int) ≤ (k : Int) := by omega
   have j2 : (k : Int) < (m : Int) := by omega
   have hkw : k < ws.length := by rw [← Hm.out]; exact hlt
   have HC := hide (HSc.out k hkw)
   have c0 := HCl.out _ _ HQ.out k hkw
   have hl := HLe.out (k + 1) (by omega)
   rw [HC.out] at hl
   simp only [List.length_append] at hl
   obtain ⟨u, hu⟩ : ∃ u, u = ws[k] := ⟨_, rfl⟩
   rw [← hu] at HC c0 hl
   unfold strV at c0
   clear hu
   by_cases hk0 : k = 0
   case pos =>
    have d3 : decide ((0 : Int) < (k : Int)) = false := by simp; omega
    have d4 : decide (0 < k) = false := by simp; omega
    rw [if_pos hk0] at HC hl
    clear hk0
    go_wp2_with fail
    refine (HWS.out _ u _ _ HQ.out.1 rfl (by simp at hl ⊢; omega)).mono ?_
    rintro e w3 ⟨rfl, hq3⟩
    have HQ3 := hide (HQ.out.trans hq3)
    clear hq3
    go_wp2_with fail
    go_roundw
    case rel => exact ⟨k + 1, by omega, by go_num, by rw [HC.out, List.append_nil, ← List.append_assoc]; exact HQ3⟩
    case measure => simp [intOf]; omega
   case neg =>
    have d3 : decide ((0 : Int) < (k : Int)) = true := by simp; omega
    have d4 : decide (0 < k) = true := by simp; omega
    rw [if_neg hk0] at HC hl
    clear hk0
    go_wp2_with fail
    refine (HWB.out _ 32 _ _ HQ.out.1 rfl (by simp at hl ⊢; omega)).mono ?_
    rintro e w3 ⟨rfl, hq3⟩
    have HQ3 := hide (HQ.out.trans hq3)
    clear hq3
    go_wp2_with fail
    refine (HWS.out _ u _ _ HQ3.out.1 rfl (by simp at hl ⊢; omega)).mono ?_
    rintro e w4 ⟨rfl, hq4⟩
    have HQ4 := hide (HQ3.out.trans hq4)
    clear hq4
    go_wp2_with fail
    go_roundw
    case rel => exact ⟨k + 1, by omega, by go_num, by rw [HC.out, ← List.append_assoc, ← List.append_assoc]; exact HQ4⟩
    case measure => simp [intOf]; omega
set_option maxHeartbeats 3200000 in
theorem Word_c (k : Int) (w : World) : Calls Tryz.prog 104 #[.int .i64 k] w fun e w' => e = .returned (.string ⟨(wordT k).toArray⟩) ∧ w' = w := by
 have HW := hide (show wordT k = if k = 1 then [115, 101, 110, 100] else if k = 2 then [101, 120, 112, 101, 99, 116] else if k = 3 then [103, 111, 116, 111] else if k = 4 then [112, 97, 117, 115, 101] else if k = 5 then [100, 111, 110, 101] else if k = 6 then [102, 97, 105, 108] else [] from rfl)
 obtain ⟨W, hW⟩ : ∃ W, W = wordT k := ⟨_, rfl⟩
 rw [← hW] at HW ⊢
 clear hW
 go_enter Tryz.func104, Tryz.ntmps104
 go_wp2_with fail
 all_goals (go_ret; refine ⟨?_, rfl⟩; rw [HW.out]; simp_all)
theorem hex_at (d : Nat) (h : d < 16) : (⟨#[48, 49, 50, 51, 52, 53, 54, 55, 56, 57, 97, 98, 99, 100, 101, 102]⟩ : ByteArray).data[d]? = some (hexD d) := by
 have : ∀ d : Fin 16, (⟨#[48, 49, 50, 51, 52, 53, 54, 55, 56, 57, 97, 98, 99, 100, 101, 102]⟩ : ByteArray).data[d.val]? = some (hexD d.val) := by decide
 exact this ⟨d, h⟩
theorem hex_nat (d : Nat) (hd : d < (⟨#[48, 49, 50, 51, 52, 53, 54, 55, 56, 57, 97, 98, 99, 100, 101, 102]⟩ : ByteArray).size) : ((((⟨#[48, 49, 50, 51, 52, 53, 54, 55, 56, 57, 97, 98, 99, 100, 101, 102]⟩ : ByteArray)[d]'hd).toNat : Nat) : Int) = ((hexD d).toNat : Nat) := by
 have h := hex_at d hd
 have h2 : (⟨#[48, 49, 50, 51, 52, 53, 54, 55, 56, 57, 97, 98, 99, 100, 101, 102]⟩ : ByteArray).data[d]? = some ((⟨#[48, 49, 50, 51, 52, 53, 54, 55, 56, 57, 97, 98, 99, 100, 101, 102]⟩ : ByteArray)[d]'hd) := Array.getElem?_eq_getElem hd
 rw [h] at h2
 injection h2 with h2
 rw [h2]
set_option maxRecDepth 100000 in
set_option maxHeartbeats 6400000 in
theorem sign_c' (B b : Nat) (l : List UInt8) (c : UInt8) (w : World) (h : BlAt B b l w) (hlen : l.length + 4 ≤ 140737488355328) :
 Calls Tryz.prog 140 #[.pointer (some ⟨b, 0, none⟩), .int .u8 c.toNat] w fun e w' => e = .returned (.tuple #[]) ∧ Bo B b (l ++ signT c) w w' := by
 have HWB := hide (fun (l : List UInt8) (c : UInt8) (n : Int) (w : World) (h : BlAt B b l w) (hn : n = c.toNat) (hlen : l.length + 1 ≤ 140737488355328) => WB_c B b l c n w h hn hlen)
 have HWS := hide (fun (l t : List UInt8) (s : ByteArray) (w : World) (h : BlAt B b l w) (hs : s = ⟨t.toArray⟩) (hlen : l.length + t.length ≤ 140737488355328) => WS_c B b l t s w h hs hlen)
 have HB := hide h
 have hc := c.toNat_lt
 obtain ⟨n, hn⟩ : ∃ n, n = c.toNat := ⟨_, rfl⟩
 have e34 : c = 34 ↔ n = 34 := by rw [hn, ← UInt8.toNat_inj]; rfl
 have e92 : c = 92 ↔ n = 92 := by rw [hn, ← UInt8.toNat_inj]; rfl
 have e10 : c = 10 ↔ n = 10 := by rw [hn, ← UInt8.toNat_inj]; rfl
 have e13 : c = 13 ↔ n = 13 := by rw [hn, ← UInt8.toNat_inj]; rfl
 have e9 : c = 9 ↔ n = 9 := by rw [hn, ← UInt8.toNat_inj]; rfl
 have eL : c < 32 ↔ n < 32 := by rw [hn, UInt8.lt_iff_toNat_lt]; rfl
 have eG : 126 < c ↔ 126 < n := by rw [hn, UInt8.lt_iff_toNat_lt]; rfl
 have HT := hide (show signT c = if n = 34 ∨ n = 92 then [92, c] else if n = 10 then [92, 110] else if n = 13 then [92, 114] else if n = 9 then [92, 116] else if n < 32 ∨ 126 < n then [92, 120, hexD (n / 16), hexD (n % 16)] else [c] by unfold signT; simp only [e34, e92, e10, e13, e9, eL, eG, ← hn])
 have HN := hide hn
 rw [← hn] at hc ⊢
 clear h hn e34 e92 e10 e13 e9 eL eG
 go_enter Tryz.func140, Tryz.ntmps140
 have hway : n = 34 ∨ n = 92 ∨ n = 10 ∨ n = 13 ∨ n = 9 ∨ (n < 32 ∧ n ≠ 10 ∧ n ≠ 13 ∧ n ≠ 9) ∨ 126 < n ∨ (32 ≤ n ∧ n ≤ 126 ∧ n ≠ 34 ∧ n ≠ 92) := by omega
 rcases hway with h1 | h1 | h1 | h1 | h1 | h1 | h1 | h1
 ·have q34 : ((n : Int) == 34) = true := beq_iff_eq.2 (by omega)
  have HT2 := hide (show signT c = [92, c] by rw [HT.out]; first | (simp [h1]; done) | (simp [h1, g1, g2, g3, g4, g5]; done))
  clear HT
  go_wp2_with fail
  refine (HWB.out l 92 _ _ HB.out rfl (by (try simp only [ List.length_append, List.length_cons, List.length_nil]); omega)).mono ?_
  rintro e w1 ⟨rfl, hq1⟩
  have HB1 := hide hq1.1
  have HO1 := hide hq1
  clear hq1
  obtain ⟨l1, hl1⟩ : ∃ l1, l1 = l ++ [92] := ⟨_, rfl⟩
  rw [← hl1] at HB1 HO1
  have HL1 := hide hl1
  clear hl1
  go_wp2_with fail
  refine (HWB.out l1 c _ _ HB1.out (by have := HN.out; omega) (by (try simp only [HL1.out,  List.length_append, List.length_cons, List.length_nil]); omega)).mono ?_
  rintro e w2 ⟨rfl, hq2⟩
  have HB2 := hide hq2.1
  have HO2 := hide (HO1.out.trans hq2)
  clear hq2
  obtain ⟨l2, hl2⟩ : ∃ l2, l2 = l1 ++ [c] := ⟨_, rfl⟩
  rw [← hl2] at HB2 HO2
  have HL2 := hide hl2
  clear hl2
  go_wp2_with fail
  go_end0
  refine ⟨rfl, ?_⟩
  rw [HT2.out]
  have e : l ++ [92, c] = l2 := by rw [HL2.out, HL1.out]; try simp
  rw [e]
  exact HO2.out
 ·have q34 : ((n : Int) == 34) = false := beq_eq_false_iff_ne.2 (by omega)
  have q92 : ((n : Int) == 92) = true := beq_iff_eq.2 (by omega)
  have HT2 := hide (show signT c = [92, c] by rw [HT.out]; first | (simp [h1]; done) | (simp [h1, g1, g2, g3, g4, g5]; done))
  clear HT
  go_wp2_with fail
  refine (HWB.out l 92 _ _ HB.out rfl (by (try simp only [ List.length_append, List.length_cons, List.length_nil]); omega)).mono ?_
  rintro e w1 ⟨rfl, hq1⟩
  have HB1 := hide hq1.1
  have HO1 := hide hq1
  clear hq1
  obtain ⟨l1, hl1⟩ : ∃ l1, l1 = l ++ [92] := ⟨_, rfl⟩
  rw [← hl1] at HB1 HO1
  have HL1 := hide hl1
  clear hl1
  go_wp2_with fail
  refine (HWB.out l1 c _ _ HB1.out (by have := HN.out; omega) (by (try simp only [HL1.out,  List.length_append, List.length_cons, List.length_nil]); omega)).mono ?_
  rintro e w2 ⟨rfl, hq2⟩
  have HB2 := hide hq2.1
  have HO2 := hide (HO1.out.trans hq2)
  clear hq2
  obtain ⟨l2, hl2⟩ : ∃ l2, l2 = l1 ++ [c] := ⟨_, rfl⟩
  rw [← hl2] at HB2 HO2
  have HL2 := hide hl2
  clear hl2
  go_wp2_with fail
  go_end0
  refine ⟨rfl, ?_⟩
  rw [HT2.out]
  have e : l ++ [92, c] = l2 := by rw [HL2.out, HL1.out]; try simp
  rw [e]
  exact HO2.out
 ·have q34 : ((n : Int) == 34) = false := beq_eq_false_iff_ne.2 (by omega)
  have q92 : ((n : Int) == 92) = false := beq_eq_false_iff_ne.2 (by omega)
  have q10 : ((n : Int) == 10) = true := beq_iff_eq.2 (by omega)
  have HT2 := hide (show signT c = [92, 110] by rw [HT.out]; first | (simp [h1]; done) | (simp [h1, g1, g2, g3, g4, g5]; done))
  clear HT
  go_wp2_with fail
  refine (HWS.out l [92, 110] _ _ HB.out rfl (by (try simp only [ List.length_append, List.length_cons, List.length_nil]); omega)).mono ?_
  rintro e w1 ⟨rfl, hq1⟩
  have HB1 := hide hq1.1
  have HO1 := hide hq1
  clear hq1
  obtain ⟨l1, hl1⟩ : ∃ l1, l1 = l ++ [92, 110] := ⟨_, rfl⟩
  rw [← hl1] at HB1 HO1
  have HL1 := hide hl1
  clear hl1
  go_wp2_with fail
  go_end0
  refine ⟨rfl, ?_⟩
  rw [HT2.out]
  have e : l ++ [92, 110] = l1 := by rw [HL1.out]; try simp
  rw [e]
  exact HO1.out
 ·have q34 : ((n : Int) == 34) = false := beq_eq_false_iff_ne.2 (by omega)
  have q92 : ((n : Int) == 92) = false := beq_eq_false_iff_ne.2 (by omega)
  have q10 : ((n : Int) == 10) = false := beq_eq_false_iff_ne.2 (by omega)
  have q13 : ((n : Int) == 13) = true := beq_iff_eq.2 (by omega)
  have HT2 := hide (show signT c = [92, 114] by rw [HT.out]; first | (simp [h1]; done) | (simp [h1, g1, g2, g3, g4, g5]; done))
  clear HT
  go_wp2_with fail
  refine (HWS.out l [92, 114] _ _ HB.out rfl (by (try simp only [ List.length_append, List.length_cons, List.length_nil]); omega)).mono ?_
  rintro e w1 ⟨rfl, hq1⟩
  have HB1 := hide hq1.1
  have HO1 := hide hq1
  clear hq1
  obtain ⟨l1, hl1⟩ : ∃ l1, l1 = l ++ [92, 114] := ⟨_, rfl⟩
  rw [← hl1] at HB1 HO1
  have HL1 := hide hl1
  clear hl1
  go_wp2_with fail
  go_end0
  refine ⟨rfl, ?_⟩
  rw [HT2.out]
  have e : l ++ [92, 114] = l1 := by rw [HL1.out]; try simp
  rw [e]
  exact HO1.out
 ·have q34 : ((n : Int) == 34) = false := beq_eq_false_iff_ne.2 (by omega)
  have q92 : ((n : Int) == 92) = false := beq_eq_false_iff_ne.2 (by omega)
  have q10 : ((n : Int) == 10) = false := beq_eq_false_iff_ne.2 (by omega)
  have q13 : ((n : Int) == 13) = false := beq_eq_false_iff_ne.2 (by omega)
  have q9 : ((n : Int) == 9) = true := beq_iff_eq.2 (by omega)
  have HT2 := hide (show signT c = [92, 116] by rw [HT.out]; first | (simp [h1]; done) | (simp [h1, g1, g2, g3, g4, g5]; done))
  clear HT
  go_wp2_with fail
  refine (HWS.out l [92, 116] _ _ HB.out rfl (by (try simp only [ List.length_append, List.length_cons, List.length_nil]); omega)).mono ?_
  rintro e w1 ⟨rfl, hq1⟩
  have HB1 := hide hq1.1
  have HO1 := hide hq1
  clear hq1
  obtain ⟨l1, hl1⟩ : ∃ l1, l1 = l ++ [92, 116] := ⟨_, rfl⟩
  rw [← hl1] at HB1 HO1
  have HL1 := hide hl1
  clear hl1
  go_wp2_with fail
  go_end0
  refine ⟨rfl, ?_⟩
  rw [HT2.out]
  have e : l ++ [92, 116] = l1 := by rw [HL1.out]; try simp
  rw [e]
  exact HO1.out
 ·have g1 : ¬ n = 10 := by omega
  have g2 : ¬ n = 13 := by omega
  have g3 : ¬ n = 9 := by omega
  have g6 : ¬ (n = 34 ∨ n = 92) := by omega
  have g7 : n < 32 ∨ 126 < n := by omega
  have q34 : ((n : Int) == 34) = false := beq_eq_false_iff_ne.2 (by omega)
  have q92 : ((n : Int) == 92) = false := beq_eq_false_iff_ne.2 (by omega)
  have q10 : ((n : Int) == 10) = false := beq_eq_false_iff_ne.2 (by omega)
  have q13 : ((n : Int) == 13) = false := beq_eq_false_iff_ne.2 (by omega)
  have q9 : ((n : Int) == 9) = false := beq_eq_false_iff_ne.2 (by omega)
  have q1 : decide ((n : Int) < 32) = true := by simp; omega
  have HT2 := hide (show signT c = [92, 120, hexD (n / 16), hexD (n % 16)] by rw [HT.out]; simp [h1, g1, g2, g3, g6, g7])
  clear HT
  go_wp2_with fail
  refine (HWS.out l [92, 120] _ _ HB.out rfl (by (try simp only [ List.length_append, List.length_cons, List.length_nil]); omega)).mono ?_
  rintro e w1 ⟨rfl, hq1⟩
  have HB1 := hide hq1.1
  have HO1 := hide hq1
  clear hq1
  obtain ⟨l1, hl1⟩ : ∃ l1, l1 = l ++ [92, 120] := ⟨_, rfl⟩
  rw [← hl1] at HB1 HO1
  have HL1 := hide hl1
  clear hl1
  go_wp2_with fail
  refine (HWB.out l1 (hexD (n / 16)) _ _ HB1.out (hex_nat _ _) (by (try simp only [HL1.out,  List.length_append, List.length_cons, List.length_nil]); omega)).mono ?_
  rintro e w2 ⟨rfl, hq2⟩
  have HB2 := hide hq2.1
  have HO2 := hide (HO1.out.trans hq2)
  clear hq2
  obtain ⟨l2, hl2⟩ : ∃ l2, l2 = l1 ++ [(hexD (n / 16))] := ⟨_, rfl⟩
  rw [← hl2] at HB2 HO2
  have HL2 := hide hl2
  clear hl2
  go_wp2_with fail
  refine (HWB.out l2 (hexD (n % 16)) _ _ HB2.out (hex_nat _ _) (by (try simp only [HL2.out, HL1.out,  List.length_append, List.length_cons, List.length_nil]); omega)).mono ?_
  rintro e w3 ⟨rfl, hq3⟩
  have HB3 := hide hq3.1
  have HO3 := hide (HO2.out.trans hq3)
  clear hq3
  obtain ⟨l3, hl3⟩ : ∃ l3, l3 = l2 ++ [(hexD (n % 16))] := ⟨_, rfl⟩
  rw [← hl3] at HB3 HO3
  have HL3 := hide hl3
  clear hl3
  go_wp2_with fail
  go_end0
  refine ⟨rfl, ?_⟩
  rw [HT2.out]
  have e : l ++ [92, 120, hexD (n / 16), hexD (n % 16)] = l3 := by rw [HL3.out, HL2.out, HL1.out]; try simp
  rw [e]
  exact HO3.out
 ·have g1 : ¬ n = 10 := by omega
  have g2 : ¬ n = 13 := by omega
  have g3 : ¬ n = 9 := by omega
  have g6 : ¬ (n = 34 ∨ n = 92) := by omega
  have g7 : n < 32 ∨ 126 < n := by omega
  have q34 : ((n : Int) == 34) = false := beq_eq_false_iff_ne.2 (by omega)
  have q92 : ((n : Int) == 92) = false := beq_eq_false_iff_ne.2 (by omega)
  have q10 : ((n : Int) == 10) = false := beq_eq_false_iff_ne.2 (by omega)
  have q13 : ((n : Int) == 13) = false := beq_eq_false_iff_ne.2 (by omega)
  have q9 : ((n : Int) == 9) = false := beq_eq_false_iff_ne.2 (by omega)
  have q1 : decide ((n : Int) < 32) = false := by simp; omega
  have q2 : decide ((126 : Int) < (n : Int)) = true := by simp; omega
  have HT2 := hide (show signT c = [92, 120, hexD (n / 16), hexD (n % 16)] by rw [HT.out]; simp [h1, g1, g2, g3, g6, g7])
  clear HT
  go_wp2_with fail
  refine (HWS.out l [92, 120] _ _ HB.out rfl (by (try simp only [ List.length_append, List.length_cons, List.length_nil]); omega)).mono ?_
  rintro e w1 ⟨rfl, hq1⟩
  have HB1 := hide hq1.1
  have HO1 := hide hq1
  clear hq1
  obtain ⟨l1, hl1⟩ : ∃ l1, l1 = l ++ [92, 120] := ⟨_, rfl⟩
  rw [← hl1] at HB1 HO1
  have HL1 := hide hl1
  clear hl1
  go_wp2_with fail
  refine (HWB.out l1 (hexD (n / 16)) _ _ HB1.out (hex_nat _ _) (by (try simp only [HL1.out,  List.length_append, List.length_cons, List.length_nil]); omega)).mono ?_
  rintro e w2 ⟨rfl, hq2⟩
  have HB2 := hide hq2.1
  have HO2 := hide (HO1.out.trans hq2)
  clear hq2
  obtain ⟨l2, hl2⟩ : ∃ l2, l2 = l1 ++ [(hexD (n / 16))] := ⟨_, rfl⟩
  rw [← hl2] at HB2 HO2
  have HL2 := hide hl2
  clear hl2
  go_wp2_with fail
  refine (HWB.out l2 (hexD (n % 16)) _ _ HB2.out (hex_nat _ _) (by (try simp only [HL2.out, HL1.out,  List.length_append, List.length_cons, List.length_nil]); omega)).mono ?_
  rintro e w3 ⟨rfl, hq3⟩
  have HB3 := hide hq3.1
  have HO3 := hide (HO2.out.trans hq3)
  clear hq3
  obtain ⟨l3, hl3⟩ : ∃ l3, l3 = l2 ++ [(hexD (n % 16))] := ⟨_, rfl⟩
  rw [← hl3] at HB3 HO3
  have HL3 := hide hl3
  clear hl3
  go_wp2_with fail
  go_end0
  refine ⟨rfl, ?_⟩
  rw [HT2.out]
  have e : l ++ [92, 120, hexD (n / 16), hexD (n % 16)] = l3 := by rw [HL3.out, HL2.out, HL1.out]; try simp
  rw [e]
  exact HO3.out
 ·have q34 : ((n : Int) == 34) = false := beq_eq_false_iff_ne.2 (by omega)
  have q92 : ((n : Int) == 92) = false := beq_eq_false_iff_ne.2 (by omega)
  have g1 : ¬ n = 10 := by omega
  have g2 : ¬ n = 13 := by omega
  have g3 : ¬ n = 9 := by omega
  have q10 : ((n : Int) == 10) = false := beq_eq_false_iff_ne.2 (by omega)
  have q13 : ((n : Int) == 13) = false := beq_eq_false_iff_ne.2 (by omega)
  have q9 : ((n : Int) == 9) = false := beq_eq_false_iff_ne.2 (by omega)
  have q1 : decide ((n : Int) < 32) = false := by simp; omega
  have q2 : decide ((126 : Int) < (n : Int)) = false := by simp; omega
  have g4 : ¬ n < 32 := by omega
  have g5 : ¬ 126 < n := by omega
  have HT2 := hide (show signT c = [c] by rw [HT.out]; first | (simp [h1]; done) | (simp [h1, g1, g2, g3, g4, g5]; done))
  clear HT
  go_wp2_with fail
  refine (HWB.out l c _ _ HB.out (by have := HN.out; omega) (by (try simp only [ List.length_append, List.length_cons, List.length_nil]); omega)).mono ?_
  rintro e w1 ⟨rfl, hq1⟩
  have HB1 := hide hq1.1
  have HO1 := hide hq1
  clear hq1
  obtain ⟨l1, hl1⟩ : ∃ l1, l1 = l ++ [c] := ⟨_, rfl⟩
  rw [← hl1] at HB1 HO1
  have HL1 := hide hl1
  clear hl1
  go_wp2_with fail
  go_end0
  refine ⟨rfl, ?_⟩
  rw [HT2.out]
  have e : l ++ [c] = l1 := by rw [HL1.out]; try simp
  rw [e]
  exact HO1.out
set_option maxRecDepth 100000 in
set_option maxHeartbeats 6400000 in
theorem Quote_c (s : ByteArray) (w : World) (hlen : 4 * s.size + 8 ≤ 140737488355328) :
 Calls Tryz.prog 105 #[.string s] w fun e w' => e = .returned (.string ⟨(quoteT s.data.toList).toArray⟩) ∧ Below w.heap.size w w' := by
 obtain ⟨W1, hW1⟩ : ∃ W1, W1 = w.alloc (.cells #[.pointer none, .slice none 0 0] 120) := ⟨_, rfl⟩
 obtain ⟨b, hb⟩ : ∃ b, b = w.heap.size := ⟨_, rfl⟩
 have HB1 := hide (show Below b w W1 by rw [hW1, hb]; exact below_alloc _ _)
 have HD1 := hide (show BlAt b b [] W1 by rw [hW1, hb]; exact BldAt.new)
 have HWB := hide (fun (l : List UInt8) (c : UInt8) (n : Int) (w : World) (h : BlAt b b l w) (hn : n = c.toNat) (hlen : l.length + 1 ≤ 140737488355328) => WB_c b b l c n w h hn hlen)
 have HSg := hide (fun (l : List UInt8) (c : UInt8) (w : World) (h : BlAt b b l w) (hlen : l.length + 4 ≤ 140737488355328) => sign_c' b b l c w h hlen)
 have HOut := hide (fun (l : List UInt8) (w : World) (h : BlAt b b l w) => Out_c b b l w h)
 obtain ⟨L, hL⟩ : ∃ L, L = s.data.toList := ⟨_, rfl⟩
 have hLn : L.length = s.size := by rw [hL]; simp
 have HSc := hide (signs_succ L)
 have HSl := hide (show ∀ k, k ≤ s.size → (signsT (L.take k)).length ≤ 4 * s.size from fun k hk => by have := signs_len (L.take k); rw [List.length_take] at this; omega)
 have HAt := hide (show ∀ k (h : k < s.size) (h2 : k < L.length), s[k]'h = L[k]'h2 from fun k h h2 => by subst hL; rfl)
 have HLn := hide hLn
 rw [← hb, ← hL]
 have HW := hide hW1
 have Hb := hide hb
 clear hW1 hb hL hLn
 go_enter Tryz.func105, Tryz.ntmps105
 go_upto_region 2 with fail
 rw [← HW.out, ← Hb.out]
 go_wp2_with fail
 refine (HWB.out [] 34 _ _ HD1.out rfl (by simp)).mono ?_
 rintro e w2 ⟨rfl, hq2⟩
 have HQ2 := hide (show Bo b b (34 :: signsT (L.take 0)) W1 w2 from hq2)
 clear hq2
 go_wp2_with fail
 go_loopw [8] (fun i wr => ∃ k : Nat, k ≤ s.size ∧ i = .int .i64 k ∧ Hid (Bo b b (34 :: signsT (L.take k)) W1 wr)) (fun i _ => s.size - (intOf i).toNat)
 case atStart => exact ⟨0, Nat.zero_le _, rfl, HQ2⟩
 case round =>
  clear HQ2
  obtain ⟨k, hk, rfl, HQ⟩ := hrel
  have hsl := HSl.out k hk
  have w0 : IntKind.i64.wrap ((k : Int) + 1) = (k : Int) + 1 := IntWalk.i64_in _ (by omega)
  by_cases hlt : k < s.size
  case neg =>
   obtain rfl : k = s.size := by omega
   have d1 : decide ((s.size : Int) < (s.size : Int)) = false := by simp
   have d2 : decide (s.size < s.size) = false := by simp
   have e0 : L.take s.size = L := by rw [← HLn.out, List.take_length]
   rw [e0] at HQ hsl
   go_wp2_with fail
   refine (HWB.out _ 34 _ _ HQ.out.1 rfl (by simp; omega)).mono ?_
   rintro e w3 ⟨rfl, hq3⟩
   have HQ3 := hide (HQ.out.trans hq3)
   clear hq3
   go_wp2_with fail
   refine (HOut.out _ _ HQ3.out.1).mono ?_
   rintro e w4 ⟨rfl, hb4, _⟩
   have HB4 := hide (HB1.out.trans (HQ3.out.2.1.trans hb4))
   clear hb4
   go_wp2_with fail
   go_ret
   exact ⟨rfl, HB4.out⟩
  case pos =>
   have d1 : decide ((k : Int) < (s.size : Int)) = true := by simp; exact hlt
   have d2 : decide (k < s.size) = true := by simp; exact hlt
   have j1 : (0 : Int) ≤ (k : Int) := by omega
   have j2 : (k : Int) < (s.size : Int) := by omega
   have HC := hide (HSc.out k (by rw [HLn.out]; exact hlt))
   have HA := hide (HAt.out k hlt (by rw [HLn.out]; exact hlt))
   go_wp2_with fail
   refine (HSg.out _ _ _ HQ.out.1 (by simp; omega)).mono ?_
   rintro e w3 ⟨rfl, hq3⟩
   have HQ3 := hide (HQ.out.trans hq3)
   clear hq3
   go_wp2_with fail
   go_roundw
   case rel => exact ⟨k + 1, by omega, by go_num, by rw [HC.out, ← HA.out]; exact HQ3⟩
   case measure => simp [intOf]; omega
theorem Bo.far {B b : Nat} {l : List UInt8} {w w1 w2 : World} (h : Bo B b l w w1) (k : Below w1.heap.size w1 w2) : Bo B b l w w2 := by
 refine ⟨BldAt.only h.1 (Only.of_below k NoBlk), h.2.1.trans (k.mono h.1.le), h.2.2.trans ?_⟩
 intro i x hi _ _
 have hlt : i < w1.heap.size := by
  rcases Nat.lt_or_ge i w1.heap.size with h | h
  ·exact h
  ·rw [Array.getElem?_eq_none h] at hi; cases hi
 rw [k.block i hlt]; exact hi
theorem Bo.drew {B b : Nat} {l : List UInt8} {w w1 : World} (h : Bo B b l w w1) : Bo B b l w w1.drew := ⟨BldAt.drew h.1, h.2.1.drew, h.2.2.drew⟩
theorem Bo.alloc {B b : Nat} {l : List UInt8} {w w1 : World} (h : Bo B b l w w1) (o : Obj) : Bo B b l w (w1.alloc o) := h.far ((Below.refl _ _).alloc (Nat.le_refl _) o)
theorem Bo.blk {B b g : Nat} {l l' : List UInt8} {w w1 w2 : World} {e : TypeId} {cs : Array Value} (h : Bo B b l w w1) (k : Bo B b l' w1 w2) (hx : Blk w1 g e cs) (h1 : e ≠ 5) (h2 : e ≠ 120) : Blk w2 g e cs := BldAt.side h.1 hx k.2.1 k.2.2 h1 h2
theorem tkT_eq (t : Int) : tickT t = tkT t := rfl
theorem word_len (k : Int) : (wordT k).length ≤ 6 := by
 unfold wordT
 repeat' split
 all_goals simp
theorem label_len {n : Int} (h : -9223372036854775808 ≤ n) (h2 : n ≤ 9223372036854775807) : (labelT n).length ≤ 22 := by
 have := itoa_nnT h h2
 unfold labelT
 simp; omega
theorem tk_len {t : Int} (h : t ≤ 9223372036854775807) : (tkT t).length ≤ 21 := tickT_len h
def InI (n : Int) : Prop := -9223372036854775808 ≤ n ∧ n ≤ 9223372036854775807
/-- an arm that may be written -/
def ArmW (a : ArmM) : Prop := a.pat.size ≤ 256 ∧ InI a.to
theorem arm_len {a : ArmM} (h : ArmW a) : (armT a).length ≤ 1060 := by
 have h1 := quote_len a.pat.data.toList
 have h2 := label_len h.2.1 h.2.2
 have h3 : a.pat.data.toList.length = a.pat.size := by simp
 have := h.1
 unfold armT lineT wordsT
 simp
 simp at h1
 omega
theorem line2_len (a b : List UInt8) : (lineT [a, b]).length = a.length + b.length + 2 := by unfold lineT wordsT; simp; omega
theorem armAt_mem {ar : List ArmM} {q : Nat} (h : q < ar.length) : armAt ar q ∈ ar := by
 have e : armAt ar q = ar[q] := by simp [armAt, List.getD, h]
 rw [e]; exact List.getElem_mem h
theorem arms_succ (ar : List ArmM) (q : Nat) (h : q < ar.length) : (ar.take (q + 1)).flatMap armT = (ar.take q).flatMap armT ++ armT (armAt ar q) := by
 have e : armAt ar q = ar[q] := by simp [armAt, List.getD, h]
 rw [List.take_succ_eq_append_getElem h, List.flatMap_append, e]
 simp
theorem arms_len (ar : List ArmM) (h : ∀ a ∈ ar, ArmW a) : ∀ q, q ≤ ar.length → ((ar.take q).flatMap armT).length ≤ 1060 * q
 | 0, _ => by simp
 | q + 1, hq => by
  have h1 := arms_len ar h q (by omega)
  have h2 := arm_len (h _ (armAt_mem (show q < ar.length by omega)))
  rw [arms_succ ar q (by omega), List.length_append]
  omega
/-- an op that may be written -/
structure OpW (o : OpM) : Prop where
 arms : o.arms.length ≤ 100
 arm : ∀ a ∈ o.arms, ArmW a
 text : o.text.size ≤ 100000
 n : InI o.n
 go : InI o.to
 onT : InI o.onT
 onE : InI o.onE
theorem op_len {o : OpM} (h : OpW o) : (opT o).length ≤ 1000000 := by
 have h1 := word_len o.kind
 have h2 := tk_len h.n.2
 have h3 := label_len h.go.1 h.go.2
 have h4 := label_len h.onT.1 h.onT.2
 have h5 := label_len h.onE.1 h.onE.2
 have h6 := quote_len o.text.data.toList
 have h7 : o.text.data.toList.length = o.text.size := by simp
 have h8 := arms_len o.arms h.arm o.arms.length (Nat.le_refl _)
 rw [List.take_length] at h8
 have := h.arms
 have := h.text
 unfold opT
 split
 ·unfold lineT wordsT; simp; simp at h6; omega
 split
 ·have e1 := line2_len [116, 105, 109, 101, 111, 117, 116] (labelT o.onT)
  have e2 := line2_len [101, 111, 102] (labelT o.onE)
  have e3 := line2_len (wordT o.kind) (tkT o.n)
  have f1 : (if 0 ≤ o.onT then lineT [[116, 105, 109, 101, 111, 117, 116], labelT o.onT] else []).length ≤ 31 := by split <;> (simp at e1 ⊢; try omega)
  have f2 : (if 0 ≤ o.onE then lineT [[101, 111, 102], labelT o.onE] else []).length ≤ 31 := by split <;> (simp at e2 ⊢; try omega)
  unfold expectT
  rw [List.length_append, List.length_append, List.length_append, e3]
  omega
 split
 ·unfold lineT wordsT; simp; omega
 split
 ·unfold lineT wordsT; simp; omega
 ·unfold lineT wordsT; simp; omega
end Go.Proofs.YtaioaojfdngfdaaGreatDoor
