/- Parts of a chain of lemmas: App, Cut, Few, Sort31, TxtA, ParM, DocP. Conditions: those of each theorem. -/
import Derived.Test.YtaioaojfdngfdaaGreatDoorNb01
import Derived.Maps.AppendAt
import Derived.Deep.AppendLies
import Derived.Deep.RegionLaw
import Derived.Test.YtaioaojfdngfdaaGreatDoorNb02
import Derived.Test.YtaioaojfdngfdaaGreatDoorNb03
import Derived.BigRegion
import Derived.RegionTactic
import Derived.BigQuiet
import Derived.Deep.QuietTactic
import Derived.Deep.RegionHeld3
import Derived.Deep.DeepCutAuto
import Derived.Deep.CutBlock
import Derived.Ground.NamesProg
import Derived.Ground.Names2Prog
import Derived.Shelf.Sort.Plain
import Derived.Shelf.Slices.CompactI
import Derived.Lib.SortBridge
import Derived.Lib.ItoaNum
import Derived.WalkSmall
set_option linter.unusedVariables false
set_option linter.unusedSimpArgs false
namespace Go.Proofs.YtaioaojfdngfdaaGreatDoor
open Go.RowKit
section
variable {P : Program} (w : World)
theorem run_append_of_nil (base : Nat) (t ty e : TypeId) (i : TypeInfo) (size : Nat) (ht : P.underlying t = some (.slice e)) (hi : P.info? e = some i)
 (v : Value) (n : Nat) (xs : List Value) (hown : w.ownsRow base e size v n xs) (c : Nat) : (Builtin.append_ #[t, t] ty #[v, .slice none 0 c]).run P w = .ok v w := by
 rcases hown.2 with ⟨rfl, rfl⟩ | ⟨g, cap, cur, rfl, _, _, hnc, _⟩
 ·simp [Builtin.append_, run_underlying ht, sizeOf, typeInfo, hi, Builtin.lenOf, Builtin.firstCells]
 ·simp [Builtin.append_, run_underlying ht, sizeOf, typeInfo, hi, Builtin.lenOf, Builtin.firstCells, hnc, storeCells]
theorem run_append_rd (base : Nat) (t ty e : TypeId) (i : TypeInfo) (z : Value) (size bytes : Nat) (ht : P.underlying t = some (.slice e)) (hi : P.info? e = some i) (hz : i.zero = some z)
 (hsize : i.size = size) (hby : i.bytes = bytes) (hzs : z.cells.size = size) (hsz : 0 < size)
 (v : Value) (n : Nat) (xs : List Value) (hown : w.ownsRow base e size v n xs)
 (M : Nat → Prop) (A : Option Addr) (m c : Nat) (news : List Value) (hr : Rd w M A news) (hl : news.length = m * size) (h1 : ∀ u ∈ news, u.oneCell' = true)
 (h63 : n + m ≤ maxLen) (hbytes : (n + m) * bytes ≤ 140737488355328) (hbase : base ≤ w.heap.size) :
 ∃ v' w', (Builtin.append_ #[t, t] ty #[v, .slice A m c]).run P w = .ok v' w' ∧ w'.ownsRow base e size v' (n + m) (xs ++ news) ∧ w.grownBy w' v.ownBlock ∧
  (v'.ownBlock = v.ownBlock ∨ v'.ownBlock = some w.heap.size) := by
 rcases hr with hn | ⟨b, o, hA, _, _, hc⟩
 ·subst hn
  have hm : m = 0 := by
   rcases Nat.eq_zero_or_pos m with h0 | h0
   ·exact h0
   ·have := Nat.mul_pos h0 hsz
    simp at hl; omega
  subst hm
  cases A with
  | none => exact ⟨v, w, run_append_of_nil w base t ty e i size ht hi v n xs hown c, by simpa using hown, World.grownBy.refl w _, .inl rfl⟩
  | some ad =>
   obtain ⟨v', w', hrun, h2, h3, _, h5⟩ := run_append_own_at (P := P) w base t ty e i z size bytes ht hi hz hsize hby hzs hsz v n xs hown ad 0 c [] (by simp) (by simp) (by simp) h63 hbytes hbase
   exact ⟨v', w', hrun, h2, h3, h5⟩
 ·subst hA
  have hcells : ∀ j u, news[j]? = some u → w.cell? ((⟨b, o, none⟩ : Addr).add j) = some u := by
   intro j u hu
   rw [Addr.add_lit, ← hu]
   exact hc j (List.getElem?_eq_some_iff.1 hu).1
  obtain ⟨v', w', hrun, h2, h3, _, h5⟩ := run_append_own_at (P := P) w base t ty e i z size bytes ht hi hz hsize hby hzs hsz v n xs hown ⟨b, o, none⟩ m c news hl hcells h1 h63 hbytes hbase
  exact ⟨v', w', hrun, h2, h3, h5⟩
theorem wp_append_rd {o : Oper} {a : Act} {K : Act → World → Prop} {Q : Exit → Act → World → Prop} (s x : Operand) (t : TypeId)
 (ho : o.op = .call { callee := .builtin .append, args := #[s, x], argTypes := #[t, t] })
 (base : Nat) (e : TypeId) (i : TypeInfo) (z : Value) (size bytes : Nat) (ht : P.underlying t = some (.slice e)) (hi : P.info? e = some i) (hz : i.zero = some z)
 (hsize : i.size = size) (hby : i.bytes = bytes) (hzs : z.cells.size = size) (hsz : 0 < size)
 (v : Value) (n : Nat) (xs : List Value) (hs : a.eval s = v) (hown : w.ownsRow base e size v n xs)
 (M : Nat → Prop) (A : Option Addr) (m c : Nat) (news : List Value) (hx : a.eval x = .slice A m c) (hr : Rd w M A news) (hl : news.length = m * size) (h1 : ∀ u ∈ news, u.oneCell' = true)
 (h63 : n + m ≤ maxLen) (hbytes : (n + m) * bytes ≤ 140737488355328) (hbase : base ≤ w.heap.size)
 (h : ∀ v' w', w'.ownsRow base e size v' (n + m) (xs ++ news) → w.grownBy w' v.ownBlock → (v'.ownBlock = v.ownBlock ∨ v'.ownBlock = some w.heap.size) → K (a.put o.dst v') w') : o.wp P a w K Q := by
 obtain ⟨v', w', hrun, h2, h3, h4⟩ := run_append_rd (P := P) w base t o.type e i z size bytes ht hi hz hsize hby hzs hsz v n xs hown M A m c news hr hl h1 h63 hbytes hbase
 unfold Oper.wp execOp
 simp only [ho, resolve, invoke, builtin, Sem.run_bind, Sem.run_pure, Result.andThen_ok, List.map_toArray, List.map_cons, List.map_nil, hs, hx, hrun]
 exact h v' w' h2 h3 h4
theorem wpList_append_rd {ops : Array Oper} {rest : List Oper} {o : Oper} {a : Act} {Q : Exit → Act → World → Prop} (hgd : o.guard = none) (s x : Operand) (t : TypeId)
 (ho : o.op = .call { callee := .builtin .append, args := #[s, x], argTypes := #[t, t] })
 (base : Nat) (e : TypeId) (i : TypeInfo) (z : Value) (size bytes : Nat) (ht : P.underlying t = some (.slice e)) (hi : P.info? e = some i) (hz : i.zero = some z)
 (hsize : i.size = size) (hby : i.bytes = bytes) (hzs : z.cells.size = size) (hsz : 0 < size)
 (v : Value) (n : Nat) (xs : List Value) (hs : a.eval s = v) (hown : w.ownsRow base e size v n xs)
 (M : Nat → Prop) (A : Option Addr) (m c : Nat) (news : List Value) (hx : a.eval x = .slice A m c) (hr : Rd w M A news) (hl : news.length = m * size) (h1 : ∀ u ∈ news, u.oneCell' = true)
 (h63 : n + m ≤ maxLen) (hbytes : (n + m) * bytes ≤ 140737488355328) (hbase : base ≤ w.heap.size)
 (h : ∀ v' w', w'.ownsRow base e size v' (n + m) (xs ++ news) → w.grownBy w' v.ownBlock → (v'.ownBlock = v.ownBlock ∨ v'.ownBlock = some w.heap.size) → wpList P ops Q rest (a.put o.dst v') w') : wpList P ops Q (o :: rest) a w :=
 wpList_plain hgd fun _ hK => wp_append_rd w s x t ho base e i z size bytes ht hi hz hsize hby hzs hsz v n xs hs hown M A m c news hx hr hl h1 h63 hbytes hbase fun v' w' h2 h3 h4 => hK _ _ (h v' w' h2 h3 h4)
theorem step_append_rd {ops : Array Oper} {o : Oper} {a : Act} {K : Act → World → Prop} {Q : Exit → Act → World → Prop} {E : Prop} (hgd : o.guard = none) (s x : Operand) (t : TypeId)
 (ho : o.op = .call { callee := .builtin .append, args := #[s, x], argTypes := #[t, t] })
 (base : Nat) (e : TypeId) (i : TypeInfo) (z : Value) (size bytes : Nat) (ht : P.underlying t = some (.slice e)) (hi : P.info? e = some i) (hz : i.zero = some z)
 (hsize : i.size = size) (hby : i.bytes = bytes) (hzs : z.cells.size = size) (hsz : 0 < size)
 (v : Value) (n : Nat) (xs : List Value) (hs : a.eval s = v) (hown : w.ownsRow base e size v n xs)
 (M : Nat → Prop) (A : Option Addr) (m c : Nat) (news : List Value) (hx : a.eval x = .slice A m c) (hr : Rd w M A news) (hl : news.length = m * size) (h1 : ∀ u ∈ news, u.oneCell' = true)
 (h63 : n + m ≤ maxLen) (hbytes : (n + m) * bytes ≤ 140737488355328) (hbase : base ≤ w.heap.size)
 (h : ∀ v' w', w'.ownsRow base e size v' (n + m) (xs ++ news) → w.grownBy w' v.ownBlock → (v'.ownBlock = v.ownBlock ∨ v'.ownBlock = some w.heap.size) → K (a.put o.dst v') w') :
 if Region.wanted o (yielded ops a.tmps) = true then Oper.wp P o a w K Q else E := by
 have hw : Region.wanted o (yielded ops a.tmps) = true := by simp [Region.wanted, hgd]
 rw [if_pos hw]
 exact wp_append_rd w s x t ho base e i z size bytes ht hi hz hsize hby hzs hsz v n xs hs hown M A m c news hx hr hl h1 h63 hbytes hbase h
end
theorem own_empty {w : World} {base : Nat} {e : TypeId} {size : Nat} (h : base ≤ w.heap.size) : (w.alloc (.cells #[] e)).ownsRow base e size (.slice (some ⟨w.heap.size, 0, none⟩) 0 0) 0 [] :=
 ⟨by simp, Or.inr ⟨w.heap.size, 0, #[], rfl, h, heap_alloc_new _ _, Nat.le_refl _, by unfold maxLen; omega, by simp, by simp⟩⟩
theorem own_empty' {w : World} {base g : Nat} {e : TypeId} {size : Nat} (h : base ≤ w.heap.size) (hg : g = w.heap.size) : (w.alloc (.cells #[] e)).ownsRow base e size (.slice (some ⟨g, 0, none⟩) 0 0) 0 [] := by
 subst hg; exact own_empty h
theorem Rd.alloc {w : World} {M : Nat → Prop} {A : Option Addr} {xs : List Value} (h : Rd w M A xs) (o : Obj) : Rd (w.alloc o) M A xs := h.only ((Only.refl NoBlk _).alloc o) (fun _ h => h.elim)
/-- a block reads as its cells -/
theorem rd_blkN {w : World} {M : Nat → Prop} {g : Nat} {t : TypeId} {xs : List Value} (h : Blk w g t xs.toArray) (hm : ¬ M g) : Rd w M (some ⟨g, 0, none⟩) xs :=
 Or.inr ⟨g, 0, rfl, hm, h.lt, fun j hj => by
  rw [h.cell, List.getElem?_toArray, Nat.zero_add]⟩
theorem own_cap {w : World} {base size n : Nat} {e : TypeId} {v : Value} {xs : List Value} (h : w.ownsRow base e size v n xs) : ∃ A c, v = .slice A n c ∧ n ≤ c := by
 rcases h.2 with ⟨hv, hn⟩ | ⟨g, cap, cur, hv, _, _, hnc, _⟩
 ·exact ⟨none, 0, by rw [hv, hn], by omega⟩
 ·exact ⟨_, cap, hv, hnc⟩
theorem below_drewN (w : World) (n : Nat) : Below w.heap.size w (w.drewN n) := ⟨rfl, rfl, rfl, Nat.le_refl _, fun _ _ => rfl⟩
theorem below_drew (w : World) : Below w.heap.size w w.drew := ⟨rfl, rfl, rfl, Nat.le_refl _, fun _ _ => rfl⟩
theorem below_alloc (w : World) (o : Obj) : Below w.heap.size w (w.alloc o) := (Below.refl _ _).alloc (Nat.le_refl _) _
def cutS (s : ByteArray) (most : Nat) : ByteArray := if most < s.size then s.extract 0 most else s
theorem cutS_size (s : ByteArray) (most : Nat) : (cutS s most).size = min s.size most := by
 unfold cutS
 split
 ·rw [ba_sub_size s 0 most (by omega) (by omega)]; omega
 ·omega
theorem cutS_c (s : ByteArray) (most : Nat) (w : World) (hm : most ≤ 100000) :
 Calls Tryz.prog 12 #[.string s, .int .i64 most] w fun e w' => e = .returned (.string (cutS s most)) ∧ w = w' := by
 unfold cutS
 by_cases h : most < s.size
 ·rw [if_pos h]
  have hle : most ≤ s.size := by omega
  go_enter Tryz.func12, Tryz.ntmps12
  go_wp2
  go_ret
  exact ⟨rfl, rfl⟩
 ·rw [if_neg h]
  have hd : decide ((most : Int) < s.size) = false := by simp; omega
  have hd2 : decide (most < s.size) = false := by simp; omega
  go_enter Tryz.func12, Tryz.ntmps12
  go_wp2
  go_ret
  exact ⟨rfl, rfl⟩
/-- events that are returned -/
def RetEvs (M : Nat → Prop) (L : List Ev) (w : World) (e : Ending) (w' : World) : Prop :=
 ∃ A c, e = .returned (.slice A L.length c) ∧ Rd w' M A (flat encEv L) ∧ Below w.heap.size w w' ∧ L.length ≤ c
theorem encEv_one (x : Ev) : ∀ u ∈ encEv x, u.oneCell' = true := by
 intro u hu
 simp [encEv] at hu
 rcases hu with rfl | rfl | rfl | rfl | rfl | rfl | rfl | rfl | rfl | rfl | rfl | rfl <;> rfl
def fewL (l : List Ev) (m : Nat) : List Ev := (l.take m).map fun x => { x with s := cutS x.s 24 }
section
variable {w : World} {M : Nat → Prop} {A : Option Addr} {l : List Ev}
theorem ev_cells (hr : Rd w M A (flat encEv l)) (k : Nat) (hk : k < l.length) : ∃ b o, A = some ⟨b, o, none⟩ ∧ ¬ M b ∧ b < w.heap.size ∧
 w.cell? ⟨b, o + k * 12, none⟩ = some (.int .i64 (evAt l k).k) ∧ w.cell? ⟨b, o + k * 12 + 1, none⟩ = some (.int .i64 (evAt l k).id) ∧ w.cell? ⟨b, o + k * 12 + 2, none⟩ = some (.int .i64 (evAt l k).n) ∧ w.cell? ⟨b, o + k * 12 + 3, none⟩ = some (.int .i64 (evAt l k).tick) ∧
 w.cell? ⟨b, o + k * 12 + 4, none⟩ = some (.string (evAt l k).s) ∧ w.cell? ⟨b, o + k * 12 + 5, none⟩ = some (.int .i64 (evAt l k).err) ∧ w.cell? ⟨b, o + k * 12 + 6, none⟩ = some (.int .i64 (evAt l k).st.tick) ∧ w.cell? ⟨b, o + k * 12 + 7, none⟩ = some (.int .i64 (evAt l k).st.at_) ∧
 w.cell? ⟨b, o + k * 12 + 8, none⟩ = some (.int .i64 (evAt l k).st.what) ∧ w.cell? ⟨b, o + k * 12 + 9, none⟩ = some (.int .i64 (evAt l k).st.arm) ∧ w.cell? ⟨b, o + k * 12 + 10, none⟩ = some (.int .i64 (evAt l k).st.n) ∧ w.cell? ⟨b, o + k * 12 + 11, none⟩ = some (.int .i64 (evAt l k).st.status) := by
 obtain ⟨b, o, hA, hm, hb, hc⟩ := flat_cells encEv_len hr k _ (evAt_some hk) (by omega)
 exact ⟨b, o, hA, hm, hb, hc 0 (by omega), hc 1 (by omega), hc 2 (by omega), hc 3 (by omega), hc 4 (by omega), hc 5 (by omega), hc 6 (by omega), hc 7 (by omega), hc 8 (by omega), hc 9 (by omega), hc 10 (by omega), hc 11 (by omega)⟩
end
theorem bkeepL {B : Nat} {w0 w1 : World} {b o : Nat} {v : Value} (h : Below B w0 w1) (hb : b < B) (hc : w0.cell? ⟨b, o, none⟩ = some v) : w1.cell? ⟨b, o, none⟩ = some v :=
 (h.cell (p := ⟨b, o, none⟩) hb).trans hc
/-- the twelve values of an event -/
def evV (x : Ev) : Array Value := #[.int .i64 x.k, .int .i64 x.id, .int .i64 x.n, .int .i64 x.tick, .string x.s, .int .i64 x.err, .int .i64 x.st.tick, .int .i64 x.st.at_, .int .i64 x.st.what, .int .i64 x.st.arm, .int .i64 x.st.n, .int .i64 x.st.status]
theorem fewL_succ (l : List Ev) (k : Nat) (h : k < l.length) : fewL l (k + 1) = fewL l k ++ [{ evAt l k with s := cutS (evAt l k).s 24 }] := by
 unfold fewL
 rw [List.take_succ_eq_append_getElem h, List.map_append]
 have e : evAt l k = l[k] := by simp [evAt, List.getD, h]
 rw [e]; rfl
theorem fewL_len (l : List Ev) (k : Nat) (h : k ≤ l.length) : (fewL l k).length = k := by
 unfold fewL
 rw [List.length_map, List.length_take]; omega
/-- the first who was opened under a number: its place -/
def idxO (id : Int) (l : List Ev) : Int := if l.any (opens id) then (l.findIdx (opens id) : Int) else -1
theorem idxO_at (id : Int) (l : List Ev) (k : Nat) (hk : k < l.length) (h : ∀ y ∈ l.take k, opens id y = false) (hx : opens id (evAt l k) = true) : idxO id l = k := by
 have e : evAt l k = l[k] := by simp [evAt, List.getD, hk]
 rw [e] at hx
 unfold idxO
 have ha : l.any (opens id) = true := List.any_eq_true.2 ⟨l[k], List.getElem_mem hk, hx⟩
 rw [if_pos ha]
 have : l.findIdx (opens id) = k := by
  rw [List.findIdx_eq hk]
  refine ⟨hx, fun j hj => ?_⟩
  exact h _ (by rw [List.mem_take_iff_getElem]; exact ⟨j, by omega, rfl⟩)
 rw [this]
theorem idxO_none (id : Int) (l : List Ev) (h : ∀ y ∈ l, opens id y = false) : idxO id l = -1 := by
 unfold idxO
 have ha : ¬ l.any (opens id) = true := by
  rw [List.any_eq_true]
  rintro ⟨x, hx, ho⟩
  rw [h x hx] at ho
  cases ho
 rw [if_neg ha]
end Go.Proofs.YtaioaojfdngfdaaGreatDoor
namespace Go.Proofs.YtaioaojfdngfdaaGreatDoor
open Go.RowKit Go.Shelf Go.Sort
theorem sortI_c (blk off cap : Nat) (zs : List Int) (w : World) (hH : Holds (Value.int .i64) w blk off zs.toArray) (hblk : blk < w.heap.size) (hsz : zs.length < 4611686018427387904) :
 Calls Tryz.prog 101 #[.slice (some ⟨blk, off, none⟩) zs.length cap] w fun e w' =>
  e = .returned (.tuple #[]) ∧ ∃ n os, w' = grow (putRow (Value.int .i64) (Sort.ahead w n) blk off (zs.mergeSort fun x y => decide (x ≤ y)).toArray) os :=
 Any.slices_Sort_int Tryz.laysSort blk off cap zs w hH hblk hsz
theorem compactI_c (blk off cap : Nat) (zs : List Int) (w : World) (hH : Holds (Value.int .i64) w blk off zs.toArray) (hsz : zs.length ≤ 9223372036854775807) (hcap : zs.length ≤ cap) :
 Calls Tryz.prog 102 #[.slice (some ⟨blk, off, none⟩) zs.length cap] w fun e w' => e = .returned (.slice (some ⟨blk, off, none⟩) (Lib.compact zs).length cap) ∧ ∃ q, w' = putRow (Value.int .i64) (Sort.ahead w q) blk off (Lib.compact zs ++ List.replicate (zs.length - (Lib.compact zs).length) 0).toArray :=
 Any.slices_Compact_int Tryz.laysCompact blk off cap zs w hH hsz hcap
theorem below_putRow {B g off : Nat} {w0 w : World} (h : Below B w0 w) (hg : B ≤ g) (d : Array Int) : Below B w0 (putRow (Value.int .i64) w g off d) := by
 refine ⟨h.os, h.tape, h.output, by simpa using h.size, fun i hi => ?_⟩
 have e : (putRow (Value.int .i64) w g off d).heap[i]? = w.heap[i]? := by
  simp only [putRow, mapBlock, Array.getElem?_modify]
  rw [if_neg (by omega)]
 rw [e]; exact h.block i hi
theorem below_ahead {B : Nat} {w0 w : World} (h : Below B w0 w) (n : Nat) : Below B w0 (Sort.ahead w n) := ⟨h.os, h.tape, h.output, h.size, h.block⟩
theorem below_grow {B : Nat} {w0 w : World} (h : Below B w0 w) (hB : B ≤ w.heap.size) (os : Array Obj) : Below B w0 (grow w os) := by
 refine ⟨h.os, h.tape, h.output, ?_, fun i hi => ?_⟩
 ·have := h.size; simp [grow]; omega
 ·rw [heap_grow_old w os (by omega)]; exact h.block i hi
end Go.Proofs.YtaioaojfdngfdaaGreatDoor
namespace Go.Proofs.YtaioaojfdngfdaaGreatDoor
open Go.RowKit
/-- the bytes of a text -/
abbrev bs (l : List UInt8) : ByteArray := ⟨l.toArray⟩
theorem bs_append (a b : List UInt8) : bs a ++ bs b = bs (a ++ b) := by
 apply ByteArray.ext
 simp [ByteArray.data_append]
theorem bs_size (a : List UInt8) : (bs a).size = a.length := by simp [ByteArray.size]
/-- the byte of a digit -/
def digB (d : Nat) : UInt8 := UInt8.ofNat (48 + d)
theorem digit_fin : ∀ d : Fin 10, ((⟨#[48, 49, 50, 51, 52, 53, 54, 55, 56, 57]⟩ : ByteArray).extract d.val (d.val + 1)) = bs [digB d.val] := by decide
theorem dec_one {u : Nat} (h : u < 10) : Lib.decDigits u = [digB u] := Lib.decDigits_one h
theorem digit_at {d : Nat} (h : d < 10) : ((⟨#[48, 49, 50, 51, 52, 53, 54, 55, 56, 57]⟩ : ByteArray).extract d (d + 1)) = bs [digB d] := digit_fin ⟨d, h⟩
theorem dec_len_go : ∀ (k u : Nat), u < 10 ^ (k + 1) → (Lib.decDigits u).length ≤ k + 1
 | 0, u, h => by rw [Lib.decDigits_one (by simpa using h)]; simp
 | k + 1, u, h => by
  by_cases h9 : u < 10
  ·rw [Lib.decDigits_one h9]; simp
  ·rw [Lib.decDigits, dif_neg h9, List.length_append]
   have := dec_len_go k (u / 10) (by rw [Nat.pow_succ] at h; omega)
   simp; omega
theorem dec_len {u : Nat} (h : u ≤ 18446744073709551616) : (Lib.decDigits u).length ≤ 20 := dec_len_go 19 u (by omega)
theorem dec_big {u : Nat} (h : ¬ u < 10) : Lib.decDigits u = Lib.decDigits (u / 10) ++ [digB (u % 10)] := by rw [Lib.decDigits, dif_neg h]; rfl
set_option maxRecDepth 100000 in
set_option maxHeartbeats 1600000 in
theorem Digits_c (N : Nat) (w : World) (hN : N ≤ 9223372036854775807) : Calls Tryz.prog 56 #[.int .i64 N] w fun e w' => e = .returned (.string (bs (Lib.decDigits N))) ∧ w' = w := by
 have hlen := dec_len (u := N) (by omega)
 have Hlen := hide hlen
 clear hlen
 go_enter Tryz.func56, Tryz.ntmps56
 go_wp2_with fail
 go_loopw [0, 3] (fun n v wr => ∃ (m : Nat) (s : List UInt8), n = .int .i64 m ∧ v = .string (bs s) ∧ m ≤ N ∧ Hid (Lib.decDigits N = Lib.decDigits m ++ s) ∧ wr = w) (fun n _ _ => (intOf n).toNat)
 case atStart => exact ⟨N, [], rfl, rfl, Nat.le_refl _, hide (by simp), rfl⟩
 case round =>
  obtain ⟨m, s, rfl, rfl, hm, hd, rfl⟩ := hrel
  have hsl : s.length ≤ 20 := by
   have h1 := Hlen.out
   rw [hd.out, List.length_append] at h1
   omega
  by_cases h9 : 9 < m
  ·have d1 : decide ((9 : Int) < (m : Int)) = true := by simp; omega
   have d2 : decide (9 < m) = true := by simp; omega
   have t1 : Int.tmod (m : Int) 10 = ((m % 10 : Nat) : Int) := by rw [Int.tmod_eq_emod_of_nonneg (by omega)]; omega
   have t2 : Int.tdiv (m : Int) 10 = ((m / 10 : Nat) : Int) := by rw [Int.tdiv_eq_ediv_of_nonneg (by omega)]; omega
   have HN := hide (show Lib.decDigits N = Lib.decDigits (m / 10) ++ ([digB (m % 10)] ++ s) by rw [hd.out, dec_big (by omega), List.append_assoc])
   obtain ⟨d, hdd⟩ : ∃ d, d = m % 10 := ⟨_, rfl⟩
   obtain ⟨q, hq⟩ : ∃ q, q = m / 10 := ⟨_, rfl⟩
   have hd10 : d < 10 := by omega
   have hqm : q < m := by omega
   rw [← hdd] at t1 HN
   rw [← hq] at t2 HN
   clear hdd hq hd
   have hx := digit_at hd10
   have w1 : IntKind.i64.wrap ((d : Int) + 1) = (d : Int) + 1 := IntWalk.i64_in _ (by omega)
   have w2 : ((d : Int) + 1).toNat = d + 1 := by omega
   have w3 : IntKind.i64.wrap (d : Int) = (d : Int) := IntWalk.i64_in _ (by omega)
   have w4 : IntKind.i64.wrap (q : Int) = (q : Int) := IntWalk.i64_in _ (by omega)
   have w5 : IntKind.i64.wrap (m : Int) = (m : Int) := IntWalk.i64_in _ (by omega)
   have hsz : (bs [digB d]).size + (bs s).size ≤ 9223372036854775807 := by rw [bs_size, bs_size]; simp; omega
   go_wp2_with fail
   go_roundw
   case rel => exact ⟨q, [digB d] ++ s, by go_num, by rw [bs_append], by omega, HN, by first | trivial | rfl⟩
   case measure => simp [intOf]; omega
  ·have d1 : decide ((9 : Int) < (m : Int)) = false := by simp; omega
   have d2 : decide (9 < m) = false := by simp; omega
   have HN := hide (show bs [digB m] ++ bs s = bs (Lib.decDigits N) by rw [bs_append, hd.out, Lib.decDigits_one (by omega)]; rfl)
   have hx := digit_at (d := m) (by omega)
   have w1 : IntKind.i64.wrap ((m : Int) + 1) = (m : Int) + 1 := IntWalk.i64_in _ (by omega)
   have w2 : ((m : Int) + 1).toNat = m + 1 := by omega
   have hsz : (bs [digB m]).size + (bs s).size ≤ 9223372036854775807 := by rw [bs_size, bs_size]; simp; omega
   clear hd
   go_wp2_with fail
   go_ret
   exact ⟨by rw [← HN.out]; rfl, rfl⟩
end Go.Proofs.YtaioaojfdngfdaaGreatDoor
namespace Go.Proofs.YtaioaojfdngfdaaGreatDoor
open Go.RowKit
/-- the digits of a number; none of 0 -/
def highD (u : Nat) : List UInt8 := if u = 0 then [] else Lib.decDigits u
theorem high_dec (u : Nat) : highD (u / 10) ++ [digB (u % 10)] = Lib.decDigits u := by
 unfold highD
 by_cases h : u < 10
 ·have e : u / 10 = 0 := by omega
  rw [if_pos e, dec_one h, show u % 10 = u by omega]; rfl
 ·rw [if_neg (by omega), dec_big h]
theorem high_len {u : Nat} (h : u ≤ 18446744073709551616) : (highD u).length ≤ 20 := by
 unfold highD
 split
 ·simp
 ·exact dec_len h
theorem itoa_len {n : Int} (h : -9223372036854775808 ≤ n) (h2 : n ≤ 9223372036854775807) : (Lib.itoa n).length ≤ 21 := by
 unfold Lib.itoa
 split
 ·have := dec_len (u := n.natAbs) (by omega)
  simp; omega
 ·have := dec_len (u := n.toNat) (by omega)
  omega
end Go.Proofs.YtaioaojfdngfdaaGreatDoor
namespace Go.Proofs.YtaioaojfdngfdaaGreatDoor
open Go.RowKit
def ownT (t : Int) : Int := if t < 0 then 0 else t
theorem ownT_nn (t : Int) : 0 ≤ ownT t := by unfold ownT; split <;> omega
theorem ownT_le {t : Int} (h : t ≤ 9223372036854775807) : ownT t ≤ 9223372036854775807 := by unfold ownT; split <;> omega
theorem own_c (t : Int) (w : World) : Calls Tryz.prog 97 #[.int .i64 t] w fun e w' => e = .returned (.int .i64 (ownT t)) ∧ w' = w := by
 unfold ownT
 by_cases h : t < 0
 ·have hd : decide (t < 0) = true := by simpa using h
  have hm : max t 0 = 0 := by omega
  rw [if_pos h]
  go_enter Tryz.func97, Tryz.ntmps97
  go_wp2_with fail
  go_ret
  exact ⟨rfl, rfl⟩
 ·have hd : decide (t < 0) = false := by simpa using h
  have hm : max t 0 = t := by omega
  rw [if_neg h]
  go_enter Tryz.func97, Tryz.ntmps97
  go_wp2_with fail
  go_ret
  exact ⟨rfl, rfl⟩
end Go.Proofs.YtaioaojfdngfdaaGreatDoor
namespace Go.Proofs.YtaioaojfdngfdaaGreatDoor
open Go.RowKit Go.Sort
/-- the library's table of powers stands as the program's text lays it -/
def Tab (w : World) : Prop := Lib.TabIs Tryz.prog w "internal/strconv.uint64pow10" .u64 Lib.pow10Tab
theorem Tab.below {w w' : World} (h : Tab w) (hb : Below w.heap.size w w') : Tab w' := by
 unfold Tab Lib.TabIs World.var? at *
 cases hg : Tryz.prog.globalNamed "internal/strconv.uint64pow10" with
 | none => rw [hg] at h; simp at h
 | some g =>
  rw [hg] at h
  simp only [Option.bind_some] at h ⊢
  have hlt : g < w.heap.size := by
   rcases Nat.lt_or_ge g w.heap.size with hl | hl
   ·exact hl
   ·rw [Array.getElem?_eq_none hl] at h; cases h
  rw [hb.block g hlt]
  exact h
theorem Tab.drewN {w : World} (h : Tab w) (n : Nat) : Tab (w.drewN n) := h
theorem Tab.drew {w : World} (h : Tab w) : Tab w.drew := h
theorem below_lib (w : World) (k : Nat) (os : Array Obj) : Below w.heap.size w (grow (w.drewN k) os) := below_grow (below_drewN w k) (Nat.le_refl _) os
theorem Itoa_c (n : Int) (w : World) (h0 : -9223372036854775808 ≤ n) (h1 : n ≤ 9223372036854775807) (ht : Tab w) : Calls Tryz.prog 54 #[.int .i64 n] w fun e w' => e = .returned (.string (bs (Lib.itoa n))) ∧ Below w.heap.size w w' := by
 refine (Tryz.strconv_Itoa n h0 h1 w ht).mono ?_
 rintro e w1 ⟨rfl, k, os, rfl⟩
 exact ⟨rfl, below_lib _ _ _⟩
/-- a tick's text -/
def tickT (t : Int) : List UInt8 := if t = 9223372036854775807 then [110, 101, 118, 101, 114] else Lib.itoa (ownT t)
theorem tickT_len {t : Int} (h : t ≤ 9223372036854775807) : (tickT t).length ≤ 21 := by
 unfold tickT
 split
 ·simp
 ·exact itoa_len (by have := ownT_nn t; omega) (ownT_le h)
theorem itoa_nn {n : Int} (h : 0 ≤ n) : Lib.itoa n = Lib.decDigits n.toNat := by unfold Lib.itoa; rw [if_neg (by omega)]
set_option maxHeartbeats 1600000 in
theorem Text_c (t : Int) (w : World) (h1 : t ≤ 9223372036854775807) (ht : Tab w) : Calls Tryz.prog 61 #[.int .i64 t] w fun e w' => e = .returned (.string (bs (tickT t))) ∧ Below w.heap.size w w' := by
 by_cases h : t = 9223372036854775807
 ·have e1 : (t == 9223372036854775807) = true := by simpa using h
  have HN := hide (show tickT t = [110, 101, 118, 101, 114] by unfold tickT; rw [if_pos h])
  clear h
  go_enter Tryz.func61, Tryz.ntmps61
  go_wp2_with fail
  go_ret
  exact ⟨by rw [HN.out]; rfl, Below.refl _ _⟩
 ·have e1 : (t == 9223372036854775807) = false := by simpa using h
  have HO := hide (own_c t w)
  have h2 := ownT_nn t; have h3 := ownT_le h1
  have HN := hide (show bs (Lib.itoa (ownT t)) = bs (tickT t) by unfold tickT; rw [if_neg h])
  have HD := hide (Tryz.strconv_FormatInt_10 (ownT t) (by omega) h3 w ht)
  obtain ⟨U, hU⟩ : ∃ U, U = ownT t := ⟨_, rfl⟩
  rw [← hU] at HO HD HN
  clear h hU h2 h3
  go_enter Tryz.func61, Tryz.ntmps61
  go_wp2_with fail
  refine HO.out.mono ?_
  rintro e w1 ⟨rfl, rfl⟩
  go_wp2_with fail
  refine HD.out.mono ?_
  rintro e w2 ⟨rfl, k, os, rfl⟩
  have HB := hide (below_lib w1 k os)
  go_wp2_with fail
  go_ret
  exact ⟨by rw [← HN.out]; rfl, HB.out⟩
/-- the words of how a dialogue stands -/
def stL : List (List UInt8) := [[114, 117, 110], [100, 111, 110, 101], [102, 97, 105, 108, 101, 100], [100, 101, 97, 100, 108, 105, 110, 101], [111, 118, 101, 114, 102, 108, 111, 119], [100, 114, 97, 105, 110, 101, 100]]
def statusT (n : Int) : List UInt8 := if 0 ≤ n ∧ n ≤ 5 then stL.getD n.toNat [] else []
abbrev stV : Array Value := #[.string ⟨#[114, 117, 110]⟩, .string ⟨#[100, 111, 110, 101]⟩, .string ⟨#[102, 97, 105, 108, 101, 100]⟩, .string ⟨#[100, 101, 97, 100, 108, 105, 110, 101]⟩, .string ⟨#[111, 118, 101, 114, 102, 108, 111, 119]⟩, .string ⟨#[100, 114, 97, 105, 110, 101, 100]⟩]
theorem stV_at (k : Nat) (h : k < 6) : stV[k]? = some (.string (bs (stL.getD k []))) := by
 rcases k with _ | _ | _ | _ | _ | _ | k
 all_goals first
  | rfl
  | omega
theorem statusT_len (n : Int) : (statusT n).length ≤ 8 := by
 unfold statusT
 split
 ·rename_i h
  obtain ⟨k, rfl⟩ : ∃ k : Nat, n = k := ⟨n.toNat, by omega⟩
  rw [Int.toNat_natCast]
  have hk : k < 6 := by omega
  rcases k with _ | _ | _ | _ | _ | _ | k
  all_goals first
   | (simp [stL]; done)
   | omega
 ·simp
end Go.Proofs.YtaioaojfdngfdaaGreatDoor
namespace Go.Proofs.YtaioaojfdngfdaaGreatDoor
/-- what has been read -/
structure PM where
 name : ByteArray
 dl : Int
 jm : Int
 ops : List OpM
 labels : List (List UInt8 × Int)
 uses : List UseM
 head : Bool
 opn : Bool
 t0 : Bool
 t1 : Bool
 line : Int
 ws : List WordM
 width : Int
 st : St
def kScript : List UInt8 := [115, 99, 114, 105, 112, 116]
def kSend : List UInt8 := [115, 101, 110, 100]
def kExpect : List UInt8 := [101, 120, 112, 101, 99, 116]
def kOn : List UInt8 := [111, 110]
def kTimeout : List UInt8 := [116, 105, 109, 101, 111, 117, 116]
def kEof : List UInt8 := [101, 111, 102]
def kGoto : List UInt8 := [103, 111, 116, 111]
def kPause : List UInt8 := [112, 97, 117, 115, 101]
def kDone : List UInt8 := [100, 111, 110, 101]
def kFail : List UInt8 := [102, 97, 105, 108]
def kLabel : List UInt8 := [108, 97, 98, 101, 108]
def isArm (t : List UInt8) : Bool := decide (t = kOn) || (decide (t = kTimeout) || decide (t = kEof))
def isOp (t : List UInt8) : Bool := decide (t = kSend) || (decide (t = kExpect) || (decide (t = kGoto) || (decide (t = kPause) || (decide (t = kDone) || (decide (t = kFail) || decide (t = kLabel))))))
def mFail (m : PM) (col e : Int) : PM := { m with st := failS m.line m.st col e }
def mName (m : PM) : WordM × St := nameS m.line m.width m.ws m.st
def mTicks (m : PM) (least : Int) (ever : Bool) : Int × St := ticksS m.line m.width m.ws m.st least ever
def mText (m : PM) : List UInt8 × St := textS m.line m.width m.ws m.st
def mPat (m : PM) : List UInt8 × St := patternS m.line m.width m.ws m.st
def mLabel (m : PM) (how : Int) : PM := { m with st := (mName m).2, uses := m.uses ++ [⟨(mName m).1.text, m.line, ((mName m).1.at_ : Nat) + 1, (m.ops.length : Nat) - 1, how⟩] }
/-- an op put behind all others -/
def mOp (m : PM) (o : OpM) : PM := { m with ops := m.ops ++ [o], st := if 200 ≤ m.ops.length then failS m.line m.st 0 4 else m.st }
def oKind (k : Int) : OpM := ⟨k, ⟨#[]⟩, 0, 0, [], 0, 0⟩
def mLast (m : PM) (o : OpM) (s : St) : PM := { m with ops := m.ops.set (m.ops.length - 1) o, st := s }
/-- the head -/
def mName1 (m : PM) : PM := { m with head := true, name := bs (mName m).1.text, st := (mName m).2 }
def mDl (m : PM) : PM := { m with dl := (mTicks m 1 true).1, st := (mTicks m 1 true).2 }
def mJumps (m : PM) : PM := if (wordS m.line m.width m.ws m.st false).1.2 = true then { m with jm := (numS m.line (wordS m.line m.width m.ws m.st false).2 (wordS m.line m.width m.ws m.st false).1.1 0 1000).1, st := (numS m.line (wordS m.line m.width m.ws m.st false).2 (wordS m.line m.width m.ws m.st false).1.1 0 1000).2 } else { m with st := (wordS m.line m.width m.ws m.st false).2 }
def mBegin (m : PM) : PM := mJumps (mDl (mName1 m))
/-- an arm -/
def op0 : OpM := oKind 0
def lastOp (m : PM) : OpM := m.ops.getD (m.ops.length - 1) op0
def addArm (o : OpM) (t : List UInt8) : OpM := { o with arms := o.arms ++ [⟨bs t, 0⟩] }
def mOn (m : PM) : PM := mLabel (mLast m (addArm (lastOp m) (mPat m).1) (mPat m).2) (lastOp m).arms.length
def mTw0 (m : PM) : PM := { m with t0 := true, st := if m.t0 = true then failS m.line m.st 0 6 else m.st }
def mTw1 (m : PM) : PM := { m with t1 := true, st := if m.t1 = true then failS m.line m.st 0 6 else m.st }
def mArm (m : PM) (t : List UInt8) : PM :=
 if m.opn = false then mFail m 0 8
 else if t = kOn then (if 8 ≤ (lastOp m).arms.length then mFail m 0 4 else mOn m)
 else if t = kEof then mLabel (mTw1 m) (-3) else mLabel (mTw0 m) (-2)
/-- an op, or a label -/
def mShut (m : PM) : PM := { m with opn := false }
def mSend (m : PM) : PM := mLast (mOp m (oKind 1)) { oKind 1 with text := bs (mText (mOp m (oKind 1))).1 } (mText (mOp m (oKind 1))).2
def oExpect : OpM := { oKind 2 with onT := -1, onE := -1 }
def mExpect (m : PM) : PM := { mLast (mOp m oExpect) { oExpect with n := (mTicks (mOp m oExpect) 0 true).1 } (mTicks (mOp m oExpect) 0 true).2 with opn := true, t0 := false, t1 := false }
def mPause (m : PM) : PM := mLast (mOp m (oKind 4)) { oKind 4 with n := (mTicks (mOp m (oKind 4)) 0 false).1 } (mTicks (mOp m (oKind 4)) 0 false).2
def mLab (m : PM) : PM := { m with labels := ((mName m).1.text, ((m.ops.length : Nat) : Int)) :: m.labels, st := if (lbF (mName m).1.text m.labels).isSome = true then failS m.line (mName m).2 (mName m).1.at_ 6 else (mName m).2 }
def mOps (m : PM) (t : List UInt8) : PM :=
 if t = kSend then mSend (mShut m) else if t = kExpect then mExpect (mShut m) else if t = kGoto then mLabel (mOp (mShut m) (oKind 3)) (-1) else if t = kPause then mPause (mShut m)
 else if t = kDone then mOp (mShut m) (oKind 5) else if t = kFail then mOp (mShut m) (oKind 6) else if t = kLabel then mLab (mShut m) else mShut m
/-- a line that says something -/
def mNext (m : PM) : PM := { m with st := ⟨m.st.nx + 1, m.st.sl, m.st.sc, m.st.bad⟩ }
def sayW (m : PM) : WordM := wsAt m.ws m.st.nx
def knownB (m : PM) : Bool := !(sayW m).quoted && (if (sayW m).text = kScript then !m.head else if (isArm (sayW m).text || isOp (sayW m).text) = true then m.head else false)
def mSay1 (m : PM) (t : List UInt8) : PM := if t = kScript then mBegin m else if isArm t = true then mArm m t else mOps m t
def mRest (m : PM) : PM := if m.st.bad = 0 ∧ m.st.nx < m.ws.length then mFail m (wsAt m.ws m.st.nx).at_ 2 else m
def mSay (m : PM) : PM := if knownB m = false then mFail (mNext m) 0 11 else mRest (mSay1 (mNext m) (sayW m).text)
/-- a line -/
def mLine (m : PM) (i : Nat) (s : List UInt8) : PM := { m with line := (i : Nat) + 1, ws := (wordsM s).1, width := s.length, st := ⟨0, m.st.sl, m.st.sc, m.st.bad⟩ }
def mOne (m : PM) (i : Nat) (s : List UInt8) : PM := if idleB s = true then m else if (wordsM s).2.2 ≠ 0 then mFail (mLine m i s) (wordsM s).2.1 (wordsM s).2.2 else mSay (mLine m i s)
/-- the lines, till one is wrong -/
def mGo (l : List (List UInt8)) : Nat → Nat → PM → PM
 | 0, _, m => m
 | f + 1, i, m => if m.st.bad ≠ 0 then m else mGo l f (i + 1) (mOne m i (l.getD i []))
def m0 : PM := ⟨⟨#[]⟩, 0, 0, [], [], [], false, false, false, false, 0, [], 0, ⟨0, 0, 0, 0⟩⟩
/-- a use with its label's op put in -/
def setUse (ops : List OpM) (u : UseM) (to_ : Int) : List OpM :=
 ops.set u.op.toNat (if u.how = -1 then { ops.getD u.op.toNat op0 with «to» := to_ } else if u.how = -2 then { ops.getD u.op.toNat op0 with onT := to_ } else if u.how = -3 then { ops.getD u.op.toNat op0 with onE := to_ }
  else { ops.getD u.op.toNat op0 with arms := (ops.getD u.op.toNat op0).arms.set u.how.toNat ⟨((ops.getD u.op.toNat op0).arms.getD u.how.toNat ⟨⟨#[]⟩, 0⟩).pat, to_⟩ })
/-- the uses, till one has no label -/
def mRes (ls : List (List UInt8 × Int)) : List UseM → List OpM → List OpM × Option UseM
 | [], ops => (ops, none)
 | u :: r, ops => match lbF u.name ls with
  | none => (ops, some u)
  | some t => mRes ls r (setUse ops u t)
/-- the script of a text; where, and what is wrong -/
def noProg : ProgM := ⟨⟨#[]⟩, 0, 0, []⟩
def endP (m : PM) : ProgM × (Int × Int) × Int :=
 if m.st.bad ≠ 0 then (noProg, (m.st.sl, m.st.sc), m.st.bad)
 else if m.head = false then (noProg, (1, 1), 3)
 else match mRes m.labels m.uses m.ops with
  | (ops, none) => (⟨m.name, m.dl, m.jm, ops⟩, (0, 0), 0)
  | (ops, some u) => (noProg, (u.line, u.col), 13)
def parseM (s : List UInt8) : ProgM × (Int × Int) × Int := endP (mGo (linesM s) (linesM s).length 0 m0)
end Go.Proofs.YtaioaojfdngfdaaGreatDoor
namespace Go.Proofs.YtaioaojfdngfdaaGreatDoor
/-- what has been read -/
structure DM where
 name : ByteArray
 dl : Int
 jm : Int
 ops : List OpM
 labels : List (List UInt8 × Int)
 uses : List UseM
 head : Bool
 opn : Bool
 tm : Bool
 ef : Bool
def findD (k : List UInt8) : List (List UInt8 × Int) → Int
 | [] => -1
 | (n, v) :: r => if n = k then v else findD k r
def lookD (t : List UInt8) : List (List UInt8 × List UInt8) → List UInt8 × Bool
 | [] => ([], false)
 | (k, s) :: r => if k = t then (s, true) else lookD t r
def shapesD : List (List UInt8 × List UInt8) := [(kScript, [110, 100, 106]), (kSend, [113]), (kExpect, [101]), (kOn, [112, 108]), (kTimeout, [108]), (kEof, [108]), (kGoto, [108]), (kPause, [116]), (kDone, []), (kFail, []), (kLabel, [110])]
/-- what stands behind a word -/
def shapeD (t : List UInt8) : List UInt8 × Bool := lookD t shapesD
def numberD (k : UInt8) (t : List UInt8) : Int × Nat :=
 if t = neverL ∧ (k = 100 ∨ k = 101) then (9223372036854775807, 0)
 else if (numberP t (if k = 106 then 1000 else 1000000000000)).2 = 0 ∧ k = 100 ∧ (numberP t (if k = 106 then 1000 else 1000000000000)).1 = 0 then (0, 12)
 else numberP t (if k = 106 then 1000 else 1000000000000)
def wrongD (k : UInt8) (w : WordM) : Nat :=
 if w.quoted ≠ (decide (k = 113) || decide (k = 112)) then 2
 else if (k = 110 ∨ k = 108) ∧ nameL w.text = false then 10
 else if k = 113 ∧ w.text.length = 0 then 9
 else if (k = 113 ∧ 256 < w.text.length) ∨ (k = 112 ∧ 64 < w.text.length) then 4
 else if k = 112 then (checkS w.text).2
 else if k = 100 ∨ k = 101 ∨ k = 116 ∨ k = 106 then (numberD k w.text).2
 else 0
def lastD (d : DM) : OpM := d.ops.getD (d.ops.length - 1) op0
def placeD (d : DM) (w : WordM) : Nat :=
 if w.quoted = true ∨ (shapeD w.text).2 = false ∨ decide (w.text = kScript) = d.head then 11
 else if isArm w.text = true then
  (if d.opn = false then 8 else if w.text = kOn ∧ 7 < (lastD d).arms.length then 4 else if (w.text = kTimeout ∧ d.tm = true) ∨ (w.text = kEof ∧ d.ef = true) then 6 else 0)
 else if w.text ≠ kScript ∧ w.text ≠ kLabel ∧ 199 < d.ops.length then 4 else 0
def indexD (t : List UInt8) : List (List UInt8) → Nat → Nat
 | [], _ => 0
 | k :: r, i => if k = t then i + 1 else indexD t r (i + 1)
/-- an op's kind, by its word -/
def kindD (t : List UInt8) : Nat := indexD t [kSend, kExpect, kGoto, kPause, kDone, kFail] 0
def opDoc (l : List WordM) : OpM :=
 ⟨(kindD (wsAt l 0).text : Nat), if kindD (wsAt l 0).text = 1 then bs (wsAt l 1).text else ⟨#[]⟩, if kindD (wsAt l 0).text = 2 then (numberD 101 (wsAt l 1).text).1 else if kindD (wsAt l 0).text = 4 then (numberD 116 (wsAt l 1).text).1 else 0, 0, [],
  if kindD (wsAt l 0).text = 2 then -1 else 0, if kindD (wsAt l 0).text = 2 then -1 else 0⟩
def dOp (d : DM) (l : List WordM) : DM := if 0 < kindD (wsAt l 0).text then { d with ops := d.ops ++ [opDoc l], opn := decide (kindD (wsAt l 0).text = 2), tm := false, ef := false } else d
def useD (d : DM) (l : List WordM) (line how : Int) : DM := { d with uses := d.uses ++ [⟨(wsAt l (l.length - 1)).text, line, ((wsAt l (l.length - 1)).at_ : Nat) + 1, (d.ops.length : Nat) - 1, how⟩] }
def dRest (d : DM) (l : List WordM) (line : Int) : DM :=
 if (wsAt l 0).text = kScript then { d with head := true, name := bs (wsAt l 1).text, dl := (numberD 100 (wsAt l 2).text).1, jm := (numberD 106 (wsAt l 3).text).1 }
 else if (wsAt l 0).text = kLabel then { d with labels := d.labels ++ [((wsAt l 1).text, ((d.ops.length : Nat) : Int))], opn := false }
 else if (wsAt l 0).text = kOn then useD { d with ops := d.ops.set (d.ops.length - 1) (addArm (lastD d) (wsAt l 1).text) } l line ((lastD d).arms.length : Nat)
 else if (wsAt l 0).text = kTimeout then useD { d with tm := true } l line (-2)
 else if (wsAt l 0).text = kEof then useD { d with ef := true } l line (-3)
 else if (wsAt l 0).text = kGoto then useD d l line (-1)
 else d
def takeD (d : DM) (l : List WordM) (line : Int) : DM := dRest (dOp d l) l line
/-- what is wrong of the words behind the first -/
def formD (d : DM) (l : List WordM) (width : Nat) : List UInt8 → Nat → Nat × Nat
 | [], i => if i + 1 < l.length then ((wsAt l (i + 1)).at_, 2) else (0, 0)
 | c :: r, i => if l.length ≤ i + 1 then (width, 3) else if wrongD c (wsAt l (i + 1)) ≠ 0 then ((wsAt l (i + 1)).at_, wrongD c (wsAt l (i + 1)))
  else if (wsAt l 0).text = kLabel ∧ 0 ≤ findD (wsAt l 1).text d.labels then ((wsAt l 1).at_, 6) else formD d l width r (i + 1)
/-- a line; where, and what is wrong -/
def readE (d : DM) (s : List UInt8) : Nat × Nat :=
 if (wordsM s).2.2 ≠ 0 then ((wordsM s).2.1, (wordsM s).2.2)
 else if placeD d (wsAt (wordsM s).1 0) ≠ 0 then (0, placeD d (wsAt (wordsM s).1 0))
 else formD d (wordsM s).1 s.length (shapeD (wsAt (wordsM s).1 0).text).1 0
def dGo (l : List (List UInt8)) : Nat → Nat → DM → DM × Option (Nat × Nat × Nat)
 | 0, _, d => (d, none)
 | f + 1, i, d => if idleB (l.getD i []) = true then dGo l f (i + 1) d
  else if (readE d (l.getD i [])).2 ≠ 0 then (d, some (i, readE d (l.getD i [])))
  else dGo l f (i + 1) (takeD d (wordsM (l.getD i [])).1 ((i : Nat) + 1))
def d0 : DM := ⟨⟨#[]⟩, 0, 0, [], [], [], false, false, false, false⟩
def dRes (ls : List (List UInt8 × Int)) : List UseM → List OpM → List OpM × Option UseM
 | [], ops => (ops, none)
 | u :: r, ops => if findD u.name ls < 0 then (ops, some u) else dRes ls r (setUse ops u (findD u.name ls))
def endD (x : DM × Option (Nat × Nat × Nat)) : ProgM × (Int × Int) × Int :=
 match x.2 with
 | some (i, c, e) => (noProg, ((i : Nat) + 1, (c : Nat) + 1), e)
 | none => if x.1.head = false then (noProg, (1, 1), 3)
  else match dRes x.1.labels x.1.uses x.1.ops with
   | (ops, none) => (⟨x.1.name, x.1.dl, x.1.jm, ops⟩, (0, 0), 0)
   | (ops, some u) => (noProg, (u.line, u.col), 13)
def parseD (s : List UInt8) : ProgM × (Int × Int) × Int := endD (dGo (linesM s) (linesM s).length 0 d0)
end Go.Proofs.YtaioaojfdngfdaaGreatDoor
