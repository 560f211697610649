/- Parts of a chain of lemmas: SameL, Lives31, Same31, Tells31, Shelf, Sort31. Conditions: those of each theorem. -/
import Derived.Test.YtdmdohjdmnmabaaGreatQw17
import Derived.Shelf.Strings.Builder1
import Derived.Shelf.Small.Bits
import Derived.Shelf.Strings.BuilderF
import Derived.Shelf.Strings.BuilderK
import Derived.Shelf.Strconv.Itoa0
import Derived.Shelf.Sort.Plain
import Derived.Shelf.Bits.Mul64
import Derived.Ground.Names2Prog
import Derived.Shelf.Slices.CompactI
import Derived.Shelf.Slices.SearchI
import Derived.Shelf.Slices.Cells
import Derived.Shelf.Slices.In.SortNone
import Derived.Ground.NamesProg
import Derived.Lib.SortBridge
namespace Go.Proofs.YtdmdohjdmnmabaaGreat
open Go.RowKit
set_option linter.unusedVariables false

theorem inp_cells {w : World} {M : Nat → Prop} {A : Option Addr} {l : List Inp} (hr : Rd w M A (flat encInp l)) (k : Nat) (hk : k < l.length) : ∃ b o x, A = some ⟨b, o, none⟩ ∧ ¬ M b ∧ b < w.heap.size ∧
 w.cell? ⟨b, o + k * 4, none⟩ = some (.int .i64 x.k) ∧ w.cell? ⟨b, o + k * 4 + 1, none⟩ = some (.string x.s) ∧ w.cell? ⟨b, o + k * 4 + 2, none⟩ = some (.int .i64 x.n) ∧ w.cell? ⟨b, o + k * 4 + 3, none⟩ = some (.int .i64 x.tick) ∧ l[k]? = some x := by
 obtain ⟨b, o, hA, hm, hb, hc⟩ := flat_cells encInp_len hr k _ (List.getElem?_eq_getElem hk) (by omega)
 exact ⟨b, o, _, hA, hm, hb, hc 0 (by omega), hc 1 (by omega), hc 2 (by omega), hc 3 (by omega), List.getElem?_eq_getElem hk⟩
theorem stp_cells {w : World} {M : Nat → Prop} {A : Option Addr} {l : List Stp} (hr : Rd w M A (flat encStp l)) (k : Nat) (hk : k < l.length) : ∃ b o x, A = some ⟨b, o, none⟩ ∧ ¬ M b ∧ b < w.heap.size ∧
 w.cell? ⟨b, o + k * 6, none⟩ = some (.int .i64 x.tick) ∧ w.cell? ⟨b, o + k * 6 + 1, none⟩ = some (.int .i64 x.at_) ∧ w.cell? ⟨b, o + k * 6 + 2, none⟩ = some (.int .i64 x.what) ∧ w.cell? ⟨b, o + k * 6 + 3, none⟩ = some (.int .i64 x.arm) ∧ w.cell? ⟨b, o + k * 6 + 4, none⟩ = some (.int .i64 x.n) ∧ w.cell? ⟨b, o + k * 6 + 5, none⟩ = some (.int .i64 x.status) ∧ l[k]? = some x := by
 obtain ⟨b, o, hA, hm, hb, hc⟩ := flat_cells encStp_len hr k _ (List.getElem?_eq_getElem hk) (by omega)
 exact ⟨b, o, _, hA, hm, hb, hc 0 (by omega), hc 1 (by omega), hc 2 (by omega), hc 3 (by omega), hc 4 (by omega), hc 5 (by omega), List.getElem?_eq_getElem hk⟩

section
variable (M1 M2 : Nat → Prop) (A1 A2 : Option Addr) (c1 c2 : Nat)
end
theorem Blk.put9n {w : World} {g : Nat} {t : TypeId} {a b c d e f i j k : Value} (h : Blk w g t #[a, b, c, d, e, f, i, j, k]) (v0 v1 v2 v3 v4 v5 v6 v7 v8 : Value) : Blk (((((((((w.setCell ⟨g, 0, none⟩ v0).setCell ⟨g, 1, none⟩ v1).setCell ⟨g, 2, none⟩ v2).setCell ⟨g, 3, none⟩ v3).setCell ⟨g, 4, none⟩ v4).setCell ⟨g, 5, none⟩ v5).setCell ⟨g, 6, none⟩ v6).setCell ⟨g, 7, none⟩ v7).setCell ⟨g, 8, none⟩ v8) g t #[v0, v1, v2, v3, v4, v5, v6, v7, v8] := by
 have q := (((((((((h.set_ 0 v0).set_ 1 v1).set_ 2 v2).set_ 3 v3).set_ 4 v4).set_ 5 v5).set_ 6 v6).set_ 7 v7).set_ 8 v8)
 simpa using q
theorem below_put9n {B g : Nat} {w0 w : World} (h : Below B w0 w) (hg : B ≤ g) (v0 v1 v2 v3 v4 v5 v6 v7 v8 : Value) : Below B w0 (((((((((w.setCell ⟨g, 0, none⟩ v0).setCell ⟨g, 1, none⟩ v1).setCell ⟨g, 2, none⟩ v2).setCell ⟨g, 3, none⟩ v3).setCell ⟨g, 4, none⟩ v4).setCell ⟨g, 5, none⟩ v5).setCell ⟨g, 6, none⟩ v6).setCell ⟨g, 7, none⟩ v7).setCell ⟨g, 8, none⟩ v8) := (((((((((h.setCell (p := ⟨g, 0, none⟩) hg v0).setCell (p := ⟨g, 1, none⟩) hg v1).setCell (p := ⟨g, 2, none⟩) hg v2).setCell (p := ⟨g, 3, none⟩) hg v3).setCell (p := ⟨g, 4, none⟩) hg v4).setCell (p := ⟨g, 5, none⟩) hg v5).setCell (p := ⟨g, 6, none⟩) hg v6).setCell (p := ⟨g, 7, none⟩) hg v7).setCell (p := ⟨g, 8, none⟩) hg v8)
theorem Rd.put9n {w : World} {g : Nat} {M : Nat → Prop} {A : Option Addr} {xs : List Value} (h : Rd w M A xs) (hg : M g) (v0 v1 v2 v3 v4 v5 v6 v7 v8 : Value) : Rd (((((((((w.setCell ⟨g, 0, none⟩ v0).setCell ⟨g, 1, none⟩ v1).setCell ⟨g, 2, none⟩ v2).setCell ⟨g, 3, none⟩ v3).setCell ⟨g, 4, none⟩ v4).setCell ⟨g, 5, none⟩ v5).setCell ⟨g, 6, none⟩ v6).setCell ⟨g, 7, none⟩ v7).setCell ⟨g, 8, none⟩ v8) M A xs := (((((((((h.set_ (p := ⟨g, 0, none⟩) hg v0).set_ (p := ⟨g, 1, none⟩) hg v1).set_ (p := ⟨g, 2, none⟩) hg v2).set_ (p := ⟨g, 3, none⟩) hg v3).set_ (p := ⟨g, 4, none⟩) hg v4).set_ (p := ⟨g, 5, none⟩) hg v5).set_ (p := ⟨g, 6, none⟩) hg v6).set_ (p := ⟨g, 7, none⟩) hg v7).set_ (p := ⟨g, 8, none⟩) hg v8)
set_option maxRecDepth 100000 in
set_option maxHeartbeats 3200000 in
theorem Of_c (M : Nat → Prop) (A : Option Addr) (c : Nat) (l : List Ev) (id : Int) (w : World) (hr : Rd w M A (flat encEv l)) (hn : l.length ≤ 10000) (hx : ∀ x ∈ l, x.s.size ≤ 100) (hlc : l.length ≤ c) (hM : ∀ k, M k → k < w.heap.size) :
 Calls Tryz.prog 84 #[.slice A l.length c, .int .i64 id] w (RetLife M id (lifeGo id 0 l) (fun ok r => r = [.bool ok]) w) := by
 obtain ⟨W, hW⟩ : ∃ W, W = w.alloc (.cells #[.int .i64 0, .int .i64 0, .int .i64 0, .slice none 0 0, .slice none 0 0, .string ⟨#[]⟩, .string ⟨#[]⟩, .bool false, .int .i64 0] 118) := ⟨_, rfl⟩
 have HB := hide (show Blk W w.heap.size 118 #[.int .i64 0, .int .i64 0, .int .i64 0, .slice none 0 0, .slice none 0 0, .string ⟨#[]⟩, .string ⟨#[]⟩, .bool false, .int .i64 0] by rw [hW]; exact Blk.new _ _ _)
 have hL : Below w.heap.size w W := by rw [hW]; exact below_alloc _ _
 have hc := of_c (fun k => M k ∨ k = w.heap.size) A c l id W (by
  refine Rd.only (S := NoBlk) (w := w) ?_ (Only.of_below hL NoBlk) (fun _ h => h.elim)
  rcases hr with h | ⟨b, o, h1, h2, h3, h4⟩
  ·exact Or.inl h
  ·exact Or.inr ⟨b, o, h1, (fun h => h.elim h2 (fun h => by omega)), h3, h4⟩) hn hx hlc (fun k hk => by
   have hs : W.heap.size = w.heap.size + 1 := by rw [hW]; simp
   rcases hk with hk | hk
   ·have := hM k hk; omega
   ·omega)
 have HL := hide hL
 have HC := hide hc
 have HW := hide hW
 clear hc hW hr hn hx hM hL
 go_enter Tryz.func84, Tryz.ntmps84
 go_wp2_with fail
 rw [← HW.out]
 refine HC.out.mono ?_
 rintro e w1 ⟨hb1, h⟩
 cases hl : lifeGo id 0 l with
 | none =>
  rw [hl] at h
  obtain ⟨r, ⟨v, rfl⟩, rfl⟩ := h
  have HE := hide hl
  clear hl HC
  have gR := HB.out.below hb1
  obtain ⟨⟨y0, y1, y2, y3, y4, y5, y6, y7, y8⟩, e0, e1, e2, e3, e4, e5, e6, e7, e8⟩ := (gR.alloc (.cells #[.int .i64 0, .int .i64 0, .int .i64 0, .slice none 0 0, .slice none 0 0, .string ⟨#[]⟩, .string ⟨#[]⟩, .bool false, .int .i64 0] 118)).nine
  have hlt := gR.lt
  have hne : ¬ w.heap.size = w1.heap.size := by omega
  have hne2 : ¬ w1.heap.size = w.heap.size := by omega
  have GR := hide gR
  have HB1 := hide hb1
  clear gR hb1 hlt
  go_wp2_with fail
  obtain ⟨wz, hz⟩ : ∃ wz, wz = ((((((((((w1.alloc (.cells #[.int .i64 0, .int .i64 0, .int .i64 0, .slice none 0 0, .slice none 0 0, .string ⟨#[]⟩, .string ⟨#[]⟩, .bool false, .int .i64 0] 118)).setCell ⟨w.heap.size, 0, none⟩ (.int .i64 0)).setCell ⟨w.heap.size, 1, none⟩ (.int .i64 0)).setCell ⟨w.heap.size, 2, none⟩ (.int .i64 0)).setCell ⟨w.heap.size, 3, none⟩ (.slice none 0 0)).setCell ⟨w.heap.size, 4, none⟩ (.slice none 0 0)).setCell ⟨w.heap.size, 5, none⟩ (.string ⟨#[]⟩)).setCell ⟨w.heap.size, 6, none⟩ (.string ⟨#[]⟩)).setCell ⟨w.heap.size, 7, none⟩ (.bool false)).setCell ⟨w.heap.size, 8, none⟩ (.int .i64 0)) := ⟨_, rfl⟩
  have tB : Blk wz w.heap.size 118 #[.int .i64 0, .int .i64 0, .int .i64 0, .slice none 0 0, .slice none 0 0, .string ⟨#[]⟩, .string ⟨#[]⟩, .bool false, .int .i64 0] := by rw [hz]; exact (GR.out.alloc _).put9n (.int .i64 0) (.int .i64 0) (.int .i64 0) (.slice none 0 0) (.slice none 0 0) (.string ⟨#[]⟩) (.string ⟨#[]⟩) (.bool false) (.int .i64 0)
  have lB := hide (show Below w.heap.size w wz from by rw [hz]; exact below_put9n ((HL.out.trans (HB1.out.mono HL.out.size)).alloc (by have := GR.out.lt; omega) _) (Nat.le_refl _) (.int .i64 0) (.int .i64 0) (.int .i64 0) (.slice none 0 0) (.slice none 0 0) (.string ⟨#[]⟩) (.string ⟨#[]⟩) (.bool false) (.int .i64 0))
  rw [← hz]
  clear hz y0 y1 y2 y3 y4 y5 y6 y7 y8 e0 e1 e2 e3 e4 e5 e6 e7 e8
  obtain ⟨⟨z0, z1, z2, z3, z4, z5, z6, z7, z8⟩, -⟩ := tB.nine
  clear tB
  go_wp2_with fail
  refine bodyPost_ret (v := .tuple #[.agg #[.int .i64 0, .int .i64 0, .int .i64 0, .slice none 0 0, .slice none 0 0, .string ⟨#[]⟩, .string ⟨#[]⟩, .bool false, .int .i64 0], .bool false]) (by simp [results, Tryz.results84, go_sem, z0, z1, z2, z3, z4, z5, z6, z7, z8]) rfl ?_
  refine ⟨lB.out, ?_⟩
  rw [HE.out]
  exact ⟨[.bool false], rfl, rfl⟩
 | some f =>
  rw [hl] at h
  obtain ⟨A1, c1, A2, c2, r, ⟨v, rfl⟩, rfl, rI, rS, hc1, hc2⟩ := h
  have RI := hide rI
  have RS := hide rS
  have HE := hide hl
  clear hl HC rI rS
  have gR := HB.out.below hb1
  obtain ⟨⟨y0, y1, y2, y3, y4, y5, y6, y7, y8⟩, e0, e1, e2, e3, e4, e5, e6, e7, e8⟩ := (gR.alloc (.cells #[.int .i64 id, .int .i64 f.script, .int .i64 f.start, .slice A1 f.ins.length c1, .slice A2 f.steps.length c2, .string f.read, .string f.taken, .bool f.eof, .int .i64 f.status] 118)).nine
  have hlt := gR.lt
  have hne : ¬ w.heap.size = w1.heap.size := by omega
  have hne2 : ¬ w1.heap.size = w.heap.size := by omega
  have GR := hide gR
  have HB1 := hide hb1
  clear gR hb1 hlt
  go_wp2_with fail
  obtain ⟨wz, hz⟩ : ∃ wz, wz = ((((((((((w1.alloc (.cells #[.int .i64 id, .int .i64 f.script, .int .i64 f.start, .slice A1 f.ins.length c1, .slice A2 f.steps.length c2, .string f.read, .string f.taken, .bool f.eof, .int .i64 f.status] 118)).setCell ⟨w.heap.size, 0, none⟩ (.int .i64 id)).setCell ⟨w.heap.size, 1, none⟩ (.int .i64 f.script)).setCell ⟨w.heap.size, 2, none⟩ (.int .i64 f.start)).setCell ⟨w.heap.size, 3, none⟩ (.slice A1 f.ins.length c1)).setCell ⟨w.heap.size, 4, none⟩ (.slice A2 f.steps.length c2)).setCell ⟨w.heap.size, 5, none⟩ (.string f.read)).setCell ⟨w.heap.size, 6, none⟩ (.string f.taken)).setCell ⟨w.heap.size, 7, none⟩ (.bool f.eof)).setCell ⟨w.heap.size, 8, none⟩ (.int .i64 f.status)) := ⟨_, rfl⟩
  have tB : Blk wz w.heap.size 118 #[.int .i64 id, .int .i64 f.script, .int .i64 f.start, .slice A1 f.ins.length c1, .slice A2 f.steps.length c2, .string f.read, .string f.taken, .bool f.eof, .int .i64 f.status] := by rw [hz]; exact (GR.out.alloc _).put9n (.int .i64 id) (.int .i64 f.script) (.int .i64 f.start) (.slice A1 f.ins.length c1) (.slice A2 f.steps.length c2) (.string f.read) (.string f.taken) (.bool f.eof) (.int .i64 f.status)
  have lB := hide (show Below w.heap.size w wz from by rw [hz]; exact below_put9n ((HL.out.trans (HB1.out.mono HL.out.size)).alloc (by have := GR.out.lt; omega) _) (Nat.le_refl _) (.int .i64 id) (.int .i64 f.script) (.int .i64 f.start) (.slice A1 f.ins.length c1) (.slice A2 f.steps.length c2) (.string f.read) (.string f.taken) (.bool f.eof) (.int .i64 f.status))
  have qI := hide (show Rd wz M A1 (flat encInp f.ins) from by rw [hz]; exact ((RI.out.alloc _).put9n (g := w.heap.size) (Or.inr rfl) (.int .i64 id) (.int .i64 f.script) (.int .i64 f.start) (.slice A1 f.ins.length c1) (.slice A2 f.steps.length c2) (.string f.read) (.string f.taken) (.bool f.eof) (.int .i64 f.status)).mono (fun _ h => Or.inl h))
  have qS := hide (show Rd wz M A2 (flat encStp f.steps) from by rw [hz]; exact ((RS.out.alloc _).put9n (g := w.heap.size) (Or.inr rfl) (.int .i64 id) (.int .i64 f.script) (.int .i64 f.start) (.slice A1 f.ins.length c1) (.slice A2 f.steps.length c2) (.string f.read) (.string f.taken) (.bool f.eof) (.int .i64 f.status)).mono (fun _ h => Or.inl h))
  rw [← hz]
  clear hz y0 y1 y2 y3 y4 y5 y6 y7 y8 e0 e1 e2 e3 e4 e5 e6 e7 e8
  obtain ⟨⟨z0, z1, z2, z3, z4, z5, z6, z7, z8⟩, -⟩ := tB.nine
  clear tB
  go_wp2_with fail
  refine bodyPost_ret (v := .tuple #[.agg #[.int .i64 id, .int .i64 f.script, .int .i64 f.start, .slice A1 f.ins.length c1, .slice A2 f.steps.length c2, .string f.read, .string f.taken, .bool f.eof, .int .i64 f.status], .bool true]) (by simp [results, Tryz.results84, go_sem, z0, z1, z2, z3, z4, z5, z6, z7, z8]) rfl ?_
  refine ⟨lB.out, ?_⟩
  rw [HE.out]
  exact ⟨A1, c1, A2, c2, [.bool true], rfl, rfl, qI.out, qS.out, hc1, hc2⟩
end Go.Proofs.YtdmdohjdmnmabaaGreat
namespace Go.Proofs.YtdmdohjdmnmabaaGreat
open Go.RowKit
set_option linter.unusedVariables false

def litL : List Ev := [⟨1, 0, 0, 5, ⟨#[]⟩, 0, st0⟩, ⟨2, 0, 0, 0, ⟨#[]⟩, 0, st0⟩, ⟨4, 0, 2, 0, ⟨#[111, 107]⟩, 0, st0⟩, ⟨8, 0, 0, 0, ⟨#[]⟩, 0, ⟨5, 0, 1, 0, 0, 0⟩⟩]
theorem litL_life : ∃ f, lifeGo 0 0 litL = some f ∧ f.start = 5 ∧ f.ins = [⟨1, ⟨#[111, 107]⟩, 0, 0⟩, ⟨5, ⟨#[]⟩, 0, 5⟩] := by
 refine ⟨⟨0, 5, [⟨1, ⟨#[111, 107]⟩, 0, 0⟩, ⟨5, ⟨#[]⟩, 0, 5⟩], [⟨5, 0, 1, 0, 0, 0⟩], ⟨#[]⟩ ++ ⟨#[111, 107]⟩, ⟨#[]⟩, false, 0⟩, ?_, rfl, rfl⟩
 simp [litL, lifeGo, opens, addL, life0]
end Go.Proofs.YtdmdohjdmnmabaaGreat
namespace Go.Proofs.YtdmdohjdmnmabaaGreat
open Go.RowKit
set_option linter.unusedVariables false

end Go.Proofs.YtdmdohjdmnmabaaGreat
namespace Go.Proofs.YtdmdohjdmnmabaaGreat
open Go.RowKit
set_option linter.unusedVariables false

/-- the ticks of the rounds -/
def clocksL (l : List Ev) : List Int := (l.filter (fun x => decide (x.k = 1))).map (·.tick)
abbrev encI (t : Int) : List Value := [.int .i64 t]
theorem Tryz.infoI64 : (Tryz.prog.info? 2).map (fun i => (i.zero, i.size, i.bytes)) = some (some (.int .i64 0), 1, 8) := by kernel_rfl
theorem clocks_succ (l : List Ev) (k : Nat) (h : k < l.length) : clocksL (l.take (k + 1)) = clocksL (l.take k) ++ (if (evAt l k).k = 1 then [(evAt l k).tick] else []) := by
 have e : evAt l k = l[k] := by simp [evAt, List.getD, h]
 unfold clocksL
 rw [List.take_succ_eq_append_getElem h, List.filter_append, List.map_append, e]
 by_cases hp : l[k].k = 1 <;> simp [hp]
theorem clocks_le (l : List Ev) : (clocksL l).length ≤ l.length := by
 unfold clocksL
 rw [List.length_map]; exact List.length_filter_le _ _
set_option maxRecDepth 100000 in
set_option maxHeartbeats 1600000 in
theorem Clocks_c (M : Nat → Prop) (A : Option Addr) (c : Nat) (l : List Ev) (w : World) (hr : Rd w M A (flat encEv l)) (hn : l.length ≤ 100000) (hM : ∀ k, M k → k < w.heap.size) :
 Calls Tryz.prog 65 #[.slice A l.length c] w fun e w' => Below w.heap.size w w' ∧ ∃ A1 c1, e = .returned (.slice A1 (clocksL l).length c1) ∧ Rd w' M A1 (flat encI (clocksL l)) ∧ (clocksL l).length ≤ c1 := by
 have Hc := hide (fun k hk => ev_cells hr k hk)
 have HM := hide hM
 obtain ⟨i0, hi, hz0, hz1, hz2⟩ := info_parts Tryz.infoI64
 obtain ⟨n, hnl⟩ : ∃ n, n = l.length := ⟨_, rfl⟩
 rw [← hnl] at hn ⊢
 have Hn := hide hnl
 clear hr hM hnl
 go_enter Tryz.func65, Tryz.ntmps65
 go_wp2_with fail
 go_loopw [3, 8] (fun v i wr => ∃ k m : Nat, k ≤ n ∧ m ≤ k ∧ i = .int .i64 k ∧ Hid ((clocksL (l.take k)).length = m) ∧ wr.ownsRow w.heap.size 2 1 v m (flat encI (clocksL (l.take k))) ∧ Below w.heap.size w wr) (fun _ i _ => n - (intOf i).toNat)
 case atStart => exact ⟨0, 0, Nat.zero_le _, Nat.zero_le _, rfl, hide rfl, ⟨rfl, Or.inl ⟨rfl, rfl⟩⟩, Below.refl _ _⟩
 case round =>
  obtain ⟨k, m, hk, hm, rfl, hml, hown, hbel⟩ := hrel
  by_cases hlt : k < n
  ·obtain ⟨b, o, rfl, _, hb, g0, g1, g2, g3, g4, g5, g6, g7, g8, g9, g10, g11⟩ := Hc.out k (by rw [← Hn.out]; exact hlt)
   replace g0 := bkeepL hbel hb g0
   replace g1 := bkeepL hbel hb g1
   replace g2 := bkeepL hbel hb g2
   replace g3 := bkeepL hbel hb g3
   replace g4 := bkeepL hbel hb g4
   replace g5 := bkeepL hbel hb g5
   replace g6 := bkeepL hbel hb g6
   replace g7 := bkeepL hbel hb g7
   replace g8 := bkeepL hbel hb g8
   replace g9 := bkeepL hbel hb g9
   replace g10 := bkeepL hbel hb g10
   replace g11 := bkeepL hbel hb g11
   have HF := hide (clocks_succ l k (by rw [← Hn.out]; exact hlt))
   obtain ⟨x, hx⟩ : ∃ x, x = evAt l k := ⟨_, rfl⟩
   rw [← hx] at g0 g1 g2 g3 g4 g5 g6 g7 g8 g9 g10 g11 HF
   clear hx
   cases q1 : (x.k == 1) with
   | true =>
    have HT := hide (show x.k = 1 by simpa using q1)
    have hrd : Rd ((wr.alloc (.cells (evV x) 82)).alloc (.cells (encI x.tick).toArray 2)) NoBlk (some ⟨wr.heap.size + 1, 0, none⟩) (encI x.tick) := rd_blkN (Blk.new' (by simp)) (fun h => h)
    have Hrd := hide hrd
    have Hone := hide (show ∀ u ∈ encI x.tick, u.oneCell' = true by intro u hu; simp at hu; subst hu; rfl)
    clear hrd
    go_wp2_with (first
     | (at_builtin; refine wpList_append_rd _ rfl (.tmp 15) (.tmp 18) _ rfl w.heap.size 2 i0 _ 1 8 Tryz.underlying103 hi hz0 hz1 hz2 rfl (by omega) _ m _ rfl ((hown.alloc _).alloc _) NoBlk (some ⟨wr.heap.size + 1, 0, none⟩) 1 1 (encI x.tick) rfl Hrd.out rfl Hone.out (by simp only [maxLen]; omega) (by omega) (by have := hbel.size; simp; omega) ?_; intro v2 w2 hown2 hgr _; have Own2 := hide hown2; have Gr := hide hgr; clear hown2 hgr))
    go_roundw
    case rel =>
     refine ⟨k + 1, m + 1, by omega, by omega, by go_num, ?_, ?_, ?_⟩
     ·rw [HF.out, if_pos HT.out, List.length_append, hml.out]; rfl
     ·rw [HF.out, if_pos HT.out, flat_append]
      have := Own2.out
      simpa [flat] using this
     ·exact ((hbel.alloc hbel.size _).alloc (by have := hbel.size; simp; omega) _).grown Gr.out (by have := hbel.size; simp; omega) (fun j hj => by have := own_ge hown j hj; omega)
    case measure => simp [intOf]; omega
   | false =>
    have HT := hide (show ¬ x.k = 1 by simpa using q1)
    go_wp2_with fail
    go_roundw
    case rel =>
     refine ⟨k + 1, m, by omega, by omega, by go_num, ?_, ?_, hbel.alloc hbel.size _⟩
     ·rw [HF.out, if_neg HT.out, List.append_nil]; exact hml
     ·rw [HF.out, if_neg HT.out]; simpa using hown.alloc _
    case measure => simp [intOf]; omega
  ·have hke : k = n := by omega
   subst hke
   have hd : decide ((k : Int) < k) = false := by simp
   have hd2 : decide (k < k) = false := by simp
   have ht : l.take k = l := List.take_of_length_le (by rw [← Hn.out]; omega)
   rw [ht] at hml hown
   obtain ⟨A1, c1, rfl, hcap⟩ := own_cap hown
   have Hr := hide (Rd.of_own hown HM.out)
   clear ht hown hlt
   go_wp2_with fail
   go_ret
   exact ⟨hbel, A1, c1, by rw [hml.out]; rfl, Hr.out, by rw [hml.out]; exact hcap⟩
end Go.Proofs.YtdmdohjdmnmabaaGreat
namespace Go.Proofs
open Go.Shelf
def Tryz.lays189_ren : Go.Shelf.Ren := ⟨fun | 189 => 127 | 125 => 141 | 257 => 140 | 128 => 156 | 129 => 157 | 294 => 147 | 295 => 148 | 296 => 149 | 297 => 150 | 298 => 151 | 299 => 152 | 216 => 153 | 300 => 154 | 301 => 155 | 328 => 161 | 329 => 162 | 330 => 163 | 331 => 164 | 332 => 165 | 215 => 166 | 343 => 174 | n => n, fun | 28 => 86 | 3 => 3 | 46 => 195 | 0 => 0 | 51 => 211 | 53 => 153 | 4 => 4 | 183 => 204 | 182 => 203 | 131 => 208 | 5 => 5 | 9 => 9 | 218 => 223 | 222 => 227 | 228 => 239 | 229 => 240 | n => n, fun | n => n⟩
theorem Tryz.lays189 : Go.Proofs.Lays.n189 Tryz.prog Tryz.lays189_ren := {
 mixed := by kernel_rfl
 f125 := Tryz.func141.trans (congrArg some (by kernel_rfl))
 f128 := Tryz.func156.trans (congrArg some (by kernel_rfl))
 f129 := Tryz.func157.trans (congrArg some (by kernel_rfl))
 f189 := Tryz.func127.trans (congrArg some (by kernel_rfl))
 f215 := Tryz.func166.trans (congrArg some (by kernel_rfl))
 f216 := Tryz.func153.trans (congrArg some (by kernel_rfl))
 f257 := Tryz.func140.trans (congrArg some (by kernel_rfl))
 f294 := Tryz.func147.trans (congrArg some (by kernel_rfl))
 f295 := Tryz.func148.trans (congrArg some (by kernel_rfl))
 f296 := Tryz.func149.trans (congrArg some (by kernel_rfl))
 f297 := Tryz.func150.trans (congrArg some (by kernel_rfl))
 f298 := Tryz.func151.trans (congrArg some (by kernel_rfl))
 f299 := Tryz.func152.trans (congrArg some (by kernel_rfl))
 f300 := Tryz.func154.trans (congrArg some (by kernel_rfl))
 f301 := Tryz.func155.trans (congrArg some (by kernel_rfl))
 f328 := Tryz.func161.trans (congrArg some (by kernel_rfl))
 f329 := Tryz.func162.trans (congrArg some (by kernel_rfl))
 f330 := Tryz.func163.trans (congrArg some (by kernel_rfl))
 f331 := Tryz.func164.trans (congrArg some (by kernel_rfl))
 f332 := Tryz.func165.trans (congrArg some (by kernel_rfl))
 f343 := Tryz.func174.trans (congrArg some (by kernel_rfl))
 t0 := Tryz.underlying0
 a0 := Tryz.isAgg0
 z0 := Tryz.sizeOf0
 v0 := Tryz.zeroValue0
 t3 := Tryz.underlying3
 a3 := Tryz.isAgg3
 z3 := Tryz.sizeOf3
 v3 := Tryz.zeroValue3
 t4 := Tryz.underlying4
 a4 := Tryz.isAgg4
 z4 := Tryz.sizeOf4
 v4 := Tryz.zeroValue4
 t5 := Tryz.underlying5
 a5 := Tryz.isAgg5
 z5 := Tryz.sizeOf5
 v5 := Tryz.zeroValue5
 t9 := Tryz.underlying9
 a9 := Tryz.isAgg9
 z9 := Tryz.sizeOf9
 v9 := Tryz.zeroValue9
 t28 := Tryz.underlying86
 a28 := Tryz.isAgg86
 z28 := Tryz.sizeOf86
 v28 := Tryz.zeroValue86
 t46 := Tryz.underlying195
 a46 := Tryz.isAgg195
 z46 := Tryz.sizeOf195
 v46 := Tryz.zeroValue195
 t51 := Tryz.underlying211
 a51 := Tryz.isAgg211
 z51 := Tryz.sizeOf211
 v51 := Tryz.zeroValue211
 t53 := Tryz.underlying153
 a53 := Tryz.isAgg153
 z53 := Tryz.sizeOf153
 v53 := Tryz.zeroValue153
 t131 := Tryz.underlying208
 a131 := Tryz.isAgg208
 z131 := Tryz.sizeOf208
 v131 := Tryz.zeroValue208
 t182 := Tryz.underlying203
 a182 := Tryz.isAgg203
 z182 := Tryz.sizeOf203
 v182 := Tryz.zeroValue203
 t183 := Tryz.underlying204
 a183 := Tryz.isAgg204
 z183 := Tryz.sizeOf204
 v183 := Tryz.zeroValue204
 t218 := Tryz.underlying223
 a218 := Tryz.isAgg223
 z218 := Tryz.sizeOf223
 v218 := Tryz.zeroValue223
 t222 := Tryz.underlying227
 a222 := Tryz.isAgg227
 z222 := Tryz.sizeOf227
 v222 := Tryz.zeroValue227
 t228 := Tryz.underlying239
 a228 := Tryz.isAgg239
 z228 := Tryz.sizeOf239
 v228 := Tryz.zeroValue239
 t229 := Tryz.underlying240
 a229 := Tryz.isAgg240
 z229 := Tryz.sizeOf240
 v229 := Tryz.zeroValue240 }
open Go.Sort Go.RowKit in
theorem Tryz.slices_Sort_int (blk off cap : Nat) (zs : List Int) (w : World) (hH : Holds (Value.int .i64) w blk off zs.toArray) (hblk : blk < w.heap.size) (hsz : zs.length < 4611686018427387904) :
 Calls Tryz.prog 127 #[.slice (some ⟨blk, off, none⟩) zs.length cap] w fun e w' =>
  e = .returned (.tuple #[]) ∧ ∃ n os, w' = grow (putRow (Value.int .i64) (Sort.ahead w n) blk off (zs.mergeSort fun x y => decide (x ≤ y)).toArray) os := Any.slices_Sort_int Tryz.lays189 blk off cap zs w hH hblk hsz
def Tryz.laysNm220_ren : Go.Shelf.Ren := ⟨fun | 20 => 128 | n => n, fun | 22 => 86 | 3 => 3 | 4 => 4 | 0 => 0 | n => n, fun | n => n⟩
theorem Tryz.laysNm220 : Go.Proofs.Lays2.n20 Tryz.prog Tryz.laysNm220_ren := {
 mixed := by kernel_rfl
 f20 := Tryz.func128.trans (congrArg some (by kernel_rfl))
 t0 := Tryz.underlying0
 a0 := Tryz.isAgg0
 z0 := Tryz.sizeOf0
 v0 := Tryz.zeroValue0
 t3 := Tryz.underlying3
 a3 := Tryz.isAgg3
 z3 := Tryz.sizeOf3
 v3 := Tryz.zeroValue3
 t4 := Tryz.underlying4
 a4 := Tryz.isAgg4
 z4 := Tryz.sizeOf4
 v4 := Tryz.zeroValue4
 t22 := Tryz.underlying86
 a22 := Tryz.isAgg86
 z22 := Tryz.sizeOf86
 v22 := Tryz.zeroValue86
 i3 := by kernel_rfl }
open Go.RowKit Go.Lib Go.Sort in
/-- slices.Compact at []int: "Compact replaces consecutive runs of equal elements with a single copy. This is like the uniq command found on Unix. Compact modifies the contents of the slice s and returns the modified slice, which may have a smaller length. Compact zeroes the elements between the new length and the original length. The result preserves the nilness of s.": IT RETURNS THE SLICE CUT TO 'Lib.compact zs'; ITS CELLS HOLD 'Lib.compact zs', THEN ZERO VALUES up to the old length; all else is as it was, but for the count of draws. IN THE WORDS OF slices.Sort's CONTRACT ('Holds', 'putRow'): so the everyday 'slices.Sort(xs); xs = slices.Compact(xs)' goes from the one contract to the other. It asks 'zs.length ≤ cap' (every slice's: the reslicing 's[:k]' looks at it). Length 0, nil: '.._empty'. (LAID: no walk: one application.) -/
theorem Tryz.slices_Compact_int (blk off cap : Nat) (zs : List Int) (w : World) (hH : Holds (Value.int .i64) w blk off zs.toArray) (hsz : zs.length ≤ 9223372036854775807) (hcap : zs.length ≤ cap) :
 Calls Tryz.prog 128 #[.slice (some ⟨blk, off, none⟩) zs.length cap] w fun e w' => e = .returned (.slice (some ⟨blk, off, none⟩) (Lib.compact zs).length cap) ∧ ∃ q, w' = putRow (Value.int .i64) (Sort.ahead w q) blk off (Lib.compact zs ++ List.replicate (zs.length - (Lib.compact zs).length) 0).toArray := Any.slices_Compact_int Tryz.laysNm220 blk off cap zs w hH hsz hcap
open Go.RowKit Go.Lib Go.Sort in
/-- The same at a slice of length 0, a nil one too: it comes back as it is. (LAID: no walk: one application.) -/
theorem Tryz.slices_Compact_int_empty (a : Option Addr) (cap : Nat) (w : World) :
 Calls Tryz.prog 128 #[.slice a 0 cap] w fun e w' => e = .returned (.slice a 0 cap) ∧ w' = w := Any.slices_Compact_int_empty Tryz.laysNm220 a cap w
open Go.RowKit Go.Sort in
/-- .. and plain. (LAID: no walk: one application.) -/
theorem Tryz.slices_Sort_int_none (p : Option Addr) (cap : Nat) (w : World) :
 Calls Tryz.prog 127 #[.slice p 0 cap] w fun e w' => e = .returned (.tuple #[]) ∧ w' = w := Any.slices_Sort_int_none Tryz.lays189 p cap w
theorem Tryz.laysSort : Go.Proofs.Lays.n189 Tryz.prog Tryz.lays189_ren := Tryz.lays189
theorem Tryz.laysCompact : Go.Proofs.Lays2.n20 Tryz.prog Tryz.laysNm220_ren := Tryz.laysNm220
end Go.Proofs
namespace Go.Proofs.YtdmdohjdmnmabaaGreat
open Go.RowKit Go.Shelf Go.Sort
theorem sortI_c (blk off cap : Nat) (zs : List Int) (w : World) (hH : Holds (Value.int .i64) w blk off zs.toArray) (hblk : blk < w.heap.size) (hsz : zs.length < 4611686018427387904) :
 Calls Tryz.prog 127 #[.slice (some ⟨blk, off, none⟩) zs.length cap] w fun e w' =>
  e = .returned (.tuple #[]) ∧ ∃ n os, w' = grow (putRow (Value.int .i64) (Sort.ahead w n) blk off (zs.mergeSort fun x y => decide (x ≤ y)).toArray) os :=
 Any.slices_Sort_int Tryz.laysSort blk off cap zs w hH hblk hsz
theorem compactI_c (blk off cap : Nat) (zs : List Int) (w : World) (hH : Holds (Value.int .i64) w blk off zs.toArray) (hsz : zs.length ≤ 9223372036854775807) (hcap : zs.length ≤ cap) :
 Calls Tryz.prog 128 #[.slice (some ⟨blk, off, none⟩) zs.length cap] w fun e w' => e = .returned (.slice (some ⟨blk, off, none⟩) (Lib.compact zs).length cap) ∧ ∃ q, w' = putRow (Value.int .i64) (Sort.ahead w q) blk off (Lib.compact zs ++ List.replicate (zs.length - (Lib.compact zs).length) 0).toArray :=
 Any.slices_Compact_int Tryz.laysCompact blk off cap zs w hH hsz hcap
theorem below_putRow {B g off : Nat} {w0 w : World} (h : Below B w0 w) (hg : B ≤ g) (d : Array Int) : Below B w0 (putRow (Value.int .i64) w g off d) := by
 refine ⟨h.os, h.tape, h.output, by simpa using h.size, fun i hi => ?_⟩
 have e : (putRow (Value.int .i64) w g off d).heap[i]? = w.heap[i]? := by
  simp only [putRow, mapBlock, Array.getElem?_modify]
  rw [if_neg (by omega)]
 rw [e]; exact h.block i hi
theorem below_ahead {B : Nat} {w0 w : World} (h : Below B w0 w) (n : Nat) : Below B w0 (Sort.ahead w n) := ⟨h.os, h.tape, h.output, h.size, h.block⟩
theorem below_grow {B : Nat} {w0 w : World} (h : Below B w0 w) (hB : B ≤ w.heap.size) (os : Array Obj) : Below B w0 (grow w os) := by
 refine ⟨h.os, h.tape, h.output, ?_, fun i hi => ?_⟩
 ·have := h.size; simp [grow]; omega
 ·rw [heap_grow_old w os (by omega)]; exact h.block i hi
end Go.Proofs.YtdmdohjdmnmabaaGreat
