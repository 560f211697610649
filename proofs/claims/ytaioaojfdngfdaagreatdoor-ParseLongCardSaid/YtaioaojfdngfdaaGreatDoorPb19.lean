/- Parts of a chain of lemmas: Par1, Par2. Conditions: those of each theorem. -/
import Derived.Test.YtaioaojfdngfdaaGreatDoorPb02
import Derived.Test.YtaioaojfdngfdaaGreatDoorPb16
import Derived.Test.YtaioaojfdngfdaaGreatDoorPb18
import Derived.BigRegion
namespace Go.Proofs.YtaioaojfdngfdaaGreatDoor
open Go.RowKit
set_option linter.unusedVariables false
set_option linter.unusedSimpArgs false
/-- what the parser keeps that these methods leave -/
structure Fr where
 a0 : Value
 a1 : Value
 a2 : Value
 a3 : Value
 a4 : Value
 a5 : Value
 a6 : Value
 a7 : Value
 a8 : Value
 a9 : Value
 line : Int
 wA : Option Addr
 ws : List WordM
 wc : Nat
 width : Int
def pvV (f : Fr) (s : St) : Array Value := #[f.a0, f.a1, f.a2, f.a3, f.a4, f.a5, f.a6, f.a7, f.a8, f.a9, .int .i64 f.line, .slice f.wA f.ws.length f.wc, .int .i64 f.width, .int .i64 s.nx, .int .i64 s.sl, .int .i64 s.sc, .int .i64 s.bad]
structure FrOk (f : Fr) : Prop where
 len : f.ws.length ≤ 1000000000
 at_ : ∀ x ∈ f.ws, x.at_ ≤ 1000000000
 txt : ∀ x ∈ f.ws, x.text.length ≤ 1000000000
 lo : 0 ≤ f.width
 hi : f.width ≤ 1000000000
abbrev PBlk (w : World) (a : Nat) (f : Fr) (s : St) : Prop := Blk w a 76 (pvV f s)
theorem PBlk.cells {w : World} {a : Nat} {f : Fr} {s : St} (h : PBlk w a f s) :
 w.cell? ⟨a, 10, none⟩ = some (.int .i64 f.line) ∧ w.cell? ⟨a, 11, none⟩ = some (.slice f.wA f.ws.length f.wc) ∧ w.cell? ⟨a, 12, none⟩ = some (.int .i64 f.width) ∧ w.cell? ⟨a, 13, none⟩ = some (.int .i64 s.nx) ∧
 w.cell? ⟨a, 14, none⟩ = some (.int .i64 s.sl) ∧ w.cell? ⟨a, 15, none⟩ = some (.int .i64 s.sc) ∧ w.cell? ⟨a, 16, none⟩ = some (.int .i64 s.bad) :=
 ⟨by rw [h.cell]; rfl, by rw [h.cell]; rfl, by rw [h.cell]; rfl, by rw [h.cell]; rfl, by rw [h.cell]; rfl, by rw [h.cell]; rfl, by rw [h.cell]; rfl⟩
theorem PBlk.fail {w : World} {a : Nat} {f : Fr} {s : St} (h : PBlk w a f s) (x y z : Int) : PBlk (((w.setCell ⟨a, 14, none⟩ (.int .i64 x)).setCell ⟨a, 15, none⟩ (.int .i64 y)).setCell ⟨a, 16, none⟩ (.int .i64 z)) a f ⟨s.nx, x, y, z⟩ := ((h.set_ 14 _).set_ 15 _).set_ 16 _
theorem PBlk.next {w : World} {a : Nat} {f : Fr} {s : St} (h : PBlk w a f s) (k : Nat) : PBlk (w.setCell ⟨a, 13, none⟩ (.int .i64 k)) a f ⟨k, s.sl, s.sc, s.bad⟩ := h.set_ 13 _
theorem only_in {w w' : World} {a : Nat} (h : Only (· = a) w w') (i : Nat) (v : Value) : Only (· = a) w (w'.setCell ⟨a, i, none⟩ v) := Only.setCell (S := (· = a)) h (Or.inl rfl) v
set_option maxRecDepth 100000 in
set_option maxHeartbeats 1600000 in
theorem pfail_c (a : Nat) (f : Fr) (s : St) (col e : Int) (w : World) (h : PBlk w a f s) (hc0 : 0 ≤ col) (hc1 : col ≤ 1000000000) : Calls Tryz.prog 39 #[.pointer (some ⟨a, 0, none⟩), .int .i64 col, .int .i64 e] w fun x w' => x = .returned (.tuple #[]) ∧ PBlk w' a f (failS f.line s col e) ∧ Only (· = a) w w' := by
 obtain ⟨c10, c11, c12, c13, c14, c15, c16⟩ := h.cells
 have f14 := Blk.frozen h 14
 have f15 := Blk.frozen h 15
 have f16 := Blk.frozen h 16
 have H := hide h
 have w1 : IntKind.i64.wrap (col + 1) = col + 1 := IntWalk.i64_in _ (by omega)
 have HF := hide (show failS f.line s col e = if s.bad = 0 then ⟨s.nx, f.line, col + 1, e⟩ else s from rfl)
 obtain ⟨t, ht⟩ : ∃ t, t = failS f.line s col e := ⟨_, rfl⟩
 rw [← ht] at HF ⊢
 clear ht h
 by_cases h0 : s.bad = 0
 case pos =>
  have HE := hide (show t = ⟨s.nx, f.line, col + 1, e⟩ by rw [HF.out, if_pos h0])
  have q : (s.bad == 0) = true := beq_iff_eq.2 h0
  clear h0
  go_enter Tryz.func39, Tryz.ntmps39
  go_wp2_with fail
  go_end0
  refine ⟨rfl, ?_, ?_⟩
  ·rw [HE.out]; exact H.out.fail _ _ _
  ·exact only_in (only_in (only_in (Only.refl _ w) _ _) _ _) _ _
 case neg =>
  have HE := hide (show t = s by rw [HF.out, if_neg h0])
  have q : (s.bad == 0) = false := beq_eq_false_iff_ne.2 h0
  clear h0
  go_enter Tryz.func39, Tryz.ntmps39
  go_wp2_with fail
  go_end0
  refine ⟨rfl, ?_, ?_⟩
  ·rw [HE.out]; exact H.out
  ·exact Only.refl _ w
end Go.Proofs.YtaioaojfdngfdaaGreatDoor
namespace Go.Proofs.YtaioaojfdngfdaaGreatDoor
open Go.RowKit
set_option linter.unusedVariables false
set_option linter.unusedSimpArgs false
theorem word_cells {w : World} {M : Nat → Prop} {A : Option Addr} {l : List WordM} (hr : Rd w M A (flat encW l)) (k : Nat) (hk : k < l.length) : ∃ b o, A = some ⟨b, o, none⟩ ∧ ¬ M b ∧ b < w.heap.size ∧
 w.cell? ⟨b, o + k * 3, none⟩ = some (.string (bs (wsAt l k).text)) ∧ w.cell? ⟨b, o + k * 3 + 1, none⟩ = some (.bool (wsAt l k).quoted) ∧ w.cell? ⟨b, o + k * 3 + 2, none⟩ = some (.int .i64 (wsAt l k).at_) := by
 obtain ⟨b, o, hA, hm, hb, hc⟩ := flat_cells (n := 3) (enc := encW) (fun _ => rfl) hr k _ (wsAt_some hk) (by omega)
 exact ⟨b, o, hA, hm, hb, hc 0 (by omega), hc 1 (by omega), hc 2 (by omega)⟩
theorem PBlk.nextI {w : World} {a : Nat} {f : Fr} {s : St} (h : PBlk w a f s) {k : Nat} {v : Int} (hv : v = (k : Nat)) : PBlk (w.setCell ⟨a, 13, none⟩ (.int .i64 v)) a f ⟨k, s.sl, s.sc, s.bad⟩ := by subst hv; exact h.next k
theorem PBlk.allocd {w : World} {a : Nat} {f : Fr} {s : St} (h : PBlk w a f s) (o : Obj) : PBlk (w.alloc o) a f s := Blk.alloc h o
theorem wput3 {w wq V : World} {a : Nat} {f : Fr} {s : St} {T : TypeId} {x y z x' y' z' : Value} (h : Blk wq w.heap.size T #[x, y, z]) (hb : PBlk wq a f s) (ho : Only (· = a) w wq) (ha : a < w.heap.size)
 (hV : ((wq.setCell ⟨w.heap.size, 0, none⟩ x').setCell ⟨w.heap.size, 1, none⟩ y').setCell ⟨w.heap.size, 2, none⟩ z' = V) : Blk V w.heap.size T #[x', y', z'] ∧ PBlk V a f s ∧ Only (· = a) w V := by
 subst hV
 refine ⟨((h.set_ 0 _).set_ 1 _).set_ 2 _, ((Blk.far hb (by simp; omega) _).far (by simp; omega) _).far (by simp; omega) _, ?_⟩
 exact Only.setCell (S := (· = a)) (Only.setCell (S := (· = a)) (Only.setCell (S := (· = a)) ho (Or.inr (Nat.le_refl _)) _) (Or.inr (Nat.le_refl _)) _) (Or.inr (Nat.le_refl _)) _
theorem word_mid {w W : World} {a : Nat} {f : Fr} {s : St} {T T' : TypeId} {x y z x' y' z' : Value} (hb : PBlk w a f s)
 (hW : ((w.alloc (.cells #[x, y, z] T)).alloc (.cells #[x', y', z'] T')).drew.drew = W) : Blk W w.heap.size T #[x, y, z] ∧ Blk W (w.heap.size + 1) T' #[x', y', z'] ∧ PBlk W a f s ∧ Only (· = a) w W := by
 subst hW
 exact ⟨((Blk.new w T _).alloc _).drew.drew, (Blk.new' (by simp)).drew.drew, (Blk.alloc (Blk.alloc hb _) _).drew.drew, ((((Only.refl _ w).alloc _).alloc _).drew).drew⟩
set_option maxRecDepth 100000 in
set_option maxHeartbeats 3200000 in
theorem word_c (a : Nat) (f : Fr) (s : St) (q : Bool) (w : World) (h : PBlk w a f s) (hf : FrOk f) (hr : Rd w (· = a) f.wA (flat encW f.ws)) (hnx : s.nx ≤ 1000000000) :
 Calls Tryz.prog 112 #[.pointer (some ⟨a, 0, none⟩), .bool q] w fun e w' =>
  e = .returned (.tuple #[.agg #[.string (bs (wordS f.line f.width f.ws s q).1.1.text), .bool (wordS f.line f.width f.ws s q).1.1.quoted, .int .i64 (wordS f.line f.width f.ws s q).1.1.at_], .bool (wordS f.line f.width f.ws s q).1.2]) ∧
  PBlk w' a f (wordS f.line f.width f.ws s q).2 ∧ Only (· = a) w w' := by
 obtain ⟨c10, c11, c12, c13, c14, c15, c16⟩ := h.cells
 have hal : a < w.heap.size := h.lt
 have f13 := Blk.frozen h 13
 have H := hide h
 have HFl := hide (fun (s : St) (col e : Int) (w : World) (h : PBlk w a f s) (hc0 : 0 ≤ col) (hc1 : col ≤ 1000000000) => pfail_c a f s col e w h hc0 hc1)
 have HS := hide (show wordS f.line f.width f.ws s q = (if s.bad ≠ 0 then ((w0, false), s)
  else if f.ws.length ≤ s.nx then ((w0, false), ⟨s.nx, f.line, f.width + 1, 3⟩)
  else if (wsAt f.ws s.nx).quoted ≠ q then ((wsAt f.ws s.nx, false), ⟨s.nx + 1, f.line, (wsAt f.ws s.nx).at_ + 1, 2⟩)
  else ((wsAt f.ws s.nx, true), ⟨s.nx + 1, s.sl, s.sc, s.bad⟩)) from rfl)
 obtain ⟨R, hR⟩ : ∃ R, R = wordS f.line f.width f.ws s q := ⟨_, rfl⟩
 rw [← hR] at HS ⊢
 obtain ⟨⟨x, ok⟩, s2⟩ := R
 clear hR h
 simp only
 have hlen := hf.len
 have hwid := hf.lo
 have hwid2 := hf.hi
 obtain ⟨n, hn⟩ : ∃ n, n = f.ws.length := ⟨_, rfl⟩
 rw [← hn] at c11 HS hlen
 obtain ⟨nx, hnxe⟩ : ∃ nx, nx = s.nx := ⟨_, rfl⟩
 rw [← hnxe] at c13 HS hnx
 by_cases hb : s.bad = 0
 case neg =>
  have HE := hide (show ((x, ok), s2) = ((w0, false), s) by rw [HS.out, if_pos hb])
  have q1 : (s.bad != 0) = true := bne_iff_ne.2 hb
  clear hb HS hr hf hn hnxe
  go_enter Tryz.func112, Tryz.ntmps112
  go_wp2_with fail
  refine bodyPost_ret (v := .tuple #[.agg #[.string ⟨#[]⟩, .bool false, .int .i64 0], .bool false]) (by simp [results, Tryz.results112, go_sem]; try rfl) rfl ?_
  have he := HE.out
  injection he with h1 h2
  injection h1 with h3 h4
  refine ⟨by rw [h3, h4]; rfl, by rw [h2]; exact H.out.allocd _, (Only.refl _ w).alloc _⟩
 case pos =>
  have q1 : (s.bad != 0) = false := by rw [hb]; rfl
  by_cases hend : n ≤ nx
  case pos =>
   have q2 : decide ((n : Int) ≤ (nx : Int)) = true := by simp; omega
   have q3 : decide (n ≤ nx) = true := by simp; omega
   have HE := hide (show ((x, ok), s2) = ((w0, false), ⟨s.nx, f.line, f.width + 1, 3⟩) by rw [HS.out, if_neg (by simpa using hb), if_pos hend, hnxe])
   have HF := hide (show failS f.line s f.width 3 = ⟨s.nx, f.line, f.width + 1, 3⟩ by unfold failS; rw [if_pos hb])
   clear hb HS hr hf hn hnxe hend
   go_enter Tryz.func112, Tryz.ntmps112
   go_upto_region 3 with fail
   go_region
   go_wp2_with fail
   generalize hW : World.drew (w.alloc _) = W
   have hB : PBlk W a f s := by rw [← hW]; exact (H.out.allocd _).drew
   have hN : Blk W w.heap.size 128 #[.string ⟨#[]⟩, .bool false, .int .i64 0] := by rw [← hW]; exact (Blk.new _ _ _).drew
   have hO : Only (· = a) w W := by rw [← hW]; exact ((Only.refl _ w).alloc _).drew
   clear hW
   refine (HFl.out s f.width 3 _ hB hwid hwid2).mono ?_
   rintro e wq ⟨rfl, hb2, ho2⟩
   rw [HF.out] at hb2
   have HB2 := hide hb2
   have HO2 := hide (hO.trans ho2)
   have hN2 := hN.only ho2 (by omega)
   obtain ⟨⟨y0, y1, y2⟩, f0, f1, f2⟩ := hN2.three
   have HN2 := hide hN2
   clear hb2 ho2 hO hB hN hN2
   go_wp2_with fail
   generalize hV : World.setCell (World.setCell (World.setCell wq _ _) _ _) _ _ = V
   obtain ⟨hN3, hB3, hO3⟩ := wput3 HN2.out HB2.out HO2.out hal hV
   obtain ⟨⟨y0, y1, y2⟩, _⟩ := hN3.three
   refine bodyPost_ret (v := .tuple #[.agg #[.string ⟨#[]⟩, .bool false, .int .i64 0], .bool false]) (by simp [results, Tryz.results112, go_sem, y0, y1, y2]; try rfl) rfl ?_
   have he := HE.out
   injection he with h1 h2
   injection h1 with h3 h4
   exact ⟨by rw [h3, h4]; rfl, by rw [h2]; exact hB3, hO3⟩
  case neg =>
   have q2 : decide ((n : Int) ≤ (nx : Int)) = false := by simp; omega
   have q3 : decide (n ≤ nx) = false := by simp; omega
   have j1 : (0 : Int) ≤ (nx : Int) := by omega
   have j2 : (nx : Int) < (n : Int) := by omega
   have w1 : IntKind.i64.wrap ((nx : Int) + 1) = (nx : Int) + 1 := IntWalk.i64_in _ (by omega)
   obtain ⟨b, o, hA, hba, hbl, k0, k1, k2⟩ := word_cells hr nx (by omega)
   have hat := hf.at_ _ (wsAt_mem (l := f.ws) (k := nx) (by omega))
   obtain ⟨y, hy⟩ : ∃ y, y = wsAt f.ws nx := ⟨_, rfl⟩
   rw [← hy] at k0 k1 k2 hat HS
   obtain ⟨yt, yq, ya⟩ := y
   simp only at k0 k1 k2 hat HS
   rw [hA] at c11
   replace HS := hide (HS.out.trans ((if_neg (by simpa using hb)).trans (if_neg hend)))
   have Hnx := hide hnxe
   have HB0 := hide hb
   clear hr hf hn hy hend hA hnxe hb
   go_enter Tryz.func112, Tryz.ntmps112
   go_upto_region 3 with fail
   go_region
   go_upto_region 6 with fail
   go_region
   generalize hW : World.drew (World.drew (World.alloc (World.alloc _ _) _)) = W
   obtain ⟨hN, hX, hB, hO⟩ := word_mid H.out hW
   obtain ⟨⟨v0, v1, v2⟩, u0, u1, u2⟩ := hN.three
   obtain ⟨⟨x0, x1, x2⟩, _⟩ := hX.three
   obtain ⟨d10, d11, d12, d13, d14, d15, d16⟩ := hB.cells
   have e13 := Blk.frozen hB 13
   have hsz := hN.lt
   have hsz2 := hX.lt
   have hsa := hB.lt
   have HN := hide hN
   have HX := hide hX
   have HB := hide hB
   have HO := hide hO
   rw [← Hnx.out] at d13
   clear hW hN hX hB hO c10 c11 c12 c13 c14 c15 c16 f13
   by_cases hq : yq = q
   case neg =>
    have q4 : (yq == q) = false := beq_eq_false_iff_ne.2 hq
    have HE := hide (show ((x, ok), s2) = ((⟨yt, yq, ya⟩, false), ⟨nx + 1, f.line, ya + 1, 2⟩) by rw [HS.out, if_pos hq])
    clear hq HS
    go_wp2_with fail
    generalize hV : World.setCell _ _ _ = V
    have hB2 : PBlk V a f ⟨nx + 1, s.sl, s.sc, s.bad⟩ := by rw [← hV]; exact HB.out.nextI (by omega)
    have hN2 : Blk V w.heap.size 128 #[.string ⟨#[]⟩, .bool false, .int .i64 0] := by rw [← hV]; exact HN.out.far (by simp; omega) _
    have hX2 : Blk V (w.heap.size + 1) 128 #[.string (bs yt), .bool yq, .int .i64 ya] := by rw [← hV]; exact HX.out.far (by simp; omega) _
    have hO2 : Only (· = a) w V := by rw [← hV]; exact only_in HO.out _ _
    clear hV
    refine (HFl.out _ ya 2 _ hB2 (by omega) (by omega)).mono ?_
    rintro e wq ⟨rfl, hb3, ho3⟩
    rw [show failS f.line ⟨nx + 1, s.sl, s.sc, s.bad⟩ ya 2 = ⟨nx + 1, f.line, (ya : Int) + 1, 2⟩ by unfold failS; rw [HB0.out]; rfl] at hb3
    have hN3 := hN2.only ho3 (by omega)
    have hX3 := hX2.only ho3 (by omega)
    obtain ⟨⟨z0, z1, z2⟩, t0, t1, t2⟩ := hN3.three
    obtain ⟨⟨r0, r1, r2⟩, _⟩ := hX3.three
    obtain ⟨b10, b11, b12, b13, b14, b15, b16⟩ := hb3.cells
    have HN3 := hide hN3
    have HB3 := hide hb3
    have HO3 := hide (hO2.trans ho3)
    clear hB2 hN2 hX2 hO2 hb3 ho3 hN3 hX3 v0 v1 v2 u0 u1 u2 x0 x1 x2 d10 d11 d12 d13 d14 d15 d16 e13 hsz hsz2 hsa
    have hsz3 := HN3.out.lt
    have hsa3 := HB3.out.lt
    go_upto_region 10 with fail
    go_region
    go_wp2_with fail
    generalize hV : World.setCell (World.setCell (World.setCell wq _ _) _ _) _ _ = V
    obtain ⟨hN4, hB4, hO4⟩ := wput3 HN3.out HB3.out HO3.out hal hV
    have hN5 := hN4.drew
    obtain ⟨⟨y0, y1, y2⟩, _⟩ := hN5.three
    refine bodyPost_ret (v := .tuple #[.agg #[.string (bs yt), .bool yq, .int .i64 ya], .bool false]) (by simp [results, Tryz.results112, go_sem, y0, y1, y2]; try rfl) rfl ?_
    have he := HE.out
    injection he with h1 h2
    injection h1 with h3 h4
    exact ⟨by rw [h3, h4], by rw [h2]; exact hB4.drew, hO4.drew⟩
   case pos =>
    have q4 : (yq == q) = true := beq_iff_eq.2 hq
    have HE := hide (show ((x, ok), s2) = ((⟨yt, yq, ya⟩, true), ⟨nx + 1, s.sl, s.sc, s.bad⟩) by rw [HS.out, if_neg (by simpa using hq)])
    clear hq HS
    go_upto_region 10 with fail
    generalize hV2 : World.setCell _ _ _ = V2
    have hB2 : PBlk V2 a f ⟨nx + 1, s.sl, s.sc, s.bad⟩ := by rw [← hV2]; exact HB.out.nextI (by omega)
    have hN2 : Blk V2 w.heap.size 128 #[.string ⟨#[]⟩, .bool false, .int .i64 0] := by rw [← hV2]; exact HN.out.far (by simp; omega) _
    have hX2 : Blk V2 (w.heap.size + 1) 128 #[.string (bs yt), .bool yq, .int .i64 ya] := by rw [← hV2]; exact HX.out.far (by simp; omega) _
    have hO2 : Only (· = a) w V2 := by rw [← hV2]; exact only_in HO.out _ _
    obtain ⟨⟨z0, z1, z2⟩, t0, t1, t2⟩ := hN2.three
    obtain ⟨⟨r0, r1, r2⟩, _⟩ := hX2.three
    obtain ⟨b10, b11, b12, b13, b14, b15, b16⟩ := hB2.cells
    rw [HB0.out] at b16
    have HN3 := hide hN2
    have HB3 := hide hB2
    have HO3 := hide hO2
    clear hV2 hB2 hN2 hX2 hO2 v0 v1 v2 u0 u1 u2 x0 x1 x2 d10 d11 d12 d13 d14 d15 d16 e13 hsz hsz2 hsa
    have hsz3 := HN3.out.lt
    have hsa3 := HB3.out.lt
    go_region
    go_wp2_with fail
    generalize hV : World.setCell (World.setCell (World.setCell V2 _ _) _ _) _ _ = V
    obtain ⟨hN4, hB4, hO4⟩ := wput3 HN3.out HB3.out HO3.out hal hV
    have hN5 := hN4.drew
    obtain ⟨⟨y0, y1, y2⟩, _⟩ := hN5.three
    refine bodyPost_ret (v := .tuple #[.agg #[.string (bs yt), .bool yq, .int .i64 ya], .bool true]) (by simp [results, Tryz.results112, go_sem, y0, y1, y2]; try rfl) rfl ?_
    have he := HE.out
    injection he with h1 h2
    injection h1 with h3 h4
    exact ⟨by rw [h3, h4], by rw [h2]; exact hB4.drew, hO4.drew⟩
end Go.Proofs.YtaioaojfdngfdaaGreatDoor
