/- Parts of a chain of lemmas: SendsBoundW, OpenSend, OpenSet. Conditions: those of each theorem. -/
import Derived.Test.YtgfogoplmokilaaSd7
import Derived.Test.YtgfogoplmokilaaOpenEv2
import Derived.Test.YtgfogoplmokilaaSdP
import Derived.Test.YtgfogoplmokilaaGraceB
namespace Go.Proofs.Ytgfogoplmokilaa
open Go.RowKit
set_option linter.unusedVariables false
set_option linter.unusedSimpArgs false

set_option maxRecDepth 100000 in
set_option maxHeartbeats 6400000 in
theorem refsBound_c (s : SetM) (x : SdM) (write : Int) (w : World) : Calls Try.prog 31 #[.agg (setV s), .agg #[.int .i64 x.id, .int .i64 x.op, .int .i64 x.long, .int .i64 x.from_, .int .i64 x.taken, .bool x.done, .int .i64 x.at_], .int .i64 write] w fun e w' => e = .returned (.int .i64 (boundS s x.long write)) ∧ Below w.heap.size w w' := by
  obtain ⟨T, hT⟩ : ∃ T, T = boundS s x.long write := ⟨_, rfl⟩
  have HT := hide (show T = if boundOk s x.long write = true then x.long * (write + waitS s + 1) else 0 from hT)
  rw [← hT]
  clear hT
  have HOk := hide (@boundOk_iff s x.long write)
  obtain ⟨W, hW⟩ : ∃ W, W = (w.alloc (.cells (setV s) 52)).alloc (.cells #[.int .i64 x.id, .int .i64 x.op, .int .i64 x.long, .int .i64 x.from_, .int .i64 x.taken, .bool x.done, .int .i64 x.at_] 69) := ⟨_, rfl⟩
  have HL := hide (show Below w.heap.size w W by rw [hW]; exact (below_alloc _ _).alloc (by simp) _)
  have HBs := hide (show Blk W w.heap.size 52 (setV s) by rw [hW]; exact (Blk.new _ _ _).alloc _)
  have HBx := hide (show Blk W (w.heap.size + 1) 69 #[.int .i64 x.id, .int .i64 x.op, .int .i64 x.long, .int .i64 x.from_, .int .i64 x.taken, .bool x.done, .int .i64 x.at_] by rw [hW]; exact Blk.new' (by simp))
  have C := hide (refcGood_c s W)
  have HW := hide hW
  have HWt := hide (fun w' hg => refWait_c s w' hg)
  have HWb := hide (fun hg => @waitS_le2 s hg)
  clear hW
  cases hg : goodB s with
  | false =>
    rw [hg] at C
    have HQ := hide (show T = 0 by rw [HT.out, if_neg]; intro h; have := (HOk.out.1 h).1; rw [hg] at this; cases this)
    clear hg HT
    go_enter Try.func31, Try.ntmps31
    go_wp2_with fail
    change Calls _ _ _ ((w.alloc (.cells (setV s) 52)).alloc (.cells #[.int .i64 x.id, .int .i64 x.op, .int .i64 x.long, .int .i64 x.from_, .int .i64 x.taken, .bool x.done, .int .i64 x.at_] 69)) _
    rw [← HW.out]
    refine C.out.mono ?_
    rintro e w1 ⟨rfl, hb1⟩
    have HB1 := hide (HL.out.trans (hb1.mono HL.out.size))
    clear hb1
    go_wp2_with fail
    go_ret
    exact ⟨by rw [HQ.out]; rfl, HB1.out⟩
  | true =>
    rw [hg] at C
    have HWq := hide (fun w' => HWt.out w' hg)
    have hwb := HWb.out hg
    have HGd := hide hg
    obtain ⟨q, hq⟩ : ∃ q, q = waitS s := ⟨_, rfl⟩
    rw [← hq] at HWq hwb HT
    clear hg hq HWt HWb
    go_enter Try.func31, Try.ntmps31
    go_wp2_with fail
    change Calls _ _ _ ((w.alloc (.cells (setV s) 52)).alloc (.cells #[.int .i64 x.id, .int .i64 x.op, .int .i64 x.long, .int .i64 x.from_, .int .i64 x.taken, .bool x.done, .int .i64 x.at_] 69)) _
    rw [← HW.out]
    refine C.out.mono ?_
    rintro e w1 ⟨rfl, hb1⟩
    have HB1 := hide (HL.out.trans (hb1.mono HL.out.size))
    have HBs1 := hide (HBs.out.below hb1)
    have HBx1 := hide (HBx.out.below hb1)
    clear hb1
    obtain ⟨y0, y1, y2, y3, y4, y5⟩ := HBs1.out.six
    obtain ⟨x0, x1, x2, x3, x4, x5, x6⟩ := HBx1.out.sevenB
    by_cases hr : 1 ≤ write ∧ write ≤ 1000000 ∧ 1 ≤ x.long ∧ x.long ≤ 256
    · have HQ := hide (show T = x.long * (write + q + 1) by rw [HT.out, if_pos (HOk.out.2 ⟨HGd.out, hr⟩)])
      obtain ⟨h1, h2, h3, h4⟩ := hr
      have d1 : decide (write < 1) = false := by simp; omega
      have d2 : decide (1000000 < write) = false := by simp; omega
      have d3 : decide (x.long < 1) = false := by simp; omega
      have d4 : decide (256 < x.long) = false := by simp; omega
      have v1 : IntKind.i64.wrap (write + q) = write + q := IntWalk.i64_in _ (by omega)
      have v2 : IntKind.i64.wrap (write + q + 1) = write + q + 1 := IntWalk.i64_in _ (by omega)
      have h5 : 0 ≤ x.long * (write + q + 1) := Int.mul_nonneg (by omega) (by omega)
      have h6 : x.long * (write + q + 1) ≤ 256 * 6000001 := Int.mul_le_mul h4 (by omega) (by omega) (by omega)
      have v3 : IntKind.i64.wrap (x.long * (write + q + 1)) = x.long * (write + q + 1) := IntWalk.i64_in _ (by omega)
      clear h1 h2 h3 h4 h5 h6 hwb
      go_wp2_with fail
      go_region_held3 (fun w' => w'.cell? ⟨w.heap.size, 0, none⟩ = some (.int .i64 s.live) ∧ w'.cell? ⟨w.heap.size, 1, none⟩ = some (.int .i64 s.ring) ∧ w'.cell? ⟨w.heap.size, 2, none⟩ = some (.int .i64 s.win) ∧ w'.cell? ⟨w.heap.size, 3, none⟩ = some (.int .i64 s.out) ∧ w'.cell? ⟨w.heap.size, 4, none⟩ = some (.int .i64 s.quantum) ∧ w'.cell? ⟨w.heap.size, 5, none⟩ = some (.int .i64 s.visits) ∧ w'.cell? ⟨w.heap.size + 1, 2, none⟩ = some (.int .i64 x.long)) (go_keep)
        (first
          | (go_at_call 48
             refine (HWq.out _).mono ?_
             rintro e w2 ⟨rfl, hb2⟩
             have z0 := bkeep hb2 y0
             have z1 := bkeep hb2 y1
             have z2 := bkeep hb2 y2
             have z3 := bkeep hb2 y3
             have z4 := bkeep hb2 y4
             have z5 := bkeep hb2 y5
             have z6 := bkeep hb2 x2
             have HB2 := hide ((below_drew' HB1.out).trans (hb2.mono HB1.out.size))
             clear hb2))
      all_goals
        go_wp2_with fail
        go_ret
        exact ⟨by rw [HQ.out]; rfl, HB2.out⟩
    · have HQ := hide (show T = 0 by rw [HT.out, if_neg]; intro h; exact hr (HOk.out.1 h).2)
      have HR := hide hr
      clear hr
      go_wp2
      all_goals first
        | (exfalso; have := HR.out; omega)
        | (go_ret; exact ⟨by rw [HQ.out]; rfl, HB1.out⟩)
set_option maxRecDepth 100000 in
set_option maxHeartbeats 6400000 in
theorem SendsBound_walk (s : SetM) (x : SdM) (write : Int) (w : World) :
    Calls Try.prog 6 #[.agg (setV s), .agg #[.int .i64 x.id, .int .i64 x.op, .int .i64 x.long, .int .i64 x.from_, .int .i64 x.taken, .bool x.done, .int .i64 x.at_], .int .i64 write] w fun e w' => e = .returned (.bool true) ∧ Only NoBlk w w' := by
  have H1 := hide (fun w => sBound_c s x write w)
  have H2 := hide (fun w => refsBound_c s ⟨0, 0, x.long, 0, 0, false, 0⟩ write w)
  have H3 := hide (fun w => lives36_c w)
  have hT0 := boundS_gt s x.long write
  obtain ⟨T, hT⟩ : ∃ T, T = boundS s x.long write := ⟨_, rfl⟩
  have hT2 : boundS s (SdM.long ⟨0, 0, x.long, 0, 0, false, 0⟩) write = T := hT.symm
  rw [← hT] at H1 hT0
  rw [hT2] at H2
  clear hT hT2
  have d3 : (T == T) = true := by simp
  obtain ⟨W, hW⟩ : ∃ W, W = (w.alloc (.cells (setV s) 52)).alloc (.cells #[.int .i64 x.id, .int .i64 x.op, .int .i64 x.long, .int .i64 x.from_, .int .i64 x.taken, .bool x.done, .int .i64 x.at_] 66) := ⟨_, rfl⟩
  have HO := hide (show Only NoBlk w W by rw [hW]; exact ((Only.refl _ _).alloc _).alloc _)
  have HBs := hide (show Blk W w.heap.size 52 (setV s) by rw [hW]; exact (Blk.new _ _ _).alloc _)
  have HBx := hide (show Blk W (w.heap.size + 1) 66 #[.int .i64 x.id, .int .i64 x.op, .int .i64 x.long, .int .i64 x.from_, .int .i64 x.taken, .bool x.done, .int .i64 x.at_] by rw [hW]; exact Blk.new' (by simp))
  have HW := hide hW
  clear hW
  go_enter Try.func6, Try.ntmps6
  go_upto_region 1 with fail
  change Code.wp _ _ _ _ ((w.alloc (.cells (setV s) 52)).alloc (.cells #[.int .i64 x.id, .int .i64 x.op, .int .i64 x.long, .int .i64 x.from_, .int .i64 x.taken, .bool x.done, .int .i64 x.at_] 66))
  rw [← HW.out]
  obtain ⟨y0, y1, y2, y3, y4, y5⟩ := HBs.out.six
  obtain ⟨x0, x1, x2, x3, x4, x5, x6⟩ := HBx.out.sevenB
  go_wp2_with fail
  refine (H1.out _).mono ?_
  rintro en w2 ⟨rfl, hb2⟩
  replace HO := hide (HO.out.trans (Only.of_below hb2 _))
  replace HBs := hide (HBs.out.below hb2)
  replace HBx := hide (HBx.out.below hb2)
  clear hb2 y0 y1 y2 y3 y4 y5 x0 x1 x2 x3 x4 x5 x6
  obtain ⟨y0, y1, y2, y3, y4, y5⟩ := HBs.out.six
  obtain ⟨x0, x1, x2, x3, x4, x5, x6⟩ := HBx.out.sevenB
  have HLast : ∀ (w9 : World), Hid (Only NoBlk w w9) → Calls Try.prog 32 #[] w9 fun e w' => e = .returned (.bool true) ∧ Hid (Only NoBlk w w') := fun w9 h => (H3.out w9).mono fun e w' ⟨he, ho⟩ => ⟨he, hide (h.out.trans ho)⟩
  have HLast := hide HLast
  rcases hT0 with h0 | h0
  · have e0 : (T == 0) = true := by simp [h0]
    clear h0
    go_wp2_with fail
    refine (H2.out _).mono ?_
    rintro en w3 ⟨rfl, hb3⟩
    replace HO := hide (HO.out.trans (Only.of_below hb3 _))
    replace HBx := hide (HBx.out.below hb3)
    clear hb3 y0 y1 y2 y3 y4 y5 x0 x1 x2 x3 x4 x5 x6
    obtain ⟨x0, x1, x2, x3, x4, x5, x6⟩ := HBx.out.sevenB
    go_wp2_with fail
    refine (HLast.out _ HO).mono ?_
    rintro en w4 ⟨rfl, HO4⟩
    go_wp2_with fail
    go_ret
    exact ⟨rfl, HO4.out⟩
  · have e1 : decide (x.long < T) = true := by simp [h0]
    have HN := hide h0
    clear h0
    by_cases hz : T = 0
    · have e0 : (T == 0) = true := by simp [hz]
      clear hz
      go_wp2_with fail
      refine (H2.out _).mono ?_
      rintro en w3 ⟨rfl, hb3⟩
      replace HO := hide (HO.out.trans (Only.of_below hb3 _))
      replace HBx := hide (HBx.out.below hb3)
      clear hb3 y0 y1 y2 y3 y4 y5 x0 x1 x2 x3 x4 x5 x6
      obtain ⟨x0, x1, x2, x3, x4, x5, x6⟩ := HBx.out.sevenB
      go_wp2_with fail
      refine (HLast.out _ HO).mono ?_
      rintro en w4 ⟨rfl, HO4⟩
      go_wp2_with fail
      go_ret
      exact ⟨rfl, HO4.out⟩
    · have e0 : (T == 0) = false := by simp [hz]
      clear hz
      go_wp2_with fail
      refine (H2.out _).mono ?_
      rintro en w3 ⟨rfl, hb3⟩
      replace HO := hide (HO.out.trans (Only.of_below hb3 _))
      replace HBx := hide (HBx.out.below hb3)
      clear hb3 y0 y1 y2 y3 y4 y5 x0 x1 x2 x3 x4 x5 x6
      obtain ⟨x0, x1, x2, x3, x4, x5, x6⟩ := HBx.out.sevenB
      go_wp2_with fail
      refine (HLast.out _ HO).mono ?_
      rintro en w4 ⟨rfl, HO4⟩
      go_wp2_with fail
      go_ret
      exact ⟨rfl, HO4.out⟩
end Go.Proofs.Ytgfogoplmokilaa
namespace Go.Proofs.Ytgfogoplmokilaa
open Go.ChangeShapes Go.WideShapes Go.ChangeAt Go.RowKit Go.Deep
theorem list7 {α : Type} {l : List α} {a b c d e f g : α} (h : l.length = 7) (h0 : l[0]? = some a) (h1 : l[1]? = some b) (h2 : l[2]? = some c) (h3 : l[3]? = some d) (h4 : l[4]? = some e) (h5 : l[5]? = some f) (h6 : l[6]? = some g) : l = [a, b, c, d, e, f, g] := by
  match l, h with
  | [x0, x1, x2, x3, x4, x5, x6], _ => simp at h0 h1 h2 h3 h4 h5 h6; rw [h0, h1, h2, h3, h4, h5, h6]
set_option maxRecDepth 100000 in
theorem open_send {H : Type} {enc : TypeId × Value → H} {w : World} {v : Value} {d : DataW H} {p : List MemPlace} {r : Reach} {b0 : Nat} (hv : Value.okWide Try.prog w r b0 66 v) (h : DataW.Trod enc Try.prog w 0 (fun _ => true) true 66 v d p) :
    ∃ x : SdM, v = .agg #[.int .i64 x.id, .int .i64 x.op, .int .i64 x.long, .int .i64 x.from_, .int .i64 x.taken, .bool x.done, .int .i64 x.at_] := by
  obtain ⟨cs, rfl, hsz⟩ := okWide_struct Try.underlying66 hv
  obtain ⟨fuel, hf⟩ := h
  obtain ⟨hl, hc⟩ := struct_cells (fs := _) Try.underlying66 (by kernel_rfl) (by kernel_rfl) hf
  obtain ⟨u0, y0, n0, e0, t0⟩ := hc 0 _ rfl
  obtain ⟨z0, c0, _, _⟩ := DataW.trod_int Try.underlying3 t0
  obtain ⟨u1, y1, n1, e1, t1⟩ := hc 1 _ rfl
  obtain ⟨z1, c1, _, _⟩ := DataW.trod_int Try.underlying3 t1
  obtain ⟨u2, y2, n2, e2, t2⟩ := hc 2 _ rfl
  obtain ⟨z2, c2, _, _⟩ := DataW.trod_int Try.underlying3 t2
  obtain ⟨u3, y3, n3, e3, t3⟩ := hc 3 _ rfl
  obtain ⟨z3, c3, _, _⟩ := DataW.trod_int Try.underlying3 t3
  obtain ⟨u4, y4, n4, e4, t4⟩ := hc 4 _ rfl
  obtain ⟨z4, c4, _, _⟩ := DataW.trod_int Try.underlying3 t4
  obtain ⟨u5, y5, n5, e5, t5⟩ := hc 5 _ rfl
  obtain ⟨z5, c5, _⟩ := DataW.trod_bool Try.underlying4 t5
  obtain ⟨u6, y6, n6, e6, t6⟩ := hc 6 _ rfl
  obtain ⟨z6, c6, _, _⟩ := DataW.trod_int Try.underlying3 t6
  injection c0 with c0 _
  injection c1 with c1 _
  injection c2 with c2 _
  injection c3 with c3 _
  injection c4 with c4 _
  injection c5 with c5 _
  injection c6 with c6 _
  subst c0 c1 c2 c3 c4 c5 c6
  refine ⟨⟨z0, z1, z2, z3, z4, z5, z6⟩, ?_⟩
  have hq := list7 hl e0 e1 e2 e3 e4 e5 e6
  have hq2 : cs.toList = [.int .i64 z0, .int .i64 z1, .int .i64 z2, .int .i64 z3, .int .i64 z4, .bool z5, .int .i64 z6] := hq
  obtain ⟨l⟩ := cs
  simp only at hq2
  rw [hq2]
end Go.Proofs.Ytgfogoplmokilaa
namespace Go.Proofs.Ytgfogoplmokilaa
open Go.ChangeShapes Go.WideShapes Go.ChangeAt Go.RowKit Go.Deep
set_option maxRecDepth 100000 in
theorem open_set {H : Type} {enc : TypeId × Value → H} {w : World} {v : Value} {d : DataW H} {p : List MemPlace} {r : Reach} {b0 : Nat} (hv : Value.okWide Try.prog w r b0 52 v) (h : DataW.Trod enc Try.prog w 0 (fun _ => true) true 52 v d p) :
    ∃ s : SetM, v = .agg (setV s) := by
  obtain ⟨cs, rfl, hsz⟩ := okWide_struct Try.underlying52 hv
  obtain ⟨fuel, hf⟩ := h
  obtain ⟨hl, hc⟩ := all_ints_wf (fs := _) Try.underlying52 (by kernel_rfl) (by kernel_rfl) (by
    intro j f hf
    rcases j with _ | _ | _ | _ | _ | _ | j
    · injection hf with hf; subst hf; exact Try.underlying3
    · injection hf with hf; subst hf; exact Try.underlying3
    · injection hf with hf; subst hf; exact Try.underlying3
    · injection hf with hf; subst hf; exact Try.underlying3
    · injection hf with hf; subst hf; exact Try.underlying3
    · injection hf with hf; subst hf; exact Try.underlying3
    · simp at hf) hf
  obtain ⟨n0, e0, w0⟩ := hc 0 (by decide)
  obtain ⟨n1, e1, w1⟩ := hc 1 (by decide)
  obtain ⟨n2, e2, w2⟩ := hc 2 (by decide)
  obtain ⟨n3, e3, w3⟩ := hc 3 (by decide)
  obtain ⟨n4, e4, w4⟩ := hc 4 (by decide)
  obtain ⟨n5, e5, w5⟩ := hc 5 (by decide)
  refine ⟨⟨n0, n1, n2, n3, n4, n5⟩, ?_⟩
  have hq := list6 hl e0 e1 e2 e3 e4 e5
  have hq2 : cs.toList = [.int .i64 n0, .int .i64 n1, .int .i64 n2, .int .i64 n3, .int .i64 n4, .int .i64 n5] := hq
  obtain ⟨l⟩ := cs
  simp only at hq2
  rw [hq2]
end Go.Proofs.Ytgfogoplmokilaa
