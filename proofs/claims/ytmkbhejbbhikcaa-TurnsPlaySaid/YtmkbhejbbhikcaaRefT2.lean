/- The reference's turns: Waits, Begin, Leave. Conditions: those of each theorem. -/
import Derived.Test.YtmkbhejbbhikcaaRefT
namespace Go.Proofs.Ytmkbhejbbhikcaa
open Go.RowKit
set_option linter.unusedVariables false
attribute [local go_sem ↓] Go.wp_at_zero Go.wp_at_succ
theorem rd_tail {w : World} {M : Nat → Prop} {b o : Nat} {x : Int} {r : List Int} (h : Rd w M (some ⟨b, o, none⟩) (ints (x :: r))) : Rd w M (some ⟨b, o + 1, none⟩) (ints r) := by
  rcases h with h | ⟨b', o', hA, hm, hb, hc⟩
  · simp [ints] at h
  · injection hA with hA
    injection hA with h1 h2
    subst h1 h2
    refine Or.inr ⟨b, o + 1, rfl, hm, hb, fun j hj => ?_⟩
    have := hc (j + 1) (by simpa [ints] using hj)
    rw [show o + 1 + j = o + (j + 1) by omega, this]
    simp [ints]
theorem RetT.drew {M : Nat → Prop} {mo q : Int} {s : RT} {x : Value} {w w' : World} {e : Ending} (h : RetT M mo q s x w e w') : RetT M mo q s x w e w'.drew := by
  obtain ⟨A, c, B, d, he, hA, hB, hc, hb⟩ := h
  exact ⟨A, c, B, d, he, hA.drew, hB.drew, hc, hb.drew⟩
section
variable (M : Nat → Prop) (mo q : Int) (A : Option Addr) (c : Nat) (B : Option Addr) (d : Nat) (s : RT) (w : World)
  (hA : Rd w M A (ints s.L)) (hB : Rd w M B (ones s.l)) (hM : ∀ k, M k → k < w.heap.size) (hc : s.L.length ≤ c) (hn : s.L.length ≤ 100000) (hl : SmallL s.l) (hq : SmallQ q)
def RT.waits (s : RT) (id : Int) : Bool := decide (id ∈ s.L) || (decide (0 ≤ s.who) && (s.who == id))
include hA hn
set_option maxHeartbeats 800000 in
theorem TRWaits_c (id : Int) :
    Calls Try.prog 93 #[.agg #[.slice A s.L.length c, .int .i64 mo, .int .i64 q, .slice B s.l.length d, .int .i64 s.who, .int .i64 s.done], .int .i64 id] w fun e w' => e = .returned (.bool (s.waits id)) ∧ Below w.heap.size w w' := by
  obtain ⟨L, l, who, done⟩ := s
  simp only at hA hn ⊢
  unfold RT.waits
  simp only
  obtain ⟨W, hW⟩ : ∃ W, W = w.alloc (.cells #[.slice A L.length c, .int .i64 mo, .int .i64 q, .slice B l.length d, .int .i64 who, .int .i64 done] 102) := ⟨_, rfl⟩
  have hB0 : Blk W w.heap.size 102 #[.slice A L.length c, .int .i64 mo, .int .i64 q, .slice B l.length d, .int .i64 who, .int .i64 done] := by rw [hW]; exact Blk.new w _ _
  have hwW : Below w.heap.size w W := by rw [hW]; exact (Below.refl _ _).alloc (Nat.le_refl _) _
  have hRA := hA.below hwW
  obtain ⟨⟨x0, x1, x2, x3, x4, x5⟩, g0, g1, g2, g3, g4, g5⟩ := hB0.six
  have HW := hide hW
  have HwW := hide hwW
  clear hW hB0 hA hwW
  by_cases hin : id ∈ L
  · rw [decide_eq_true hin]
    have hf := findI_hi hin
    clear hin
    go_enter Try.func93, Try.ntmps93
    go_wp2_with fail
    rw [← HW.out]
    refine (Find_c M id A c L W hRA hn).mono ?_
    rintro e w1 ⟨rfl, rfl⟩
    go_wp2_with fail
    go_ret
    exact ⟨by simp, HwW.out⟩
  · rw [decide_eq_false hin]
    have HF := hide (findI_lo hin)
    clear hin
    by_cases h0 : 0 ≤ who
    · rw [decide_eq_true h0]
      go_enter Try.func93, Try.ntmps93
      go_wp2_with fail
      rw [← HW.out]
      refine (Find_c M id A c L W hRA hn).mono ?_
      rw [HF.out]
      rintro e w1 ⟨rfl, rfl⟩
      go_wp2_with fail
      go_ret
      exact ⟨by simp, HwW.out⟩
    · rw [decide_eq_false h0]
      have hd0 : decide (0 ≤ who) = false := by simp; omega
      go_enter Try.func93, Try.ntmps93
      go_wp2_with fail
      rw [← HW.out]
      refine (Find_c M id A c L W hRA hn).mono ?_
      rw [HF.out]
      rintro e w1 ⟨rfl, rfl⟩
      go_wp2_with fail
      go_ret
      exact ⟨by simp, HwW.out⟩
include hB hM hc hl hq
def RT.begin_ (s : RT) (mo q : Int) : RT := if 0 ≤ s.who then s else match s.L with | [] => s | x :: r => ⟨r, setL mo s.l x (hasL s.l x + q), x, s.done + 1⟩
def RT.begins (s : RT) : Int := if 0 ≤ s.who then -1 else match s.L with | [] => -1 | x :: r => x
set_option maxHeartbeats 1600000 in
theorem TRBegin_c (hd0 : 0 ≤ s.done) (hd1 : s.done < 1000000) :
    Calls Try.prog 73 #[.agg #[.slice A s.L.length c, .int .i64 mo, .int .i64 q, .slice B s.l.length d, .int .i64 s.who, .int .i64 s.done]] w (RetT M mo q (s.begin_ mo q) (.int .i64 s.begins) w) := by
  obtain ⟨L, l, who, done⟩ := s
  simp only at hA hB hc hn hl hd0 hd1 ⊢
  obtain ⟨W, HW, hB0, hB1, hwW, hRA, hRB, hM2⟩ := boxedT M (.slice A L.length c) (.int .i64 mo) (.int .i64 q) (.slice B l.length d) (.int .i64 who) (.int .i64 done) A (ints L) B (ones l) w hA hB hM
  have HM := hide hM2
  have HRA := hide hRA
  have HRB := hide hRB
  clear hM hM2 hRA hRB
  obtain ⟨⟨x0, x1, x2, x3, x4, x5⟩, g0, g1, g2, g3, g4, g5⟩ := hB0.six
  obtain ⟨⟨z0, z1, z2, z3, z4, z5⟩, f0, f1, f2, f3, f4, f5⟩ := hB1.six
  by_cases h : 0 ≤ who
  · have e1 : RT.begin_ ⟨L, l, who, done⟩ mo q = ⟨L, l, who, done⟩ := if_pos h
    have e2 : RT.begins ⟨L, l, who, done⟩ = -1 := if_pos h
    rw [e1, e2]
    have R := hide (ret_T0 (M := M) (mo := mo) (q := q) (s := ⟨L, l, who, done⟩) (d := d) (x := .int .i64 (-1)) hA hB hc)
    clear e1 e2 hA hB
    go_enter Try.func73, Try.ntmps73
    go_wp2_with fail
    refine bodyPost_ret (v := .tuple #[.agg #[.slice A L.length c, .int .i64 mo, .int .i64 q, .slice B l.length d, .int .i64 who, .int .i64 done], .int .i64 (-1)]) (by simp [results, Try.results73, go_sem]) rfl ?_
    exact R.out _ _
  · have hdw : decide (0 ≤ who) = false := by simp; omega
    cases L with
    | nil =>
      have e1 : RT.begin_ ⟨[], l, who, done⟩ mo q = ⟨[], l, who, done⟩ := if_neg h
      have e2 : RT.begins ⟨[], l, who, done⟩ = -1 := if_neg h
      rw [e1, e2]
      have R := hide (ret_T0 (M := M) (mo := mo) (q := q) (s := ⟨[], l, who, done⟩) (d := d) (x := .int .i64 (-1)) hA hB hc)
      clear e1 e2 hA hB h
      go_enter Try.func73, Try.ntmps73
      go_wp2_with fail
      refine bodyPost_ret (v := .tuple #[.agg #[.slice A ([] : List Int).length c, .int .i64 mo, .int .i64 q, .slice B l.length d, .int .i64 who, .int .i64 done], .int .i64 (-1)]) (by simp [results, Try.results73, go_sem]) rfl ?_
      exact R.out _ _
    | cons x r =>
      have e1 : RT.begin_ ⟨x :: r, l, who, done⟩ mo q = ⟨r, setL mo l x (hasL l x + q), x, done + 1⟩ := if_neg h
      have e2 : RT.begins ⟨x :: r, l, who, done⟩ = x := if_neg h
      rw [e1, e2]
      clear e1 e2 h
      obtain ⟨b, o, hAe, _, hbl, hcell⟩ := HRA.out.at_ (j := 0) (by simp [ints])
      have hc0 : W.cell? ⟨b, o, none⟩ = some (.int .i64 x) := by
        have := hcell 0 (by simp [ints])
        rw [Nat.add_zero] at this
        rw [this]; rfl
      have hw1 : IntKind.i64.wrap (done + 1) = done + 1 := IntWalk.i64_in _ (by omega)
      subst hAe
      have HW2 := hide (show W = (w.alloc (.cells #[.slice (some ⟨b, o, none⟩) (r.length + 1) c, .int .i64 mo, .int .i64 q, .slice B l.length d, .int .i64 who, .int .i64 done] 102)).alloc (.cells #[.slice none 0 0, .int .i64 0, .int .i64 0, .slice none 0 0, .int .i64 0, .int .i64 0] 102) from HW.out)
      have i1 : (0 : Int) < (r.length : Int) + 1 := by omega
      have i2 : (1 : Int) ≤ (r.length : Int) + 1 := by omega
      have i3 : 0 < r.length + 1 := by omega
      have i4 : 1 ≤ r.length + 1 := by omega
      clear hcell
      go_enter Try.func73, Try.ntmps73
      go_wp2_with fail
      rw [← HW2.out]
      clear HW HW2 hA hB
      by_cases hc1 : c = 1
      · have hr0 : r = [] := by
          have h0 : r.length + 1 ≤ c := hc
          exact List.eq_nil_of_length_eq_zero (by omega)
        have hRA3 : ∀ w', Rd w' (MM M w.heap.size (w.heap.size + 2)) (some ⟨b, o, none⟩) (ints r) := fun w' => by rw [hr0]; exact Or.inl rfl
        have HC0 := hide (show r.length ≤ 0 by rw [hr0]; exact Nat.le_refl _)
        clear hr0
        subst hc1
        go_region
        have B3 := (((hB0.set_ 4 (.int .i64 x)).set_ 0 (.slice (some ⟨b, o, none⟩) r.length 0)).set_ 5 (.int .i64 (done + 1))).drew
        have hb31 : (w.heap.size + 1) ≠ w.heap.size := by omega
        have C3 := (((hB1.far (p := ⟨w.heap.size, 4, none⟩) hb31 (.int .i64 x)).far (p := ⟨w.heap.size, 0, none⟩) hb31 (.slice (some ⟨b, o, none⟩) r.length 0)).far (p := ⟨w.heap.size, 5, none⟩) hb31 (.int .i64 (done + 1))).drew
        have RB3 := (((HRB.out.set_ (p := ⟨w.heap.size, 4, none⟩) (mm0 _) (.int .i64 x)).set_ (p := ⟨w.heap.size, 0, none⟩) (mm0 _) (.slice (some ⟨b, o, none⟩) r.length 0)).set_ (p := ⟨w.heap.size, 5, none⟩) (mm0 _) (.int .i64 (done + 1))).drew
        have W3b := (((hwW.setCell (p := ⟨w.heap.size, 4, none⟩) (Nat.le_refl _) (.int .i64 x)).setCell (p := ⟨w.heap.size, 0, none⟩) (Nat.le_refl _) (.slice (some ⟨b, o, none⟩) r.length 0)).setCell (p := ⟨w.heap.size, 5, none⟩) (Nat.le_refl _) (.int .i64 (done + 1))).drew
        obtain ⟨W3, hW3⟩ : ∃ W3, W3 = (((W.setCell ⟨w.heap.size, 4, none⟩ (.int .i64 x)).setCell ⟨w.heap.size, 0, none⟩ (.slice (some ⟨b, o, none⟩) r.length 0)).setCell ⟨w.heap.size, 5, none⟩ (.int .i64 (done + 1))).drew := ⟨_, rfl⟩
        have hsz3 : ∀ k, MM M w.heap.size (w.heap.size + 2) k → k < W3.heap.size := fun k hk => by rw [hW3]; simpa [World.setCell] using HM.out k hk
        have RA3 : Rd W3 (MM M w.heap.size (w.heap.size + 2)) (some ⟨b, o, none⟩) (ints r) := by rw [hW3]; exact (hRA3 _)
        rw [← hW3] at B3 C3 RB3 W3b ⊢
        have HB3 := hide B3
        have HC3 := hide C3
        have HRB3 := hide RB3
        have HRA3 := hide RA3
        have HW3 := hide W3b
        have HM3 := hide hsz3
        have hq' := hq
        obtain ⟨⟨x0, x1, x2, x3, x4, x5⟩, g0, g1, g2, g3, g4, g5⟩ := HB3.out.six
        clear B3 C3 RB3 RA3 W3b hsz3 hW3 hB0 hB1 z0 z1 z2 z3 z4 z5 f0 f1 f2 f3 f4 f5
        go_wp2_with fail
        refine (PGive_c (MM M w.heap.size (w.heap.size + 2)) mo q x B d l W3 HRB3.out HM3.out hl hq').mono ?_
        rintro e w4 ⟨A1, c1, rfl, hR1, hb1⟩
        obtain ⟨⟨x0, x1, x2, x3, x4, x5⟩, g0, g1, g2, g3, g4, g5⟩ := (HB3.out.below hb1).six
        obtain ⟨⟨z0, z1, z2, z3, z4, z5⟩, f0, f1, f2, f3, f4, f5⟩ := (HC3.out.below hb1).six
        have hbb := HW3.out.trans (hb1.mono HW3.out.size)
        have R := hide (ret_T (M := M) (mo := mo) (q := q) (s := ⟨r, (setL mo l x (hasL l x + q)), x, done + 1⟩) (d := c1) (x := .int .i64 x) (rd3 (HRA3.out.below hb1) (mm0 _) 1 2 3 (.int .i64 mo) (.int .i64 q) (.slice A1 (setL mo l x (hasL l x + q)).length c1)) (rd3 hR1 (mm0 _) 1 2 3 (.int .i64 mo) (.int .i64 q) (.slice A1 (setL mo l x (hasL l x + q)).length c1)) HC0.out (below3 hbb (Nat.le_refl _) 1 2 3 (.int .i64 mo) (.int .i64 q) (.slice A1 (setL mo l x (hasL l x + q)).length c1)) (.slice (some ⟨b, o, none⟩) r.length 0) (.int .i64 mo) (.int .i64 q) (.slice A1 (setL mo l x (hasL l x + q)).length c1) (.int .i64 x) (.int .i64 (done + 1)))
        clear hR1 hb1 hbb
        go_wp2_with fail
        go_region
        all_goals go_wp2_with fail
        all_goals refine bodyPost_ret (v := .tuple #[.agg #[.slice (some ⟨b, o, none⟩) r.length 0, .int .i64 mo, .int .i64 q, .slice A1 (setL mo l x (hasL l x + q)).length c1, .int .i64 x, .int .i64 (done + 1)], .int .i64 x]) (by simp [results, Try.results73, go_sem, z0, z1, z2, z3, z4, z5]) rfl ?_
        all_goals first | exact R.out.drew | exact R.out
      · have HC0 := hide (show r.length ≤ c - 1 by
          have h0 : r.length + 1 ≤ c := hc
          omega)
        go_region
        have B3 := (((hB0.set_ 4 (.int .i64 x)).set_ 0 (.slice (some ⟨b, o + 1, none⟩) r.length (c - 1))).set_ 5 (.int .i64 (done + 1))).drew
        have hb31 : (w.heap.size + 1) ≠ w.heap.size := by omega
        have C3 := (((hB1.far (p := ⟨w.heap.size, 4, none⟩) hb31 (.int .i64 x)).far (p := ⟨w.heap.size, 0, none⟩) hb31 (.slice (some ⟨b, o + 1, none⟩) r.length (c - 1))).far (p := ⟨w.heap.size, 5, none⟩) hb31 (.int .i64 (done + 1))).drew
        have RB3 := (((HRB.out.set_ (p := ⟨w.heap.size, 4, none⟩) (mm0 _) (.int .i64 x)).set_ (p := ⟨w.heap.size, 0, none⟩) (mm0 _) (.slice (some ⟨b, o + 1, none⟩) r.length (c - 1))).set_ (p := ⟨w.heap.size, 5, none⟩) (mm0 _) (.int .i64 (done + 1))).drew
        have W3b := (((hwW.setCell (p := ⟨w.heap.size, 4, none⟩) (Nat.le_refl _) (.int .i64 x)).setCell (p := ⟨w.heap.size, 0, none⟩) (Nat.le_refl _) (.slice (some ⟨b, o + 1, none⟩) r.length (c - 1))).setCell (p := ⟨w.heap.size, 5, none⟩) (Nat.le_refl _) (.int .i64 (done + 1))).drew
        obtain ⟨W3, hW3⟩ : ∃ W3, W3 = (((W.setCell ⟨w.heap.size, 4, none⟩ (.int .i64 x)).setCell ⟨w.heap.size, 0, none⟩ (.slice (some ⟨b, o + 1, none⟩) r.length (c - 1))).setCell ⟨w.heap.size, 5, none⟩ (.int .i64 (done + 1))).drew := ⟨_, rfl⟩
        have hsz3 : ∀ k, MM M w.heap.size (w.heap.size + 2) k → k < W3.heap.size := fun k hk => by rw [hW3]; simpa [World.setCell] using HM.out k hk
        have RA3 : Rd W3 (MM M w.heap.size (w.heap.size + 2)) (some ⟨b, o + 1, none⟩) (ints r) := by rw [hW3]; exact ((((rd_tail HRA.out).set_ (p := ⟨w.heap.size, 4, none⟩) (mm0 _) _).set_ (p := ⟨w.heap.size, 0, none⟩) (mm0 _) _).set_ (p := ⟨w.heap.size, 5, none⟩) (mm0 _) _).drew
        rw [← hW3] at B3 C3 RB3 W3b ⊢
        have HB3 := hide B3
        have HC3 := hide C3
        have HRB3 := hide RB3
        have HRA3 := hide RA3
        have HW3 := hide W3b
        have HM3 := hide hsz3
        have hq' := hq
        obtain ⟨⟨x0, x1, x2, x3, x4, x5⟩, g0, g1, g2, g3, g4, g5⟩ := HB3.out.six
        clear B3 C3 RB3 RA3 W3b hsz3 hW3 hB0 hB1 z0 z1 z2 z3 z4 z5 f0 f1 f2 f3 f4 f5
        go_wp2_with fail
        refine (PGive_c (MM M w.heap.size (w.heap.size + 2)) mo q x B d l W3 HRB3.out HM3.out hl hq').mono ?_
        rintro e w4 ⟨A1, c1, rfl, hR1, hb1⟩
        obtain ⟨⟨x0, x1, x2, x3, x4, x5⟩, g0, g1, g2, g3, g4, g5⟩ := (HB3.out.below hb1).six
        obtain ⟨⟨z0, z1, z2, z3, z4, z5⟩, f0, f1, f2, f3, f4, f5⟩ := (HC3.out.below hb1).six
        have hbb := HW3.out.trans (hb1.mono HW3.out.size)
        have R := hide (ret_T (M := M) (mo := mo) (q := q) (s := ⟨r, (setL mo l x (hasL l x + q)), x, done + 1⟩) (d := c1) (x := .int .i64 x) (rd3 (HRA3.out.below hb1) (mm0 _) 1 2 3 (.int .i64 mo) (.int .i64 q) (.slice A1 (setL mo l x (hasL l x + q)).length c1)) (rd3 hR1 (mm0 _) 1 2 3 (.int .i64 mo) (.int .i64 q) (.slice A1 (setL mo l x (hasL l x + q)).length c1)) HC0.out (below3 hbb (Nat.le_refl _) 1 2 3 (.int .i64 mo) (.int .i64 q) (.slice A1 (setL mo l x (hasL l x + q)).length c1)) (.slice (some ⟨b, o + 1, none⟩) r.length (c - 1)) (.int .i64 mo) (.int .i64 q) (.slice A1 (setL mo l x (hasL l x + q)).length c1) (.int .i64 x) (.int .i64 (done + 1)))
        clear hR1 hb1 hbb
        go_wp2_with fail
        go_region
        all_goals go_wp2_with fail
        all_goals refine bodyPost_ret (v := .tuple #[.agg #[.slice (some ⟨b, o + 1, none⟩) r.length (c - 1), .int .i64 mo, .int .i64 q, .slice A1 (setL mo l x (hasL l x + q)).length c1, .int .i64 x, .int .i64 (done + 1)], .int .i64 x]) (by simp [results, Try.results73, go_sem, z0, z1, z2, z3, z4, z5]) rfl ?_
        all_goals first | exact R.out.drew | exact R.out
end
end Go.Proofs.Ytmkbhejbbhikcaa
