/- The reference's turns: Leave. Conditions: those of each theorem. -/
import Derived.Test.YtmkbhejbbhikcaaRefT2
namespace Go.Proofs.Ytmkbhejbbhikcaa
open Go.RowKit
set_option linter.unusedVariables false
attribute [local go_sem ↓] Go.wp_at_zero Go.wp_at_succ
section
variable (M : Nat → Prop) (mo q : Int) (A : Option Addr) (c : Nat) (B : Option Addr) (d : Nat) (s : RT) (w : World)
  (hA : Rd w M A (ints s.L)) (hB : Rd w M B (ones s.l)) (hM : ∀ k, M k → k < w.heap.size) (hc : s.L.length ≤ c) (hn : s.L.length ≤ 100000) (hl : SmallL s.l)
def RT.leave (s : RT) (mo id : Int) : RT := if s.waits id then (if s.who = id then s.end_ mo false else ⟨cutI s.L id, setL mo s.l id 0, s.who, s.done⟩) else s
def RT.leaves (s : RT) (id : Int) : Bool := if s.waits id then (if s.who = id then s.ends else true) else false
include hA hB hM hc hn hl
set_option maxHeartbeats 1600000 in
theorem TRLeave_c (id : Int) :
    Calls Try.prog 76 #[.agg #[.slice A s.L.length c, .int .i64 mo, .int .i64 q, .slice B s.l.length d, .int .i64 s.who, .int .i64 s.done], .int .i64 id] w (RetT M mo q (s.leave mo id) (.bool (s.leaves id)) w) := by
  obtain ⟨L, l, who, done⟩ := s
  simp only at hA hB hc hn hl ⊢
  obtain ⟨W, HW, hB0, hB1, hwW, hRA, hRB, hM2⟩ := boxedT M (.slice A L.length c) (.int .i64 mo) (.int .i64 q) (.slice B l.length d) (.int .i64 who) (.int .i64 done) A (ints L) B (ones l) w hA hB hM
  have HM := hide hM2
  have HRA := hide hRA
  have HRB := hide hRB
  clear hM hM2 hRA hRB
  obtain ⟨⟨x0, x1, x2, x3, x4, x5⟩, g0, g1, g2, g3, g4, g5⟩ := hB0.six
  obtain ⟨⟨z0, z1, z2, z3, z4, z5⟩, f0, f1, f2, f3, f4, f5⟩ := hB1.six
  have hwid := TRWaits_c (MM M w.heap.size (w.heap.size + 2)) mo q A c B d ⟨L, l, who, done⟩ W HRA.out hn id
  by_cases hw : RT.waits ⟨L, l, who, done⟩ id = true
  · rw [hw] at hwid
    have Hwid := hide hwid
    clear hwid
    by_cases he : who = id
    · have e1 : RT.leave ⟨L, l, who, done⟩ mo id = RT.end_ ⟨L, l, who, done⟩ mo false := by unfold RT.leave; rw [if_pos hw, if_pos he]
      have e2 : RT.leaves ⟨L, l, who, done⟩ id = RT.ends ⟨L, l, who, done⟩ := by unfold RT.leaves; rw [if_pos hw, if_pos he]
      rw [e1, e2]
      have hb1 : (who == id) = true := by simp [he]
      clear e1 e2 hA hB hw he
      obtain ⟨s2, hs2⟩ : ∃ s2, s2 = RT.end_ ⟨L, l, who, done⟩ mo false := ⟨_, rfl⟩
      obtain ⟨ok, hok⟩ : ∃ ok, ok = RT.ends ⟨L, l, who, done⟩ := ⟨_, rfl⟩
      rw [← hs2, ← hok]
      have HS2 := hide hs2
      have HOK := hide hok
      clear hs2 hok
      go_enter Try.func76, Try.ntmps76
      go_wp2_with fail
      rw [← HW.out]
      refine Hwid.out.mono ?_
      rintro e w1 ⟨rfl, hb⟩
      have hB0' := hB0.below hb
      obtain ⟨⟨x0, x1, x2, x3, x4, x5⟩, g0, g1, g2, g3, g4, g5⟩ := hB0'.six
      have hend := TREnd_c (MM M w.heap.size (w.heap.size + 2)) mo q A c B d ⟨L, l, who, done⟩ w1 (HRA.out.below hb) (HRB.out.below hb) (fun k hk => Nat.lt_of_lt_of_le (HM.out k hk) hb.size) hc hn hl false
      rw [← HS2.out, ← HOK.out] at hend
      have Hend := hide hend
      clear hend
      go_wp2_with fail
      refine Hend.out.mono ?_
      rintro e w2 ⟨A2, c2, B2, d2, rfl, hRA2, hRB2, hc2, hb2⟩
      obtain ⟨⟨z0, z1, z2, z3, z4, z5⟩, f0, f1, f2, f3, f4, f5⟩ := ((hB1.below hb).below hb2).six
      have R := hide (ret_T (M := M) (mo := mo) (q := q) (s := s2) (d := d2) (x := .bool ok) hRA2 hRB2 hc2 ((hwW.trans (hb.mono hwW.size)).trans (hb2.mono (Nat.le_trans hwW.size hb.size))) (.slice A2 s2.L.length c2) (.int .i64 mo) (.int .i64 q) (.slice B2 s2.l.length d2) (.int .i64 s2.who) (.int .i64 s2.done))
      clear hRA2 hRB2 hb hb2 hB0' hB0 hB1
      go_wp2_with fail
      refine bodyPost_ret (v := .tuple #[.agg #[.slice A2 s2.L.length c2, .int .i64 mo, .int .i64 q, .slice B2 s2.l.length d2, .int .i64 s2.who, .int .i64 s2.done], .bool ok]) (by simp [results, Try.results76, go_sem, z0, z1, z2, z3, z4, z5]) rfl ?_
      exact R.out
    · have e1 : RT.leave ⟨L, l, who, done⟩ mo id = ⟨cutI L id, setL mo l id 0, who, done⟩ := by unfold RT.leave; rw [if_pos hw, if_neg he]
      have e2 : RT.leaves ⟨L, l, who, done⟩ id = true := by unfold RT.leaves; rw [if_pos hw, if_neg he]
      rw [e1, e2]
      have hb1 : (who == id) = false := by simp [he]
      clear e1 e2 hA hB hw he
      go_enter Try.func76, Try.ntmps76
      go_wp2_with fail
      rw [← HW.out]
      refine Hwid.out.mono ?_
      rintro e w1 ⟨rfl, hb⟩
      have B0 := hB0.below hb
      have B1 := hB1.below hb
      obtain ⟨⟨x0, x1, x2, x3, x4, x5⟩, g0, g1, g2, g3, g4, g5⟩ := B0.six
      have RA1 := hide (HRA.out.below hb)
      have RB1 := hide (HRB.out.below hb)
      have M1 := hide (fun k hk => Nat.lt_of_lt_of_le (HM.out k hk) hb.size)
      have hW1 := hide (hwW.trans (hb.mono hwW.size))
      clear hb hB0 hB1 z0 z1 z2 z3 z4 z5 f0 f1 f2 f3 f4 f5
      go_wp2_with fail
      go_region_with
        (first
          | (go_at_call 61
             refine (CutI_c (MM M w.heap.size (w.heap.size + 2)) id A c L w1.drew RA1.out.drew hn M1.out).mono ?_
             rintro e w2 ⟨A2, c2, rfl, hRA2, hb2, hc2⟩
             have hs2 := ((B0.drew.below hb2)).six
             obtain ⟨⟨y0, y1, y2, y3, y4, y5⟩, t0, t1, t2, t3, t4, t5⟩ := hs2)
          | (go_at_call 30
             refine (PClear_c (MM M w.heap.size (w.heap.size + 2)) mo q id B d l w2 (RB1.out.drew.below hb2) (fun k hk => Nat.lt_of_lt_of_le (M1.out k hk) hb2.size) hl).mono ?_
             rintro e w3 ⟨A3, c3, rfl, hR3, hb3⟩
             have hsix := ((B0.drew.below hb2).below hb3).six
             obtain ⟨⟨u0, u1, u2, u3, u4, u5⟩, v0, v1, v2, v3, v4, v5⟩ := hsix
             have hsix2 := ((B1.drew.below hb2).below hb3).six
             obtain ⟨⟨z0, z1, z2, z3, z4, z5⟩, f0, f1, f2, f3, f4, f5⟩ := hsix2))
      all_goals
        have R := hide (ret_T (M := M) (mo := mo) (q := q) (s := ⟨cutI L id, setL mo l id 0, who, done⟩) (d := c3) (x := .bool true) (rd3 ((hRA2.below hb3).set_ (p := ⟨w.heap.size, 0, none⟩) (mm0 _) (.slice A2 (cutI L id).length c2)) (mm0 _) 1 2 3 (.int .i64 mo) (.int .i64 q) (.slice A3 (setL mo l id 0).length c3)) (rd3 (hR3.set_ (p := ⟨w.heap.size, 0, none⟩) (mm0 _) (.slice A2 (cutI L id).length c2)) (mm0 _) 1 2 3 (.int .i64 mo) (.int .i64 q) (.slice A3 (setL mo l id 0).length c3)) hc2 (below3 (((hW1.out.drew.trans (hb2.mono hW1.out.size)).trans (hb3.mono (Nat.le_trans hW1.out.size hb2.size))).setCell (p := ⟨w.heap.size, 0, none⟩) (Nat.le_refl _) (.slice A2 (cutI L id).length c2)) (Nat.le_refl _) 1 2 3 (.int .i64 mo) (.int .i64 q) (.slice A3 (setL mo l id 0).length c3)) (.slice A2 (cutI L id).length c2) (.int .i64 mo) (.int .i64 q) (.slice A3 (setL mo l id 0).length c3) (.int .i64 who) (.int .i64 done))
        clear hRA2 hR3 hb2 hb3
        go_wp2_with fail
        refine bodyPost_ret (v := .tuple #[.agg #[(.slice A2 (cutI L id).length c2), .int .i64 mo, .int .i64 q, (.slice A3 (setL mo l id 0).length c3), .int .i64 who, .int .i64 done], .bool true]) (by simp [results, Try.results76, go_sem, z0, z1, z2, z3, z4, z5]) rfl ?_
        exact R.out
  · have hw' : RT.waits ⟨L, l, who, done⟩ id = false := by simpa using hw
    rw [hw'] at hwid
    have Hwid := hide hwid
    have e1 : RT.leave ⟨L, l, who, done⟩ mo id = ⟨L, l, who, done⟩ := by unfold RT.leave; rw [if_neg hw]
    have e2 : RT.leaves ⟨L, l, who, done⟩ id = false := by unfold RT.leaves; rw [if_neg hw]
    rw [e1, e2]
    clear hwid e1 e2 hA hB hw hw'
    go_enter Try.func76, Try.ntmps76
    go_wp2_with fail
    rw [← HW.out]
    refine Hwid.out.mono ?_
    rintro e w1 ⟨rfl, hb⟩
    obtain ⟨⟨x0, x1, x2, x3, x4, x5⟩, g0, g1, g2, g3, g4, g5⟩ := (hB0.below hb).six
    obtain ⟨⟨z0, z1, z2, z3, z4, z5⟩, f0, f1, f2, f3, f4, f5⟩ := (hB1.below hb).six
    have R := hide (ret_T (M := M) (mo := mo) (q := q) (s := ⟨L, l, who, done⟩) (d := d) (x := .bool false) (HRA.out.below hb) (HRB.out.below hb) hc (hwW.trans (hb.mono hwW.size)) (.slice A L.length c) (.int .i64 mo) (.int .i64 q) (.slice B l.length d) (.int .i64 who) (.int .i64 done))
    clear hb hB0 hB1
    go_wp2_with fail
    refine bodyPost_ret (v := .tuple #[.agg #[.slice A L.length c, .int .i64 mo, .int .i64 q, .slice B l.length d, .int .i64 who, .int .i64 done], .bool false]) (by simp [results, Try.results76, go_sem, z0, z1, z2, z3, z4, z5]) rfl ?_
    exact R.out
end
end Go.Proofs.Ytmkbhejbbhikcaa
