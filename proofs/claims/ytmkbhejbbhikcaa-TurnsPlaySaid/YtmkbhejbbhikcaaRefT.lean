/- The reference's turns: New, Wake, Pay, End. Conditions: those of each theorem. -/
import Derived.Test.YtmkbhejbbhikcaaRefP3
import Derived.Test.YtmkbhejbbhikcaaSame
import Derived.Test.YtmkbhejbbhikcaaTurns5
namespace Go.Proofs.Ytmkbhejbbhikcaa
open Go.RowKit
set_option linter.unusedVariables false
attribute [local go_sem ↓] Go.wp_at_zero Go.wp_at_succ

section
variable {w : World} {g : Nat} {t : TypeId} {a b c d e f : Value}
theorem Blk.six (h : Blk w g t #[a, b, c, d, e, f]) :
    (w.cell? ⟨g, 0, none⟩ = some a ∧ w.cell? ⟨g, 1, none⟩ = some b ∧ w.cell? ⟨g, 2, none⟩ = some c ∧ w.cell? ⟨g, 3, none⟩ = some d ∧ w.cell? ⟨g, 4, none⟩ = some e ∧ w.cell? ⟨g, 5, none⟩ = some f) ∧
    w.frozen? ⟨g, 0, none⟩ = false ∧ w.frozen? ⟨g, 1, none⟩ = false ∧ w.frozen? ⟨g, 2, none⟩ = false ∧ w.frozen? ⟨g, 3, none⟩ = false ∧ w.frozen? ⟨g, 4, none⟩ = false ∧ w.frozen? ⟨g, 5, none⟩ = false :=
  ⟨⟨by rw [h.cell]; rfl, by rw [h.cell]; rfl, by rw [h.cell]; rfl, by rw [h.cell]; rfl, by rw [h.cell]; rfl, by rw [h.cell]; rfl⟩, h.frozen 0, h.frozen 1, h.frozen 2, h.frozen 3, h.frozen 4, h.frozen 5⟩
end
/-- six cells stored -/
def six (w : World) (g : Nat) (a b c d e f : Value) : World :=
  (((((w.setCell ⟨g, 0, none⟩ a).setCell ⟨g, 1, none⟩ b).setCell ⟨g, 2, none⟩ c).setCell ⟨g, 3, none⟩ d).setCell ⟨g, 4, none⟩ e).setCell ⟨g, 5, none⟩ f
theorem six_rd {w : World} {M : Nat → Prop} {A : Option Addr} {xs : List Value} {g : Nat} (h : Rd w M A xs) (hg : M g) (a b c d e f : Value) : Rd (six w g a b c d e f) M A xs :=
  (((((h.set_ (p := ⟨g, 0, none⟩) hg _).set_ (p := ⟨g, 1, none⟩) hg _).set_ (p := ⟨g, 2, none⟩) hg _).set_ (p := ⟨g, 3, none⟩) hg _).set_ (p := ⟨g, 4, none⟩) hg _).set_ (p := ⟨g, 5, none⟩) hg _
theorem six_below {B : Nat} {w0 w : World} {g : Nat} (h : Below B w0 w) (hg : B ≤ g) (a b c d e f : Value) : Below B w0 (six w g a b c d e f) :=
  (((((h.setCell (p := ⟨g, 0, none⟩) hg _).setCell (p := ⟨g, 1, none⟩) hg _).setCell (p := ⟨g, 2, none⟩) hg _).setCell (p := ⟨g, 3, none⟩) hg _).setCell (p := ⟨g, 4, none⟩) hg _).setCell (p := ⟨g, 5, none⟩) hg _

/-- the reference's turns: the row, what each one has, whose turn it is, how many began -/
structure RT where
  L : List Int
  l : List (Int × Int)
  who : Int
  done : Int
/-- turns and something more that are returned -/
def RetT (M : Nat → Prop) (mo q : Int) (s : RT) (x : Value) (w : World) (e : Ending) (w' : World) : Prop :=
  ∃ A c B d, e = .returned (.tuple #[.agg #[.slice A s.L.length c, .int .i64 mo, .int .i64 q, .slice B s.l.length d, .int .i64 s.who, .int .i64 s.done], x]) ∧ Rd w' M A (ints s.L) ∧ Rd w' M B (ones s.l) ∧ s.L.length ≤ c ∧ Below w.heap.size w w'
/-- the two blocks that a method lays first -/
theorem boxedT (M : Nat → Prop) (v0 v1 v2 v3 v4 v5 : Value) (A : Option Addr) (xs : List Value) (B : Option Addr) (ys : List Value) (w : World) (hA : Rd w M A xs) (hB : Rd w M B ys) (hM : ∀ k, M k → k < w.heap.size) :
    ∃ W, Hid (W = (w.alloc (.cells #[v0, v1, v2, v3, v4, v5] 102)).alloc (.cells #[.slice none 0 0, .int .i64 0, .int .i64 0, .slice none 0 0, .int .i64 0, .int .i64 0] 102)) ∧
      Blk W w.heap.size 102 #[v0, v1, v2, v3, v4, v5] ∧ Blk W (w.heap.size + 1) 102 #[.slice none 0 0, .int .i64 0, .int .i64 0, .slice none 0 0, .int .i64 0, .int .i64 0] ∧
      Below w.heap.size w W ∧ Rd W (MM M w.heap.size (w.heap.size + 2)) A xs ∧ Rd W (MM M w.heap.size (w.heap.size + 2)) B ys ∧ (∀ k, MM M w.heap.size (w.heap.size + 2) k → k < W.heap.size) := by
  refine ⟨_, rfl, (Blk.new w _ _).alloc _, Blk.new' (by simp), ((Below.refl _ _).alloc (Nat.le_refl _) _).alloc (by simp) _, ?_, ?_, MM.lt hM (by simp; omega) (by simp)⟩
  · exact (hA.wide _).below (((Below.refl _ _).alloc (Nat.le_refl _) _).alloc (by simp) _)
  · exact (hB.wide _).below (((Below.refl _ _).alloc (Nat.le_refl _) _).alloc (by simp) _)
/-- the end of each: the result's block is filled -/
theorem ret_T {M : Nat → Prop} {mo q : Int} {s : RT} {w w2 : World} {A B : Option Addr} {c d : Nat} {x : Value} (hA : Rd w2 (MM M w.heap.size (w.heap.size + 2)) A (ints s.L)) (hB : Rd w2 (MM M w.heap.size (w.heap.size + 2)) B (ones s.l)) (hc : s.L.length ≤ c) (hb : Below w.heap.size w w2) (v0 v1 v2 v3 v4 v5 : Value) :
    RetT M mo q s x w (.returned (.tuple #[.agg #[.slice A s.L.length c, .int .i64 mo, .int .i64 q, .slice B s.l.length d, .int .i64 s.who, .int .i64 s.done], x])) (six w2 (w.heap.size + 1) v0 v1 v2 v3 v4 v5) :=
  ⟨A, c, B, d, rfl, (six_rd hA (Or.inr (by omega)) _ _ _ _ _ _).narrow, (six_rd hB (Or.inr (by omega)) _ _ _ _ _ _).narrow, hc, six_below hb (by omega) _ _ _ _ _ _⟩
/-- .. where nothing was called -/
theorem ret_T0 {M : Nat → Prop} {mo q : Int} {s : RT} {w : World} {A B : Option Addr} {c d : Nat} {x : Value} (hA : Rd w M A (ints s.L)) (hB : Rd w M B (ones s.l)) (hc : s.L.length ≤ c) (o1 o2 : Obj) :
    RetT M mo q s x w (.returned (.tuple #[.agg #[.slice A s.L.length c, .int .i64 mo, .int .i64 q, .slice B s.l.length d, .int .i64 s.who, .int .i64 s.done], x])) ((w.alloc o1).alloc o2) :=
  have hb : Below w.heap.size w ((w.alloc o1).alloc o2) := ((Below.refl _ _).alloc (Nat.le_refl _) _).alloc (by simp) _
  ⟨A, c, B, d, rfl, hA.below hb, hB.below hb, hc, hb⟩
theorem rd3 {w : World} {M : Nat → Prop} {A : Option Addr} {xs : List Value} {g : Nat} (h : Rd w M A xs) (hg : M g) (i j k : Nat) (a b c : Value) : Rd (((w.setCell ⟨g, i, none⟩ a).setCell ⟨g, j, none⟩ b).setCell ⟨g, k, none⟩ c) M A xs :=
  ((h.set_ (p := ⟨g, i, none⟩) hg _).set_ (p := ⟨g, j, none⟩) hg _).set_ (p := ⟨g, k, none⟩) hg _
theorem below3 {B : Nat} {w0 w : World} {g : Nat} (h : Below B w0 w) (hg : B ≤ g) (i j k : Nat) (a b c : Value) : Below B w0 (((w.setCell ⟨g, i, none⟩ a).setCell ⟨g, j, none⟩ b).setCell ⟨g, k, none⟩ c) :=
  ((h.setCell (p := ⟨g, i, none⟩) hg _).setCell (p := ⟨g, j, none⟩) hg _).setCell (p := ⟨g, k, none⟩) hg _
theorem mm0 {M : Nat → Prop} (n : Nat) : MM M n (n + 2) n := Or.inr (by omega)
def RetT1 (mo q : Int) (w : World) (e : Ending) (w' : World) : Prop :=
  ∃ B d, e = .returned (.agg #[.slice none 0 0, .int .i64 mo, .int .i64 q, .slice B 0 d, .int .i64 (-1), .int .i64 0]) ∧ Below w.heap.size w w'
theorem TRNew_c (most q : Int) (w : World) :
    Calls Try.prog 71 #[.int .i64 most, .int .i64 q] w (RetT1 (within most 1 1024) (within q 1 1000000) w) := by
  obtain ⟨W, hW⟩ : ∃ W, W = w.alloc (.cells #[.slice none 0 0, .int .i64 0, .int .i64 0, .slice none 0 0, .int .i64 0, .int .i64 0] 102) := ⟨_, rfl⟩
  have hB : Blk W w.heap.size 102 #[.slice none 0 0, .int .i64 0, .int .i64 0, .slice none 0 0, .int .i64 0, .int .i64 0] := by rw [hW]; exact Blk.new w _ _
  have hwW : Below w.heap.size w W := by rw [hW]; exact (Below.refl _ _).alloc (Nat.le_refl _) _
  have HW := hide hW
  clear hW
  go_enter Try.func71, Try.ntmps71
  go_wp2_with fail
  rw [← HW.out]
  refine (PNew_c (fun _ => False) most q W).mono ?_
  rintro e w1 ⟨A1, c1, rfl, hR1, hb1⟩
  obtain ⟨⟨z0, z1, z2, z3, z4, z5⟩, f0, f1, f2, f3, f4, f5⟩ := (hB.below hb1).six
  have hb := hide (six_below (hwW.trans (hb1.mono hwW.size)) (Nat.le_refl _) (.slice none 0 0) (.int .i64 (within most 1 1024)) (.int .i64 (within q 1 1000000)) (.slice A1 0 c1) (.int .i64 (-1)) (.int .i64 0))
  clear hB hb1 hR1 hwW
  go_wp2_with fail
  refine bodyPost_ret (v := .agg #[.slice none 0 0, .int .i64 (within most 1 1024), .int .i64 (within q 1 1000000), .slice A1 0 c1, .int .i64 (-1), .int .i64 0]) (by simp [results, Try.results71, go_sem, z0, z1, z2, z3, z4, z5]) rfl ?_
  exact ⟨A1, c1, rfl, hb.out⟩
section
variable (M : Nat → Prop) (mo q : Int) (A : Option Addr) (c : Nat) (B : Option Addr) (d : Nat) (s : RT) (w : World)
  (hA : Rd w M A (ints s.L)) (hB : Rd w M B (ones s.l)) (hM : ∀ k, M k → k < w.heap.size) (hc : s.L.length ≤ c) (hn : s.L.length ≤ 100000) (hl : SmallL s.l) (hq : SmallQ q)
include hA hB hM hc hn
def RT.wake (s : RT) (mo id : Int) : RT := if 0 ≤ s.who ∧ id = s.who then s else { s with L := pushI mo s.L id }
def RT.wakes (s : RT) (mo id : Int) : Bool := if 0 ≤ s.who ∧ id = s.who then false else comesI mo s.L id
set_option maxHeartbeats 800000 in
theorem TRWake_c (id : Int) :
    Calls Try.prog 72 #[.agg #[.slice A s.L.length c, .int .i64 mo, .int .i64 q, .slice B s.l.length d, .int .i64 s.who, .int .i64 s.done], .int .i64 id] w (RetT M mo q (s.wake mo id) (.bool (s.wakes mo id)) w) := by
  obtain ⟨L, l, who, done⟩ := s
  simp only at hA hB hc hn ⊢
  obtain ⟨W, HW, hB0, hB1, hwW, hRA, hRB, hM2⟩ := boxedT M (.slice A L.length c) (.int .i64 mo) (.int .i64 q) (.slice B l.length d) (.int .i64 who) (.int .i64 done) A (ints L) B (ones l) w hA hB hM
  have HM := hide hM2
  have HRA := hide hRA
  have HRB := hide hRB
  clear hM hM2 hRA hRB
  obtain ⟨⟨x0, x1, x2, x3, x4, x5⟩, g0, g1, g2, g3, g4, g5⟩ := hB0.six
  obtain ⟨⟨z0, z1, z2, z3, z4, z5⟩, f0, f1, f2, f3, f4, f5⟩ := hB1.six
  by_cases h : 0 ≤ who ∧ id = who
  · obtain ⟨h0, rfl⟩ := h
    have e1 : RT.wake ⟨L, l, id, done⟩ mo id = ⟨L, l, id, done⟩ := if_pos ⟨h0, rfl⟩
    have e2 : RT.wakes ⟨L, l, id, done⟩ mo id = false := if_pos ⟨h0, rfl⟩
    rw [e1, e2]
    have R := hide (ret_T0 (M := M) (mo := mo) (q := q) (s := ⟨L, l, id, done⟩) (d := d) (x := .bool false) hA hB hc)
    clear e1 e2 hA hB
    go_enter Try.func72, Try.ntmps72
    go_wp2_with fail
    refine bodyPost_ret (v := .tuple #[.agg #[.slice A L.length c, .int .i64 mo, .int .i64 q, .slice B l.length d, .int .i64 id, .int .i64 done], .bool false]) (by simp [results, Try.results72, go_sem]) rfl ?_
    exact R.out _ _
  · have e1 : RT.wake ⟨L, l, who, done⟩ mo id = ⟨pushI mo L id, l, who, done⟩ := if_neg h
    have e2 : RT.wakes ⟨L, l, who, done⟩ mo id = comesI mo L id := if_neg h
    clear hA hB
    by_cases h0 : 0 ≤ who
    · have hb1 : (id == who) = false := by simp; omega
      clear h
      rw [e1, e2]
      clear e1 e2
      go_enter Try.func72, Try.ntmps72
      go_wp2_with fail
      rw [← HW.out]
      refine (PushI_c (MM M w.heap.size (w.heap.size + 2)) id A c L W HRA.out hn mo hc HM.out).mono ?_
      rintro e w1 ⟨A1, c1, rfl, hR1, hb1, hc1⟩
      obtain ⟨⟨x0, x1, x2, x3, x4, x5⟩, g0, g1, g2, g3, g4, g5⟩ := (hB0.below hb1).six
      obtain ⟨⟨z0, z1, z2, z3, z4, z5⟩, f0, f1, f2, f3, f4, f5⟩ := (hB1.below hb1).six
      have R := hide (ret_T (M := M) (mo := mo) (q := q) (s := ⟨pushI mo L id, l, who, done⟩) (d := d) (x := .bool (comesI mo L id)) (hR1.set_ (p := ⟨w.heap.size, 0, none⟩) (Or.inr (by show w.heap.size ≤ w.heap.size ∧ w.heap.size < _; omega)) (.slice A1 (pushI mo L id).length c1)) ((HRB.out.below hb1).set_ (p := ⟨w.heap.size, 0, none⟩) (Or.inr (by show w.heap.size ≤ w.heap.size ∧ w.heap.size < _; omega)) (.slice A1 (pushI mo L id).length c1)) hc1 ((hwW.trans (hb1.mono hwW.size)).setCell (p := ⟨w.heap.size, 0, none⟩) (Nat.le_refl _) (.slice A1 (pushI mo L id).length c1)) (.slice A1 (pushI mo L id).length c1) (.int .i64 mo) (.int .i64 q) (.slice B l.length d) (.int .i64 who) (.int .i64 done))
      clear hR1 hB0 hB1 hb1
      go_wp2_with fail
      refine bodyPost_ret (v := .tuple #[.agg #[.slice A1 (pushI mo L id).length c1, .int .i64 mo, .int .i64 q, .slice B l.length d, .int .i64 who, .int .i64 done], .bool (comesI mo L id)]) (by simp [results, Try.results72, go_sem, z0, z1, z2, z3, z4, z5]) rfl ?_
      exact R.out
    · have hb1 : decide (0 ≤ who) = false := by simp; omega
      clear h h0
      rw [e1, e2]
      clear e1 e2
      go_enter Try.func72, Try.ntmps72
      go_wp2_with fail
      rw [← HW.out]
      refine (PushI_c (MM M w.heap.size (w.heap.size + 2)) id A c L W HRA.out hn mo hc HM.out).mono ?_
      rintro e w1 ⟨A1, c1, rfl, hR1, hb1, hc1⟩
      obtain ⟨⟨x0, x1, x2, x3, x4, x5⟩, g0, g1, g2, g3, g4, g5⟩ := (hB0.below hb1).six
      obtain ⟨⟨z0, z1, z2, z3, z4, z5⟩, f0, f1, f2, f3, f4, f5⟩ := (hB1.below hb1).six
      have R := hide (ret_T (M := M) (mo := mo) (q := q) (s := ⟨pushI mo L id, l, who, done⟩) (d := d) (x := .bool (comesI mo L id)) (hR1.set_ (p := ⟨w.heap.size, 0, none⟩) (Or.inr (by show w.heap.size ≤ w.heap.size ∧ w.heap.size < _; omega)) (.slice A1 (pushI mo L id).length c1)) ((HRB.out.below hb1).set_ (p := ⟨w.heap.size, 0, none⟩) (Or.inr (by show w.heap.size ≤ w.heap.size ∧ w.heap.size < _; omega)) (.slice A1 (pushI mo L id).length c1)) hc1 ((hwW.trans (hb1.mono hwW.size)).setCell (p := ⟨w.heap.size, 0, none⟩) (Nat.le_refl _) (.slice A1 (pushI mo L id).length c1)) (.slice A1 (pushI mo L id).length c1) (.int .i64 mo) (.int .i64 q) (.slice B l.length d) (.int .i64 who) (.int .i64 done))
      clear hR1 hB0 hB1 hb1
      go_wp2_with fail
      refine bodyPost_ret (v := .tuple #[.agg #[.slice A1 (pushI mo L id).length c1, .int .i64 mo, .int .i64 q, .slice B l.length d, .int .i64 who, .int .i64 done], .bool (comesI mo L id)]) (by simp [results, Try.results72, go_sem, z0, z1, z2, z3, z4, z5]) rfl ?_
      exact R.out
include hl
def RT.pay (s : RT) (mo price : Int) : RT := if s.who < 0 then s else { s with l := payL mo s.l s.who price }
def RT.pays (s : RT) (mo price : Int) : Bool := if s.who < 0 then false else canL mo s.l s.who price
set_option maxHeartbeats 800000 in
theorem TRPay_c (price : Int) :
    Calls Try.prog 74 #[.agg #[.slice A s.L.length c, .int .i64 mo, .int .i64 q, .slice B s.l.length d, .int .i64 s.who, .int .i64 s.done], .int .i64 price] w (RetT M mo q (s.pay mo price) (.bool (s.pays mo price)) w) := by
  obtain ⟨L, l, who, done⟩ := s
  simp only at hA hB hc hn hl ⊢
  obtain ⟨W, HW, hB0, hB1, hwW, hRA, hRB, hM2⟩ := boxedT M (.slice A L.length c) (.int .i64 mo) (.int .i64 q) (.slice B l.length d) (.int .i64 who) (.int .i64 done) A (ints L) B (ones l) w hA hB hM
  have HM := hide hM2
  have HRA := hide hRA
  have HRB := hide hRB
  clear hM hM2 hRA hRB
  obtain ⟨⟨x0, x1, x2, x3, x4, x5⟩, g0, g1, g2, g3, g4, g5⟩ := hB0.six
  obtain ⟨⟨z0, z1, z2, z3, z4, z5⟩, f0, f1, f2, f3, f4, f5⟩ := hB1.six
  by_cases h : who < 0
  · have e1 : RT.pay ⟨L, l, who, done⟩ mo price = ⟨L, l, who, done⟩ := if_pos h
    have e2 : RT.pays ⟨L, l, who, done⟩ mo price = false := if_pos h
    rw [e1, e2]
    have R := hide (ret_T0 (M := M) (mo := mo) (q := q) (s := ⟨L, l, who, done⟩) (d := d) (x := .bool false) hA hB hc)
    clear e1 e2 hA hB
    go_enter Try.func74, Try.ntmps74
    go_wp2_with fail
    refine bodyPost_ret (v := .tuple #[.agg #[.slice A L.length c, .int .i64 mo, .int .i64 q, .slice B l.length d, .int .i64 who, .int .i64 done], .bool false]) (by simp [results, Try.results74, go_sem]) rfl ?_
    exact R.out _ _
  · have e1 : RT.pay ⟨L, l, who, done⟩ mo price = ⟨L, payL mo l who price, who, done⟩ := if_neg h
    have e2 : RT.pays ⟨L, l, who, done⟩ mo price = canL mo l who price := if_neg h
    rw [e1, e2]
    clear e1 e2 hA hB
    have hd0 : decide (who < 0) = false := by simp; omega
    clear h
    go_enter Try.func74, Try.ntmps74
    go_wp2_with fail
    rw [← HW.out]
    refine (PPay_c (MM M w.heap.size (w.heap.size + 2)) mo q who price B d l W HRB.out HM.out hl).mono ?_
    rintro e w1 ⟨A1, c1, rfl, hR1, hb1⟩
    obtain ⟨⟨x0, x1, x2, x3, x4, x5⟩, g0, g1, g2, g3, g4, g5⟩ := (hB0.below hb1).six
    obtain ⟨⟨z0, z1, z2, z3, z4, z5⟩, f0, f1, f2, f3, f4, f5⟩ := (hB1.below hb1).six
    have R := hide (ret_T (M := M) (mo := mo) (q := q) (s := ⟨L, payL mo l who price, who, done⟩) (d := c1) (x := .bool (canL mo l who price)) (rd3 (HRA.out.below hb1) (mm0 _) 1 2 3 (.int .i64 mo) (.int .i64 q) (.slice A1 (payL mo l who price).length c1)) (rd3 hR1 (mm0 _) 1 2 3 (.int .i64 mo) (.int .i64 q) (.slice A1 (payL mo l who price).length c1)) hc (below3 (hwW.trans (hb1.mono hwW.size)) (Nat.le_refl _) 1 2 3 (.int .i64 mo) (.int .i64 q) (.slice A1 (payL mo l who price).length c1)) (.slice A L.length c) (.int .i64 mo) (.int .i64 q) (.slice A1 (payL mo l who price).length c1) (.int .i64 who) (.int .i64 done))
    clear hR1 hB0 hB1 hb1
    go_wp2_with fail
    refine bodyPost_ret (v := .tuple #[.agg #[.slice A L.length c, .int .i64 mo, .int .i64 q, .slice A1 (payL mo l who price).length c1, .int .i64 who, .int .i64 done], .bool (canL mo l who price)]) (by simp [results, Try.results74, go_sem, z0, z1, z2, z3, z4, z5]) rfl ?_
    exact R.out
def RT.end_ (s : RT) (mo : Int) (again : Bool) : RT := if s.who < 0 then s else if again then ⟨pushI mo s.L s.who, s.l, -1, s.done⟩ else ⟨s.L, setL mo s.l s.who 0, -1, s.done⟩
def RT.ends (s : RT) : Bool := if s.who < 0 then false else true
set_option maxHeartbeats 800000 in
theorem TREnd_c (again : Bool) :
    Calls Try.prog 75 #[.agg #[.slice A s.L.length c, .int .i64 mo, .int .i64 q, .slice B s.l.length d, .int .i64 s.who, .int .i64 s.done], .bool again] w (RetT M mo q (s.end_ mo again) (.bool s.ends) w) := by
  obtain ⟨L, l, who, done⟩ := s
  simp only at hA hB hc hn hl ⊢
  obtain ⟨W, HW, hB0, hB1, hwW, hRA, hRB, hM2⟩ := boxedT M (.slice A L.length c) (.int .i64 mo) (.int .i64 q) (.slice B l.length d) (.int .i64 who) (.int .i64 done) A (ints L) B (ones l) w hA hB hM
  have HM := hide hM2
  have HRA := hide hRA
  have HRB := hide hRB
  clear hM hM2 hRA hRB
  obtain ⟨⟨x0, x1, x2, x3, x4, x5⟩, g0, g1, g2, g3, g4, g5⟩ := hB0.six
  obtain ⟨⟨z0, z1, z2, z3, z4, z5⟩, f0, f1, f2, f3, f4, f5⟩ := hB1.six
  by_cases h : who < 0
  · have e1 : RT.end_ ⟨L, l, who, done⟩ mo again = ⟨L, l, who, done⟩ := if_pos h
    have e2 : RT.ends ⟨L, l, who, done⟩ = false := if_pos h
    rw [e1, e2]
    have R := hide (ret_T0 (M := M) (mo := mo) (q := q) (s := ⟨L, l, who, done⟩) (d := d) (x := .bool false) hA hB hc)
    clear e1 e2 hA hB
    go_enter Try.func75, Try.ntmps75
    go_wp2_with fail
    refine bodyPost_ret (v := .tuple #[.agg #[.slice A L.length c, .int .i64 mo, .int .i64 q, .slice B l.length d, .int .i64 who, .int .i64 done], .bool false]) (by simp [results, Try.results75, go_sem]) rfl ?_
    exact R.out _ _
  · have e2 : RT.ends ⟨L, l, who, done⟩ = true := if_neg h
    have hd0 : decide (who < 0) = false := by simp; omega
    cases again with
    | true =>
      have e1 : RT.end_ ⟨L, l, who, done⟩ mo true = ⟨pushI mo L who, l, -1, done⟩ := if_neg h
      rw [e1, e2]
      clear e1 e2 hA hB h
      go_enter Try.func75, Try.ntmps75
      go_wp2_with fail
      rw [← HW.out]
      refine (PushI_c (MM M w.heap.size (w.heap.size + 2)) who A c L W HRA.out hn mo hc HM.out).mono ?_
      rintro e w1 ⟨A1, c1, rfl, hR1, hb1, hc1⟩
      obtain ⟨⟨x0, x1, x2, x3, x4, x5⟩, g0, g1, g2, g3, g4, g5⟩ := (hB0.below hb1).six
      obtain ⟨⟨z0, z1, z2, z3, z4, z5⟩, f0, f1, f2, f3, f4, f5⟩ := (hB1.below hb1).six
      have R := hide (ret_T (M := M) (mo := mo) (q := q) (s := ⟨pushI mo L who, l, -1, done⟩) (d := d) (x := .bool true) ((hR1.set_ (p := ⟨w.heap.size, 0, none⟩) (mm0 _) (.slice A1 (pushI mo L who).length c1)).set_ (p := ⟨w.heap.size, 4, none⟩) (mm0 _) (.int .i64 (-1))) (((HRB.out.below hb1).set_ (p := ⟨w.heap.size, 0, none⟩) (mm0 _) (.slice A1 (pushI mo L who).length c1)).set_ (p := ⟨w.heap.size, 4, none⟩) (mm0 _) (.int .i64 (-1))) hc1 (((hwW.trans (hb1.mono hwW.size)).setCell (p := ⟨w.heap.size, 0, none⟩) (Nat.le_refl _) (.slice A1 (pushI mo L who).length c1)).setCell (p := ⟨w.heap.size, 4, none⟩) (Nat.le_refl _) (.int .i64 (-1))) (.slice A1 (pushI mo L who).length c1) (.int .i64 mo) (.int .i64 q) (.slice B l.length d) (.int .i64 (-1)) (.int .i64 done))
      clear hR1 hB0 hB1 hb1
      go_wp2_with fail
      refine bodyPost_ret (v := .tuple #[.agg #[.slice A1 (pushI mo L who).length c1, .int .i64 mo, .int .i64 q, .slice B l.length d, .int .i64 (-1), .int .i64 done], .bool true]) (by simp [results, Try.results75, go_sem, z0, z1, z2, z3, z4, z5]) rfl ?_
      exact R.out
    | false =>
      have e1 : RT.end_ ⟨L, l, who, done⟩ mo false = ⟨L, setL mo l who 0, -1, done⟩ := if_neg h
      rw [e1, e2]
      clear e1 e2 hA hB h
      go_enter Try.func75, Try.ntmps75
      go_wp2_with fail
      rw [← HW.out]
      refine (PClear_c (MM M w.heap.size (w.heap.size + 2)) mo q who B d l W HRB.out HM.out hl).mono ?_
      rintro e w1 ⟨A1, c1, rfl, hR1, hb1⟩
      obtain ⟨⟨x0, x1, x2, x3, x4, x5⟩, g0, g1, g2, g3, g4, g5⟩ := (hB0.below hb1).six
      obtain ⟨⟨z0, z1, z2, z3, z4, z5⟩, f0, f1, f2, f3, f4, f5⟩ := (hB1.below hb1).six
      have R := hide (ret_T (M := M) (mo := mo) (q := q) (s := ⟨L, setL mo l who 0, -1, done⟩) (d := c1) (x := .bool true) ((rd3 (HRA.out.below hb1) (mm0 _) 1 2 3 (.int .i64 mo) (.int .i64 q) (.slice A1 (setL mo l who 0).length c1)).set_ (p := ⟨w.heap.size, 4, none⟩) (mm0 _) (.int .i64 (-1))) ((rd3 hR1 (mm0 _) 1 2 3 (.int .i64 mo) (.int .i64 q) (.slice A1 (setL mo l who 0).length c1)).set_ (p := ⟨w.heap.size, 4, none⟩) (mm0 _) (.int .i64 (-1))) hc ((below3 (hwW.trans (hb1.mono hwW.size)) (Nat.le_refl _) 1 2 3 (.int .i64 mo) (.int .i64 q) (.slice A1 (setL mo l who 0).length c1)).setCell (p := ⟨w.heap.size, 4, none⟩) (Nat.le_refl _) (.int .i64 (-1))) (.slice A L.length c) (.int .i64 mo) (.int .i64 q) (.slice A1 (setL mo l who 0).length c1) (.int .i64 (-1)) (.int .i64 done))
      clear hR1 hB0 hB1 hb1
      go_wp2_with fail
      refine bodyPost_ret (v := .tuple #[.agg #[.slice A L.length c, .int .i64 mo, .int .i64 q, .slice A1 (setL mo l who 0).length c1, .int .i64 (-1), .int .i64 done], .bool true]) (by simp [results, Try.results75, go_sem, z0, z1, z2, z3, z4, z5]) rfl ?_
      exact R.out
end
end Go.Proofs.Ytmkbhejbbhikcaa
