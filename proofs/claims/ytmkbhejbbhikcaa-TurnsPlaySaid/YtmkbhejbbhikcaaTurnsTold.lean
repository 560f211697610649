/- told of turns. Conditions: those of each theorem. -/
import Derived.Test.YtmkbhejbbhikcaaTurnsPlayP
import Derived.Test.YtmkbhejbbhikcaaActs
import Derived.Deep.DeepCutAuto
import Derived.Deep.CutBlock
namespace Go.Proofs.Ytmkbhejbbhikcaa
open Go.RowKit
set_option linter.unusedVariables false

def QM (p : TP) (g : Nat) : Nat → Prop := fun i => p.all i ∨ i = g
/-- turns here and the reference's, boxed, there -/
structure TT (w : World) (p : TP) (N : Nat) (mo q : Int) (A : Option Addr) (c : Nat) (B : Option Addr) (d : Nat) (s : TS) (l : List (Int × Int)) (g : Nat) : Prop where
  t : TurnsAt w p N s
  a : Rd w (QM p g) A (ints s.L)
  b : Rd w (QM p g) B (ones l)
  x : Blk w g 102 #[.slice A s.L.length c, .int .i64 mo, .int .i64 q, .slice B l.length d, .int .i64 s.who, .int .i64 s.done]
section
variable {w : World} {p : TP} {N : Nat} {mo q : Int} {A : Option Addr} {c : Nat} {B : Option Addr} {d : Nat} {s : TS} {l : List (Int × Int)} {g : Nat}
theorem TT.below {w' : World} (h : TT w p N mo q A c B d s l g) (k : Below w.heap.size w w') : TT w' p N mo q A c B d s l g :=
  ⟨h.t.only0 (Only.of_below k NoBlk), h.a.below k, h.b.below k, h.x.below k⟩
theorem TT.onl {w' : World} (h : TT w p N mo q A c B d s l g) (k : Only NoBlk w w') : TT w' p N mo q A c B d s l g :=
  ⟨h.t.only0 k, h.a.only k (fun _ h => h.elim), h.b.only k (fun _ h => h.elim), h.x.only k (fun h => h)⟩
theorem TT.lt (h : TT w p N mo q A c B d s l g) : ∀ k, QM p g k → k < w.heap.size := by
  intro k hk
  rcases hk with hk | rfl
  · exact h.t.lt k hk
  · exact h.x.lt
theorem TT.cells (h : TT w p N mo q A c B d s l g) : w.cell? ⟨g, 0, none⟩ = some (.slice A s.L.length c) ∧ w.cell? ⟨g, 1, none⟩ = some (.int .i64 mo) ∧ w.cell? ⟨g, 2, none⟩ = some (.int .i64 q) ∧ w.cell? ⟨g, 3, none⟩ = some (.slice B l.length d) ∧ w.cell? ⟨g, 4, none⟩ = some (.int .i64 s.who) ∧ w.cell? ⟨g, 5, none⟩ = some (.int .i64 s.done) := h.x.six.1
set_option maxRecDepth 100000 in
set_option maxHeartbeats 1600000 in
theorem ttold_c (ask : Int) (M : Nat → Prop) (hM : ∀ k, p.all k → M k) (ht : TurnsAt w p N s) (hA : Rd w M A (ints s.L)) (hB : Rd w M B (ones l)) (hp : PRel s.m mo q l) :
    Calls Try.prog 78 #[.pointer (some ⟨p.t, 0, none⟩), .agg #[.slice A s.L.length c, .int .i64 mo, .int .i64 q, .slice B l.length d, .int .i64 s.who, .int .i64 s.done], .int .i64 ask] w fun e w' => e = .returned (.bool true) ∧ Only NoBlk w w' := by
  have hfew := ht.row.few
  have hn : s.L.length ≤ 100000 := by omega
  have hw := ht.who
  have hl := hp.small.1.1
  have Hhas := hide (hp.has ask)
  have Hwt := hide (waits_eq (l := l) hw ask)
  obtain ⟨g, hg⟩ : ∃ g, g = w.heap.size := ⟨_, rfl⟩
  obtain ⟨W, hW⟩ : ∃ W, W = w.alloc (.cells #[.slice A s.L.length c, .int .i64 mo, .int .i64 q, .slice B l.length d, .int .i64 s.who, .int .i64 s.done] 102) := ⟨_, rfl⟩
  have hwW : Below w.heap.size w W := by rw [hW]; exact (Below.refl _ _).alloc (Nat.le_refl _) _
  have hTT : TT W p N mo q A c B d s l g := by
    refine ⟨ht.only0 (Only.of_below hwW NoBlk), ?_, ?_, by rw [hW, hg]; exact Blk.new _ _ _⟩
    · have := (hA.wide (w.heap.size + 1)).below hwW
      exact this.mono fun k hk => by
        rcases hk with hk | rfl
        · exact Or.inl (hM k hk)
        · exact Or.inr (by omega)
    · have := (hB.wide (w.heap.size + 1)).below hwW
      exact this.mono fun k hk => by
        rcases hk with hk | rfl
        · exact Or.inl (hM k hk)
        · exact Or.inr (by omega)
  have HW := hide hW
  have HT := hide hTT
  have HwW := hide hwW
  have Hg := hide hg
  clear hW hTT hwW ht hA hB hM hp hfew hg
  obtain ⟨x0, x1, x2, x3, x4, x5⟩ := HT.out.cells
  by_cases h1 : s.who = -1
  · have HO := hide (show s.wout = .returned (.tuple #[.int .i64 0, .bool false]) by unfold TS.wout; rw [if_pos h1, h1]; rfl)
    have HE := hide h1
    have hd0 : decide (0 ≤ s.who) = false := by rw [h1]; decide
    clear h1
    go_enter Try.func78, Try.ntmps78
    go_wp2_with fail
    rw [← HW.out, ← Hg.out]
    refine (Whose_c HT.out.t).mono ?_
    rw [HO.out]
    rintro e w1 ⟨rfl, rfl⟩
    go_wp2_with fail
    have tt0_ : TT W.drew p N mo q A c B d s l g := HT.out.onl ((Only.refl NoBlk W).drew)
    have tb0_ : Only NoBlk w W.drew := (Only.of_below HwW.out NoBlk).drew
    obtain ⟨y0_, y1_, y2_, y3_, y4_, y5_⟩ := tt0_.cells
    go_region_held3 (fun w' => w'.cell? ⟨g, 0, none⟩ = some (.slice A s.L.length c) ∧ w'.cell? ⟨g, 1, none⟩ = some (.int .i64 mo) ∧ w'.cell? ⟨g, 2, none⟩ = some (.int .i64 q) ∧ w'.cell? ⟨g, 3, none⟩ = some (.slice B l.length d) ∧ w'.cell? ⟨g, 4, none⟩ = some (.int .i64 s.who) ∧ w'.cell? ⟨g, 5, none⟩ = some (.int .i64 s.done)) (go_keep)
      (first
        | (go_at_call 82
           refine (TList_c (QM p g) tt0_.lt tt0_.t).mono ?_
           rintro e w5 ⟨A5, c5, rfl, r5_, hb5, _⟩
           have tt_ : TT w5 p N mo q A c B d s l g := TT.below (by assumption) hb5
           have tc_ := tt_.cells
           obtain ⟨t0_, t1_, t2_, t3_, t4_, t5_⟩ := tc_
           have tb_ : Only NoBlk w w5 := Only.trans (by assumption) (Only.of_below hb5 NoBlk))
        | (go_at_call 53
           refine (Same_c (QM p g) (QM p g) A5 A c5 c s.L s.L _ r5_ (TT.a (by assumption)) hn).mono ?_
           rw [decide_eq_true rfl]
           rintro e w5 ⟨rfl, hb5⟩
           have tt_ : TT w5 p N mo q A c B d s l g := TT.below (by assumption) hb5
           have tc_ := tt_.cells
           obtain ⟨t0_, t1_, t2_, t3_, t4_, t5_⟩ := tc_
           have tb_ : Only NoBlk w w5 := Only.trans (by assumption) (Only.of_below hb5 NoBlk))
        | (go_at_call 83
           refine (Done_c (TT.t (s := s) (mo := mo) (q := q) (A := A) (c := c) (B := B) (d := d) (l := l) (g := g) (by assumption))).mono ?_
           rintro e w5 ⟨rfl, rfl⟩)
        | (go_at_call 80
           refine (THas_c ask (TT.t (s := s) (mo := mo) (q := q) (A := A) (c := c) (B := B) (d := d) (l := l) (g := g) (by assumption))).mono ?_
           rw [Hhas.out]
           rintro e w5 ⟨rfl, rfl⟩)
        | (go_at_call 28
           refine (PHas_c (QM p g) mo q ask B d l _ (TT.b (by assumption)) hl).mono ?_
           rintro e w5 ⟨rfl, hb5⟩
           have tt_ : TT w5 p N mo q A c B d s l g := TT.below (by assumption) hb5
           have tc_ := tt_.cells
           obtain ⟨t0_, t1_, t2_, t3_, t4_, t5_⟩ := tc_
           have tb_ : Only NoBlk w w5 := Only.trans (by assumption) (Only.of_below hb5 NoBlk))
        | (go_at_call 81
           refine (Waits_c ask (TT.t (s := s) (mo := mo) (q := q) (A := A) (c := c) (B := B) (d := d) (l := l) (g := g) (by assumption))).mono ?_
           rw [← Hwt.out]
           rintro e w5 ⟨rfl, ho5⟩
           have tt_ : TT w5 p N mo q A c B d s l g := TT.onl (by assumption) ho5
           have tc_ := tt_.cells
           obtain ⟨t0_, t1_, t2_, t3_, t4_, t5_⟩ := tc_
           have tb_ : Only NoBlk w w5 := Only.trans (by assumption) ho5)
        | (go_at_call 93
           refine (TRWaits_c (QM p g) mo q A c B d (RT.of s l) _ (TT.a (by assumption)) hn ask).mono ?_
           rintro e w5 ⟨rfl, hb5⟩
           have tt_ : TT w5 p N mo q A c B d s l g := TT.below (by assumption) hb5
           have tc_ := tt_.cells
           obtain ⟨t0_, t1_, t2_, t3_, t4_, t5_⟩ := tc_
           have tb_ : Only NoBlk w w5 := Only.trans (by assumption) (Only.of_below hb5 NoBlk)))
    go_wp2_with fail
    go_ret
    exact ⟨rfl, by assumption⟩
  · have HO := hide (show s.wout = .returned (.tuple #[.int .i64 s.who, .bool true]) by unfold TS.wout; rw [if_neg h1]; simp [h1])
    have hd0 : decide (0 ≤ s.who) = true := by simp; omega
    clear h1
    go_enter Try.func78, Try.ntmps78
    go_wp2_with fail
    rw [← HW.out, ← Hg.out]
    refine (Whose_c HT.out.t).mono ?_
    rw [HO.out]
    rintro e w1 ⟨rfl, rfl⟩
    go_wp2_with fail
    have tt0_ : TT W.drew p N mo q A c B d s l g := HT.out.onl ((Only.refl NoBlk W).drew)
    have tb0_ : Only NoBlk w W.drew := (Only.of_below HwW.out NoBlk).drew
    obtain ⟨y0_, y1_, y2_, y3_, y4_, y5_⟩ := tt0_.cells
    go_region_held3 (fun w' => w'.cell? ⟨g, 0, none⟩ = some (.slice A s.L.length c) ∧ w'.cell? ⟨g, 1, none⟩ = some (.int .i64 mo) ∧ w'.cell? ⟨g, 2, none⟩ = some (.int .i64 q) ∧ w'.cell? ⟨g, 3, none⟩ = some (.slice B l.length d) ∧ w'.cell? ⟨g, 4, none⟩ = some (.int .i64 s.who) ∧ w'.cell? ⟨g, 5, none⟩ = some (.int .i64 s.done)) (go_keep)
      (first
        | (go_at_call 82
           refine (TList_c (QM p g) tt0_.lt tt0_.t).mono ?_
           rintro e w5 ⟨A5, c5, rfl, r5_, hb5, _⟩
           have tt_ : TT w5 p N mo q A c B d s l g := TT.below (by assumption) hb5
           have tc_ := tt_.cells
           obtain ⟨t0_, t1_, t2_, t3_, t4_, t5_⟩ := tc_
           have tb_ : Only NoBlk w w5 := Only.trans (by assumption) (Only.of_below hb5 NoBlk))
        | (go_at_call 53
           refine (Same_c (QM p g) (QM p g) A5 A c5 c s.L s.L _ r5_ (TT.a (by assumption)) hn).mono ?_
           rw [decide_eq_true rfl]
           rintro e w5 ⟨rfl, hb5⟩
           have tt_ : TT w5 p N mo q A c B d s l g := TT.below (by assumption) hb5
           have tc_ := tt_.cells
           obtain ⟨t0_, t1_, t2_, t3_, t4_, t5_⟩ := tc_
           have tb_ : Only NoBlk w w5 := Only.trans (by assumption) (Only.of_below hb5 NoBlk))
        | (go_at_call 83
           refine (Done_c (TT.t (s := s) (mo := mo) (q := q) (A := A) (c := c) (B := B) (d := d) (l := l) (g := g) (by assumption))).mono ?_
           rintro e w5 ⟨rfl, rfl⟩)
        | (go_at_call 80
           refine (THas_c ask (TT.t (s := s) (mo := mo) (q := q) (A := A) (c := c) (B := B) (d := d) (l := l) (g := g) (by assumption))).mono ?_
           rw [Hhas.out]
           rintro e w5 ⟨rfl, rfl⟩)
        | (go_at_call 28
           refine (PHas_c (QM p g) mo q ask B d l _ (TT.b (by assumption)) hl).mono ?_
           rintro e w5 ⟨rfl, hb5⟩
           have tt_ : TT w5 p N mo q A c B d s l g := TT.below (by assumption) hb5
           have tc_ := tt_.cells
           obtain ⟨t0_, t1_, t2_, t3_, t4_, t5_⟩ := tc_
           have tb_ : Only NoBlk w w5 := Only.trans (by assumption) (Only.of_below hb5 NoBlk))
        | (go_at_call 81
           refine (Waits_c ask (TT.t (s := s) (mo := mo) (q := q) (A := A) (c := c) (B := B) (d := d) (l := l) (g := g) (by assumption))).mono ?_
           rw [← Hwt.out]
           rintro e w5 ⟨rfl, ho5⟩
           have tt_ : TT w5 p N mo q A c B d s l g := TT.onl (by assumption) ho5
           have tc_ := tt_.cells
           obtain ⟨t0_, t1_, t2_, t3_, t4_, t5_⟩ := tc_
           have tb_ : Only NoBlk w w5 := Only.trans (by assumption) ho5)
        | (go_at_call 93
           refine (TRWaits_c (QM p g) mo q A c B d (RT.of s l) _ (TT.a (by assumption)) hn ask).mono ?_
           rintro e w5 ⟨rfl, hb5⟩
           have tt_ : TT w5 p N mo q A c B d s l g := TT.below (by assumption) hb5
           have tc_ := tt_.cells
           obtain ⟨t0_, t1_, t2_, t3_, t4_, t5_⟩ := tc_
           have tb_ : Only NoBlk w w5 := Only.trans (by assumption) (Only.of_below hb5 NoBlk)))
    go_wp2_with fail
    go_ret
    exact ⟨rfl, by assumption⟩
end
end Go.Proofs.Ytmkbhejbbhikcaa
