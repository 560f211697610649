/- The reference's Give, Pay, Clear, New. Conditions: those of each theorem. -/
import Derived.Test.YtmkbhejbbhikcaaRefP
namespace Go.Proofs.Ytmkbhejbbhikcaa
open Go.RowKit
attribute [local go_sem ↓] Go.wp_at_zero Go.wp_at_succ

theorem hasL_bd (l : List (Int × Int)) (id : Int) (h : ∀ p ∈ l, 0 ≤ p.2 ∧ p.2 ≤ 2000000000) : 0 ≤ hasL l id ∧ hasL l id ≤ 2000000000 := by
  induction l with
  | nil => simp [hasL]
  | cons p r ih =>
    unfold hasL
    split
    · exact h p (by simp)
    · exact ih fun p hp => h p (by simp [hp])

/-- the cells of a P are stored in block B+1 -/
theorem ret_end {M : Nat → Prop} {L : List (Int × Int)} {w w2 : World} {A : Option Addr} {v1 v2 v3 : Value} (hr : Rd w2 (MM M w.heap.size (w.heap.size + 2)) A (ones L)) (hb : Below w.heap.size w w2) :
    Rd (((w2.setCell ⟨w.heap.size + 1, 0, none⟩ v1).setCell ⟨w.heap.size + 1, 1, none⟩ v2).setCell ⟨w.heap.size + 1, 2, none⟩ v3) M A (ones L) ∧
    Below w.heap.size w (((w2.setCell ⟨w.heap.size + 1, 0, none⟩ v1).setCell ⟨w.heap.size + 1, 1, none⟩ v2).setCell ⟨w.heap.size + 1, 2, none⟩ v3) := by
  have hm : MM M w.heap.size (w.heap.size + 2) (w.heap.size + 1) := Or.inr (by omega)
  exact ⟨(((hr.set_ hm _).set_ hm _).set_ hm _).narrow, ((hb.setCell (by simp) _).setCell (by simp) _).setCell (by simp) _⟩

/-- the two blocks that Give, Pay and Clear lay first -/
theorem boxed (M : Nat → Prop) (most q : Int) (A : Option Addr) (n c : Nat) (xs : List Value) (w : World) (hr : Rd w M A xs) (hM : ∀ k, M k → k < w.heap.size) :
    ∃ W, Hid (W = (w.alloc (.cells #[.int .i64 most, .int .i64 q, .slice A n c] 37)).alloc (.cells #[.int .i64 0, .int .i64 0, .slice none 0 0] 37)) ∧
      Blk W w.heap.size 37 #[.int .i64 most, .int .i64 q, .slice A n c] ∧ Blk W (w.heap.size + 1) 37 #[.int .i64 0, .int .i64 0, .slice none 0 0] ∧
      Below w.heap.size w W ∧ Rd W (MM M w.heap.size (w.heap.size + 2)) A xs ∧ (∀ k, MM M w.heap.size (w.heap.size + 2) k → k < W.heap.size) := by
  refine ⟨_, rfl, (Blk.new w _ _).alloc _, Blk.new' (by simp), ((Below.refl _ _).alloc (Nat.le_refl _) _).alloc (by simp) _, (hr.wide _).below (((Below.refl _ _).alloc (Nat.le_refl _) _).alloc (by simp) _), MM.lt hM (by simp; omega) (by simp)⟩

def SmallQ (q : Int) : Prop := 1 ≤ q ∧ q ≤ 1000000
def SmallL (l : List (Int × Int)) : Prop := l.length ≤ 100000 ∧ ∀ p ∈ l, 0 ≤ p.2 ∧ p.2 ≤ 2000000000

section
variable (M : Nat → Prop) (most q id : Int) (A : Option Addr) (c : Nat) (l : List (Int × Int)) (w : World) (hr : Rd w M A (ones l)) (hM : ∀ k, M k → k < w.heap.size) (hl : SmallL l)
include hr hM hl
set_option maxHeartbeats 800000 in
theorem PGive_c (hq : SmallQ q) :
    Calls Try.prog 27 #[.agg #[.int .i64 most, .int .i64 q, .slice A l.length c], .int .i64 id] w (RetP M most q (setL most l id (hasL l id + q)) w) := by
  obtain ⟨h1, h2⟩ := hasL_bd l id hl.2
  have hn := hl.1
  obtain ⟨hq0, hq1⟩ := hq
  obtain ⟨W, HW, hB0, hB1, hwW, hRd, hM2⟩ := boxed M most q A l.length c (ones l) w hr hM
  have HM := hide hM2
  have hwr : IntKind.i64.wrap (hasL l id + q) = hasL l id + q := IntWalk.i64_in _ (by omega)
  clear hM hr hl hM2
  go_enter Try.func27, Try.ntmps27
  go_wp2_with fail
  rw [← HW.out]
  have hc0 := hB0.three.1
  go_region_held3 (fun w' => w'.cell? ⟨w.heap.size, 0, none⟩ = some (.int .i64 most) ∧ w'.cell? ⟨w.heap.size, 1, none⟩ = some (.int .i64 q) ∧ w'.cell? ⟨w.heap.size, 2, none⟩ = some (.slice A l.length c))
    (go_keep)
    (first
      | (go_at_call 28
         refine (PHas_c (MM M w.heap.size (w.heap.size + 2)) most q id A c l W.drew hRd hn).mono ?_
         rintro e w1 ⟨rfl, hb1⟩
         have k0 := bkeep hb1 hc0.1
         have k1 := bkeep hb1 hc0.2.1
         have k2 := bkeep hb1 hc0.2.2)
      | (go_at_call 85
         refine (Pset_c (MM M w.heap.size (w.heap.size + 2)) most q id _ A c l _ (hRd.drew.below hb1) (fun k hk => Nat.lt_of_lt_of_le (HM.out k hk) hb1.size) hn).mono ?_
         rintro e w2 ⟨A2, c2, rfl, hR2, hb2⟩
         have j0 := bkeep hb2 (bkeep hb1 hc0.1)
         have j1 := bkeep hb2 (bkeep hb1 hc0.2.1)
         have j2 := bkeep hb2 (bkeep hb1 hc0.2.2)
         obtain ⟨⟨hz0, hz1, hz2⟩, hf0, hf1, hf2⟩ := ((hB1.drew.below hb1).below hb2).three))
  go_wp2
  refine bodyPost_ret (v := .agg #[.int .i64 most, .int .i64 q, .slice A2 (setL most l id (hasL l id + q)).length c2]) (by simp [results, Try.results27, go_sem, hz0, hz1, hz2]) rfl ?_
  have R := ret_end hR2 (hwW.drew.trans ((hb1.mono hwW.size).trans (hb2.mono (Nat.le_trans hwW.size hb1.size)))) (v1 := .int .i64 most) (v2 := .int .i64 q) (v3 := .slice A2 (setL most l id (hasL l id + q)).length c2)
  exact ⟨A2, c2, rfl, R.1, R.2⟩

set_option maxHeartbeats 800000 in
theorem PClear_c :
    Calls Try.prog 30 #[.agg #[.int .i64 most, .int .i64 q, .slice A l.length c], .int .i64 id] w (RetP M most q (setL most l id 0) w) := by
  have hn := hl.1
  obtain ⟨W, HW, hB0, hB1, hwW, hRd, hM2⟩ := boxed M most q A l.length c (ones l) w hr hM
  have HM := hide hM2
  clear hM hr hl hM2
  go_enter Try.func30, Try.ntmps30
  go_wp2_with fail
  rw [← HW.out]
  have hc0 := hB0.three.1
  refine (Pset_c (MM M w.heap.size (w.heap.size + 2)) most q id _ A c l _ hRd HM.out hn).mono ?_
  rintro e w2 ⟨A2, c2, rfl, hR2, hb2⟩
  obtain ⟨⟨hz0, hz1, hz2⟩, hf0, hf1, hf2⟩ := (hB1.below hb2).three
  go_wp2
  refine bodyPost_ret (v := .agg #[.int .i64 most, .int .i64 q, .slice A2 (setL most l id 0).length c2]) (by simp [results, Try.results30, go_sem, hz0, hz1, hz2]) rfl ?_
  have R := ret_end hR2 (hwW.trans (hb2.mono hwW.size)) (v1 := .int .i64 most) (v2 := .int .i64 q) (v3 := .slice A2 (setL most l id 0).length c2)
  exact ⟨A2, c2, rfl, R.1, R.2⟩
end
theorem PNew_c (M : Nat → Prop) (most q : Int) (w : World) :
    Calls Try.prog 25 #[.int .i64 most, .int .i64 q] w (RetP M (within most 1 1024) (within q 1 1000000) [] w) := by
  go_enter Try.func25, Try.ntmps25
  go_wp2_with (go_at_call 19; refine (within_c _ _ _ _).mono ?_; rintro e w' ⟨rfl, rfl⟩)
  refine bodyPost_ret (v := .agg #[.int .i64 (within most 1 1024), .int .i64 (within q 1 1000000), .slice none 0 0]) (by simp [results, Try.results25, go_sem]) rfl ?_
  exact ⟨none, 0, rfl, Rd.nil, (Below.refl _ _).alloc (Nat.le_refl _) _⟩
end Go.Proofs.Ytmkbhejbbhikcaa
