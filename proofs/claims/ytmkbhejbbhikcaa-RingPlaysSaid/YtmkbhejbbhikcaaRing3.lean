/- What the reference's texts do: New, Put, Take, Peek; Cut. Conditions: those of each theorem. -/
import Derived.Test.YtmkbhejbbhikcaaRing2
import Derived.Test.YtmkbhejbbhikcaaRefP
namespace Go.Proofs.Ytmkbhejbbhikcaa
open Go.RowKit
set_option linter.unusedVariables false

theorem below_drewN (w : World) (n : Nat) : Below w.heap.size w (w.drewN n) := ⟨rfl, rfl, rfl, Nat.le_refl _, fun _ _ => rfl⟩
theorem below_drew (w : World) : Below w.heap.size w w.drew := ⟨rfl, rfl, rfl, Nat.le_refl _, fun _ _ => rfl⟩
theorem below_alloc (w : World) (o : Obj) : Below w.heap.size w (w.alloc o) := (Below.refl _ _).alloc (Nat.le_refl _) _
def cutS (s : ByteArray) (most : Nat) : ByteArray := if most < s.size then s.extract 0 most else s
theorem cutS_size (s : ByteArray) (most : Nat) : (cutS s most).size = min s.size most := by
  unfold cutS
  split
  · rw [ba_sub_size s 0 most (by omega) (by omega)]; omega
  · omega
theorem cutS_c (s : ByteArray) (most : Nat) (w : World) (hm : most ≤ 100000) :
    Calls Try.prog 32 #[.string s, .int .i64 most] w fun e w' => e = .returned (.string (cutS s most)) ∧ w = w' := by
  unfold cutS
  by_cases h : most < s.size
  · rw [if_pos h]
    have hle : most ≤ s.size := by omega
    go_enter Try.func32, Try.ntmps32
    go_wp2
    go_ret
    exact ⟨rfl, rfl⟩
  · rw [if_neg h]
    have hd : decide ((most : Int) < s.size) = false := by simp; omega
    have hd2 : decide (most < s.size) = false := by simp; omega
    go_enter Try.func32, Try.ntmps32
    go_wp2
    go_ret
    exact ⟨rfl, rfl⟩
theorem RNew_c (most : Int) (w : World) :
    Calls Try.prog 38 #[.int .i64 most] w fun e w' => e = .returned (.agg #[.string ⟨#[]⟩, .int .i64 (within most 1 4096)]) ∧ Below w.heap.size w w' := by
  go_enter Try.func38, Try.ntmps38
  go_wp2_with (go_at_call 19; refine (within_c _ _ _ _).mono ?_; rintro e w' ⟨rfl, rfl⟩)
  refine bodyPost_ret (v := .agg #[.string ⟨#[]⟩, .int .i64 (within most 1 4096)]) (by simp [results, Try.results38, go_sem]) rfl ?_
  exact ⟨rfl, (Below.refl _ _).alloc (Nat.le_refl _) _⟩
section
variable (N : Nat) (S : ByteArray) (w : World) (hN : N ≤ 4096) (hS : S.size ≤ N)
include hN hS
theorem RPut_c (s : ByteArray) (hs : s.size ≤ maxLen) :
    Calls Try.prog 39 #[.agg #[.string S, .int .i64 N], .string s] w fun e w' => e = .returned (.tuple #[.agg #[.string (rputS N S s), .int .i64 N], .int .i64 (rput N S s)]) ∧ Below w.heap.size w w' := by
  unfold maxLen at hs
  have hle := rput_le N S s
  obtain ⟨n, hn⟩ : ∃ n, n = rput N S s := ⟨_, rfl⟩
  have hE : within (s.size : Int) 0 ((N : Int) - S.size) = n := by rw [hn]; unfold within rput; split <;> first | omega | (split <;> omega)
  have HW := hide (show rputS N S s = S ++ s.extract 0 n by rw [hn]; rfl)
  rw [← hn] at hle ⊢
  have HE := hide hE
  have hn3 : (n : Int) ≤ s.size := by omega
  have hE2 : S.size + n ≤ N := by rw [hn]; unfold rput; omega
  clear hE hn
  go_enter Try.func39, Try.ntmps39
  go_wp2_with (go_at_call 19; refine (within_c _ _ _ _).mono ?_; rintro e w' ⟨rfl, rfl⟩; rw [HE.out])
  have hsum : S.size + n ≤ 9223372036854775807 := by have := hE2; omega
  go_region
  go_wp2
  refine bodyPost_ret (v := .tuple #[.agg #[.string (S ++ s.extract 0 n), .int .i64 N], .int .i64 n]) (by simp [results, Try.results39, go_sem]) rfl ?_
  rw [HW.out]
  exact ⟨rfl, by first | exact Below.refl _ _ | exact below_alloc _ _ | exact (below_alloc _ _).alloc (by simp) _ | exact ((below_alloc _ _).alloc (by simp) _).drew | exact below_trans (below_alloc _ _) (below_drewN _ _)⟩
theorem RTake_c (n : Int) :
    Calls Try.prog 40 #[.agg #[.string S, .int .i64 N], .int .i64 n] w fun e w' => e = .returned (.tuple #[.agg #[.string (S.extract (tk n S) S.size), .int .i64 N], .string (S.extract 0 (tk n S))]) ∧ Below w.heap.size w w' := by
  have hle := tk_le n S
  have hE : within n 0 (S.size : Int) = tk n S := by unfold within tk; split <;> first | omega | (split <;> omega)
  have HE := hide hE
  clear hE
  go_enter Try.func40, Try.ntmps40
  go_wp2_with (go_at_call 19; refine (within_c _ _ _ _).mono ?_; rintro e w' ⟨rfl, rfl⟩; rw [HE.out])
  refine bodyPost_ret (v := .tuple #[.agg #[.string (S.extract (tk n S) S.size), .int .i64 N], .string (S.extract 0 (tk n S))]) (by simp [results, Try.results40, go_sem]) rfl ?_
  exact ⟨rfl, by first | exact Below.refl _ _ | exact below_alloc _ _ | exact (below_alloc _ _).alloc (by simp) _ | exact ((below_alloc _ _).alloc (by simp) _).drew | exact below_trans (below_alloc _ _) (below_drewN _ _)⟩
theorem RPeek_c (a n : Int) :
    Calls Try.prog 89 #[.agg #[.string S, .int .i64 N], .int .i64 a, .int .i64 n] w fun e w' => e = .returned (.string (pk a n S)) ∧ Below w.heap.size w w' := by
  by_cases h0 : a < 0
  · have hp : pk a n S = ⟨#[]⟩ := by unfold pk; rw [if_pos (Or.inl h0)]
    rw [hp]
    clear hp
    go_enter Try.func89, Try.ntmps89
    go_wp2
    go_ret
    exact ⟨rfl, by first | exact Below.refl _ _ | exact below_alloc _ _ | exact (below_alloc _ _).alloc (by simp) _ | exact ((below_alloc _ _).alloc (by simp) _).drew | exact below_trans (below_alloc _ _) (below_drewN _ _)⟩
  · have d0 : decide (a < 0) = false := by simp; omega
    by_cases h1 : (S.size : Int) < a
    · have hp : pk a n S = ⟨#[]⟩ := by unfold pk; rw [if_pos (Or.inr (Or.inr (by omega)))]
      rw [hp]
      clear hp
      go_enter Try.func89, Try.ntmps89
      go_wp2
      go_ret
      exact ⟨rfl, by first | exact Below.refl _ _ | exact below_alloc _ _ | exact (below_alloc _ _).alloc (by simp) _ | exact ((below_alloc _ _).alloc (by simp) _).drew | exact below_trans (below_alloc _ _) (below_drewN _ _)⟩
    · obtain ⟨i, rfl⟩ := Int.eq_ofNat_of_zero_le (show 0 ≤ a by omega)
      obtain ⟨m, hm⟩ : ∃ m, m = (within n 0 ((S.size : Int) - i)).toNat := ⟨_, rfl⟩
      have hE : within n 0 ((S.size : Int) - i) = m := by
        have : 0 ≤ within n 0 ((S.size : Int) - i) := by unfold within; split <;> first | omega | (split <;> omega)
        omega
      have hms : i + m ≤ S.size := by
        have : within n 0 ((S.size : Int) - i) ≤ (S.size : Int) - i := by unfold within; split <;> first | omega | (split <;> omega)
        omega
      have hp : pk i n S = S.extract i (i + m) := by
        unfold pk
        by_cases hx : n < 0
        · have : within n 0 ((S.size : Int) - i) = 0 := by unfold within; rw [if_pos hx]
          rw [if_pos (Or.inr (Or.inl hx)), show m = 0 by omega, Nat.add_zero, ba_none]
        · by_cases hy : (S.size : Int) ≤ i
          · rw [if_pos (Or.inr (Or.inr hy)), show m = 0 by omega, Nat.add_zero, ba_none]
          · rw [if_neg (by omega), Int.toNat_natCast]
            have : within n 0 ((S.size : Int) - i) = min n ((S.size : Int) - i) := by unfold within; rw [if_neg hx]; split <;> omega
            rw [← this, hE, Int.toNat_natCast]
      rw [hp]
      have HC := hide (fun w0 : World => (show Calls Try.prog 19 #[.int .i64 n, .int .i64 0, .int .i64 ((S.size : Int) - i)] w0 fun e w' => e = .returned (.int .i64 m) ∧ w' = w0 from (within_c n 0 ((S.size : Int) - i) w0).mono fun e w' h => ⟨by rw [h.1, hE], h.2.symm⟩))
      have d1 : decide ((S.size : Int) < i) = false := by simp; omega
      have d2 : decide (S.size < i) = false := by simp; omega
      have him : i ≤ i + m := by omega
      clear hE hm hp
      go_enter Try.func89, Try.ntmps89
      go_wp2
      have h2 : IntKind.i64.wrap ((S.size : Int) - i) = S.size - i := IntWalk.i64_in _ (by omega)
      have h3 : (0 : Int) ≤ S.size - i := by omega
      have h4 : IntKind.i64.wrap ((i : Int) + m) = i + m := IntWalk.i64_in _ (by omega)
      have h5 : (0 : Int) ≤ i + m := by omega
      have h6 : ((i : Int) + m).toNat = i + m := by omega
      go_quiet (first | (go_at_call 19; exact Calls.quiet_of_same (HC.out _)))
      go_wp2
      go_ret
      exact ⟨rfl, by first | exact Below.refl _ _ | exact below_alloc _ _ | exact (below_alloc _ _).alloc (by simp) _ | exact ((below_alloc _ _).alloc (by simp) _).drew | exact below_trans (below_alloc _ _) (below_drewN _ _)⟩
end
section
variable {p h N C f : Nat} {X : List UInt8} {Y : List Value} {S : ByteArray} {w : World}
theorem RingAt.below {w' : World} (hr : RingAt w p h N C f X Y S) (k : Below w.heap.size w w') : RingAt w' p h N C f X Y S := hr.only (Only.of_below k NoBlk) (fun h => h) (fun h => h)
theorem Len_b (hr : RingAt w p h N C f X Y S) : Calls Try.prog 42 #[.pointer (some ⟨p, 0, none⟩)] w fun e w' => e = .returned (.int .i64 S.size) ∧ Below w.heap.size w w' :=
  (len_c hr).mono fun e w' h => ⟨h.1, by rw [← h.2]; exact Below.refl _ _⟩
theorem Most_b (hr : RingAt w p h N C f X Y S) : Calls Try.prog 44 #[.pointer (some ⟨p, 0, none⟩)] w fun e w' => e = .returned (.int .i64 N) ∧ Below w.heap.size w w' :=
  (most_c hr).mono fun e w' h => ⟨h.1, by rw [← h.2]; exact Below.refl _ _⟩
theorem Room_b (hr : RingAt w p h N C f X Y S) : Calls Try.prog 43 #[.pointer (some ⟨p, 0, none⟩)] w fun e w' => e = .returned (.int .i64 ((N : Int) - S.size)) ∧ Below w.heap.size w w' :=
  (room_c hr).mono fun e w' ⟨he, m, hw⟩ => ⟨he, by rw [hw]; exact below_drewN _ _⟩
theorem Peek_b (a n : Int) (hr : RingAt w p h N C f X Y S) : Calls Try.prog 37 #[.pointer (some ⟨p, 0, none⟩), .int .i64 a, .int .i64 n] w fun e w' => e = .returned (.string (pk a n S)) ∧ Below w.heap.size w w' :=
  (Peek_c a n hr).mono fun e w' ⟨he, m, hw⟩ => ⟨he, by rw [hw]; exact below_drewN _ _⟩
theorem At_b (i : Nat) (hi : i < S.size) (hr : RingAt w p h N C f X Y S) : Calls Try.prog 55 #[.pointer (some ⟨p, 0, none⟩), .int .i64 i] w fun e w' => e = .returned (.tuple #[.int .u8 (S[i].toNat : Int), .bool true]) ∧ Below w.heap.size w w' :=
  (at_in i hi hr).mono fun e w' ⟨he, m, hw⟩ => ⟨he, by rw [hw]; exact below_drewN _ _⟩
theorem pk_all (hS : S.size ≤ N) : pk 0 N S = S := by
  unfold pk
  by_cases h0 : (S.size : Int) ≤ 0
  · rw [if_pos (Or.inr (Or.inr h0))]
    apply ba_ext
    have : S.data.toList.length = 0 := by rw [ba_size]; omega
    rw [List.eq_nil_of_length_eq_zero this]
  · rw [if_neg (by omega)]
    apply ba_ext
    rw [ba_sub]
    show List.take _ (List.drop 0 _) = _
    rw [List.drop_zero]
    exact List.take_of_length_le (by rw [ba_size]; show S.size ≤ (0 + (min (N : Int) ((S.size : Int) - 0)).toNat) - 0; omega)
set_option maxRecDepth 100000 in
set_option maxHeartbeats 1600000 in
/-- a ring tells what its own bytes are -/
theorem rtold_c (at_ n : Int) (hr : RingAt w p h N C f X Y S) :
    Calls Try.prog 45 #[.pointer (some ⟨p, 0, none⟩), .agg #[.string S, .int .i64 N], .int .i64 at_, .int .i64 n] w fun e w' => e = .returned (.bool true) ∧ Below w.heap.size w w' := by
  have hN := hr.rep.n2
  have hfit := hr.rep.fit
  have hpk := pk_all (N := N) hfit
  obtain ⟨W, hW⟩ : ∃ W, W = w.alloc (.cells #[.string S, .int .i64 N] 54) := ⟨_, rfl⟩
  have hBx : Blk W w.heap.size 54 #[.string S, .int .i64 N] := by rw [hW]; exact Blk.new _ _ _
  have hwW : Below w.heap.size w W := by rw [hW]; exact below_alloc _ _
  have hrW : RingAt W p h N C f X Y S := hr.below hwW
  have HW := hide hW
  clear hW hr
  by_cases hi : at_ < 0 ∨ (S.size : Int) ≤ at_
  · go_enter Try.func45, Try.ntmps45
    go_wp2_with fail
    rw [← HW.out]
    refine (at_out at_ hi hrW).mono ?_
    rintro e w1 ⟨rfl, hw1⟩
    have hb1 : Below W.heap.size W w1 := by rw [← hw1]; exact Below.refl _ _
    clear hw1
    have R1 := hrW.below hb1
    have B1 := hBx.below hb1
    have x0 : w1.cell? ⟨w.heap.size, 0, none⟩ = some (.string S) := by rw [B1.cell]; rfl
    have x1 : w1.cell? ⟨w.heap.size, 1, none⟩ = some (.int .i64 N) := by rw [B1.cell]; rfl
    have hb1' : Below w.heap.size w w1.drew := below_trans (below_trans hwW hb1) (below_drew w1)
    have R1' : RingAt w1.drew p h N C f X Y S := R1.below (below_drew w1)
    have y0_ : w1.drew.cell? ⟨w.heap.size, 0, none⟩ = some (.string S) := x0
    have y1_ : w1.drew.cell? ⟨w.heap.size, 1, none⟩ = some (.int .i64 N) := x1
    go_wp2_with fail
    have s1 : IntKind.i64.wrap ((N : Int) - S.size) = N - S.size := IntWalk.i64_in _ (by omega)
    go_region_held3 (fun w' => w'.cell? ⟨w.heap.size, 0, none⟩ = some (.string S) ∧ w'.cell? ⟨w.heap.size, 1, none⟩ = some (.int .i64 N)) (go_keep)
      (first
        | (go_at_call 42
           refine (Len_b (p := p) (h := h) (N := N) (C := C) (f := f) (X := X) (Y := Y) (S := S) (by assumption)).mono ?_
           rintro e w5 ⟨rfl, hb5⟩
           have t0_ : w5.cell? ⟨w.heap.size, 0, none⟩ = some (.string S) := bkeep hb5 (by assumption)
           have t1_ : w5.cell? ⟨w.heap.size, 1, none⟩ = some (.int .i64 N) := bkeep hb5 (by assumption)
           have t2_ : RingAt w5 p h N C f X Y S := RingAt.below (by assumption) hb5
           have t3_ : Below w.heap.size w w5 := below_trans (by assumption) hb5)
        | (go_at_call 43
           refine (Room_b (p := p) (h := h) (N := N) (C := C) (f := f) (X := X) (Y := Y) (S := S) (by assumption)).mono ?_
           rintro e w5 ⟨rfl, hb5⟩
           have t0_ : w5.cell? ⟨w.heap.size, 0, none⟩ = some (.string S) := bkeep hb5 (by assumption)
           have t1_ : w5.cell? ⟨w.heap.size, 1, none⟩ = some (.int .i64 N) := bkeep hb5 (by assumption)
           have t2_ : RingAt w5 p h N C f X Y S := RingAt.below (by assumption) hb5
           have t3_ : Below w.heap.size w w5 := below_trans (by assumption) hb5)
        | (go_at_call 44
           refine (Most_b (p := p) (h := h) (N := N) (C := C) (f := f) (X := X) (Y := Y) (S := S) (by assumption)).mono ?_
           rintro e w5 ⟨rfl, hb5⟩
           have t0_ : w5.cell? ⟨w.heap.size, 0, none⟩ = some (.string S) := bkeep hb5 (by assumption)
           have t1_ : w5.cell? ⟨w.heap.size, 1, none⟩ = some (.int .i64 N) := bkeep hb5 (by assumption)
           have t2_ : RingAt w5 p h N C f X Y S := RingAt.below (by assumption) hb5
           have t3_ : Below w.heap.size w w5 := below_trans (by assumption) hb5)
        | (go_at_call 37
           refine (Peek_b (p := p) (h := h) (N := N) (C := C) (f := f) (X := X) (Y := Y) (S := S) _ _ (by assumption)).mono ?_
           rintro e w5 ⟨rfl, hb5⟩
           have t0_ : w5.cell? ⟨w.heap.size, 0, none⟩ = some (.string S) := bkeep hb5 (by assumption)
           have t1_ : w5.cell? ⟨w.heap.size, 1, none⟩ = some (.int .i64 N) := bkeep hb5 (by assumption)
           have t2_ : RingAt w5 p h N C f X Y S := RingAt.below (by assumption) hb5
           have t3_ : Below w.heap.size w w5 := below_trans (by assumption) hb5)
        | (go_at_call 89
           refine (RPeek_c N S _ hN hfit _ _).mono ?_
           rintro e w5 ⟨rfl, hb5⟩
           have t0_ : w5.cell? ⟨w.heap.size, 0, none⟩ = some (.string S) := bkeep hb5 (by assumption)
           have t1_ : w5.cell? ⟨w.heap.size, 1, none⟩ = some (.int .i64 N) := bkeep hb5 (by assumption)
           have t2_ : RingAt w5 p h N C f X Y S := RingAt.below (by assumption) hb5
           have t3_ : Below w.heap.size w w5 := below_trans (by assumption) hb5))
    clear s1
    by_cases h0 : at_ < 0
    · clear hi
      go_wp2_with fail
      go_ret
      exact ⟨rfl, by assumption⟩
    · have d0 : decide (at_ < 0) = false := by simp; omega
      have d1 : decide ((S.size : Int) ≤ at_) = true := by simp; omega
      clear hi
      go_wp2_with fail
      go_ret
      exact ⟨rfl, by assumption⟩
  · obtain ⟨i, rfl⟩ := Int.eq_ofNat_of_zero_le (show 0 ≤ at_ by omega)
    have hlt : i < S.size := by omega
    have d0 : decide ((i : Int) < 0) = false := by simp
    have d1 : decide ((S.size : Int) ≤ i) = false := by simp; omega
    have d2 : decide (S.size ≤ i) = false := by simp; omega
    clear hi
    go_enter Try.func45, Try.ntmps45
    go_wp2_with fail
    rw [← HW.out]
    refine (At_b i hlt hrW).mono ?_
    rintro e w1 ⟨rfl, hb1⟩
    have R1 := hrW.below hb1
    have B1 := hBx.below hb1
    have x0 : w1.cell? ⟨w.heap.size, 0, none⟩ = some (.string S) := by rw [B1.cell]; rfl
    have x1 : w1.cell? ⟨w.heap.size, 1, none⟩ = some (.int .i64 N) := by rw [B1.cell]; rfl
    have hb1' : Below w.heap.size w w1.drew := below_trans (below_trans hwW hb1) (below_drew w1)
    have R1' : RingAt w1.drew p h N C f X Y S := R1.below (below_drew w1)
    have y0_ : w1.drew.cell? ⟨w.heap.size, 0, none⟩ = some (.string S) := x0
    have y1_ : w1.drew.cell? ⟨w.heap.size, 1, none⟩ = some (.int .i64 N) := x1
    go_wp2_with fail
    have s1 : IntKind.i64.wrap ((N : Int) - S.size) = N - S.size := IntWalk.i64_in _ (by omega)
    go_region_held3 (fun w' => w'.cell? ⟨w.heap.size, 0, none⟩ = some (.string S) ∧ w'.cell? ⟨w.heap.size, 1, none⟩ = some (.int .i64 N)) (go_keep)
      (first
        | (go_at_call 42
           refine (Len_b (p := p) (h := h) (N := N) (C := C) (f := f) (X := X) (Y := Y) (S := S) (by assumption)).mono ?_
           rintro e w5 ⟨rfl, hb5⟩
           have t0_ : w5.cell? ⟨w.heap.size, 0, none⟩ = some (.string S) := bkeep hb5 (by assumption)
           have t1_ : w5.cell? ⟨w.heap.size, 1, none⟩ = some (.int .i64 N) := bkeep hb5 (by assumption)
           have t2_ : RingAt w5 p h N C f X Y S := RingAt.below (by assumption) hb5
           have t3_ : Below w.heap.size w w5 := below_trans (by assumption) hb5)
        | (go_at_call 43
           refine (Room_b (p := p) (h := h) (N := N) (C := C) (f := f) (X := X) (Y := Y) (S := S) (by assumption)).mono ?_
           rintro e w5 ⟨rfl, hb5⟩
           have t0_ : w5.cell? ⟨w.heap.size, 0, none⟩ = some (.string S) := bkeep hb5 (by assumption)
           have t1_ : w5.cell? ⟨w.heap.size, 1, none⟩ = some (.int .i64 N) := bkeep hb5 (by assumption)
           have t2_ : RingAt w5 p h N C f X Y S := RingAt.below (by assumption) hb5
           have t3_ : Below w.heap.size w w5 := below_trans (by assumption) hb5)
        | (go_at_call 44
           refine (Most_b (p := p) (h := h) (N := N) (C := C) (f := f) (X := X) (Y := Y) (S := S) (by assumption)).mono ?_
           rintro e w5 ⟨rfl, hb5⟩
           have t0_ : w5.cell? ⟨w.heap.size, 0, none⟩ = some (.string S) := bkeep hb5 (by assumption)
           have t1_ : w5.cell? ⟨w.heap.size, 1, none⟩ = some (.int .i64 N) := bkeep hb5 (by assumption)
           have t2_ : RingAt w5 p h N C f X Y S := RingAt.below (by assumption) hb5
           have t3_ : Below w.heap.size w w5 := below_trans (by assumption) hb5)
        | (go_at_call 37
           refine (Peek_b (p := p) (h := h) (N := N) (C := C) (f := f) (X := X) (Y := Y) (S := S) _ _ (by assumption)).mono ?_
           rintro e w5 ⟨rfl, hb5⟩
           have t0_ : w5.cell? ⟨w.heap.size, 0, none⟩ = some (.string S) := bkeep hb5 (by assumption)
           have t1_ : w5.cell? ⟨w.heap.size, 1, none⟩ = some (.int .i64 N) := bkeep hb5 (by assumption)
           have t2_ : RingAt w5 p h N C f X Y S := RingAt.below (by assumption) hb5
           have t3_ : Below w.heap.size w w5 := below_trans (by assumption) hb5)
        | (go_at_call 89
           refine (RPeek_c N S _ hN hfit _ _).mono ?_
           rintro e w5 ⟨rfl, hb5⟩
           have t0_ : w5.cell? ⟨w.heap.size, 0, none⟩ = some (.string S) := bkeep hb5 (by assumption)
           have t1_ : w5.cell? ⟨w.heap.size, 1, none⟩ = some (.int .i64 N) := bkeep hb5 (by assumption)
           have t2_ : RingAt w5 p h N C f X Y S := RingAt.below (by assumption) hb5
           have t3_ : Below w.heap.size w w5 := below_trans (by assumption) hb5))
    clear s1
    go_wp2_with fail
    go_ret
    exact ⟨rfl, by assumption⟩
end
end Go.Proofs.Ytmkbhejbbhikcaa
