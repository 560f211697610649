/- Parts of a chain of lemmas: Grace14, Grace15, Grace16, Grace17, Grace18. Conditions: those of each theorem. -/
import Derived.Test.YtdmdohjdmnmabaaGreatQw25
namespace Go.Proofs.YtdmdohjdmnmabaaGreat
open Go.RowKit
set_option linter.unusedVariables false

theorem turnsS_le {s : SetM} (hg : goodB s = true) : 0 ≤ turnsS s ∧ turnsS s ≤ 4097 := by
 obtain ⟨_, ⟨h1, h2⟩, ⟨h3, h4⟩, _, ⟨h5, h6⟩, _⟩ := goodB_parts hg
 have hm : 1 ≤ mostS s ∧ mostS s ≤ 4097 := by unfold mostS; omega
 unfold turnsS
 have e1 := Int.ediv_nonneg (a := mostS s + s.quantum - 1) (b := s.quantum) (by omega) (by omega)
 have e2 : (mostS s + s.quantum - 1) / s.quantum ≤ mostS s := by
  rw [Int.ediv_le_iff_le_mul (by omega)]
  have h7 : 0 ≤ (mostS s - 1) * (s.quantum - 1) := Int.mul_nonneg (by omega) (by omega)
  have h8 : (mostS s - 1) * (s.quantum - 1) = mostS s * s.quantum - s.quantum - mostS s + 1 := by
   rw [Int.sub_mul, Int.mul_sub]; omega
  omega
 omega
theorem waitS_le {s : SetM} (hg : goodB s = true) : 0 ≤ waitS s ∧ waitS s ≤ 1000000000 := by
 obtain ⟨_, _, _, ⟨h7, h8⟩, _, _⟩ := goodB_parts hg
 obtain ⟨h1, h2⟩ := turnsS_le hg
 unfold waitS
 have e1 : 0 ≤ s.live * turnsS s := Int.mul_nonneg (by omega) h1
 have e2 : s.live * turnsS s ≤ 1024 * 4097 := Int.mul_le_mul h8 h2 h1 (by omega)
 omega
theorem turns_lt {s : SetM} (hg : goodB s = true) (n : Nat) : (n : Int) * s.quantum < mostS s ↔ (n : Int) < turnsS s := by
 obtain ⟨_, _, _, _, ⟨h5, h6⟩, _⟩ := goodB_parts hg
 unfold turnsS
 rw [show ((n : Int) < (mostS s + s.quantum - 1) / s.quantum) ↔ (n : Int) + 1 ≤ (mostS s + s.quantum - 1) / s.quantum from Iff.rfl, Int.le_ediv_iff_mul_le (by omega), Int.add_mul]
 omega
theorem addT_nn (a b : Int) : 0 ≤ addT a b := by
 unfold addT
 have := ownT_nn a; have := ownT_nn b
 split <;> omega
theorem ownT_own {a : Int} (h : 0 ≤ a) : ownT a = a := by unfold ownT; rw [if_neg (by omega)]
/-- the page's way and the program's come to the same -/
theorem until_page (s : SetM) (at_ each : Int) (hg : goodB s = true) : addT at_ (satT (ownT each * (waitS s + 1))) = untilS s at_ each := by
 obtain ⟨h1, _⟩ := waitS_le hg
 unfold untilS
 have ha := ownT_nn at_
 have he := ownT_nn each
 have hp : 0 ≤ ownT each * waitS s := Int.mul_nonneg he h1
 have e1 : ownT each * (waitS s + 1) = ownT each * waitS s + ownT each := by rw [Int.mul_add, Int.mul_one]
 rw [e1]
 generalize ownT each * waitS s = z at hp
 unfold addT
 generalize hA : ownT at_ = A at ha
 generalize hE : ownT each = E at he
 have q1 : ownT (satT (z + E)) = satT (z + E) := ownT_own (satT_nn (by omega))
 have q2 : ownT (satT z) = satT z := ownT_own (satT_nn hp)
 rw [q1, q2]
 have q3 : ownT (if 9223372036854775807 ≤ A + satT z then 9223372036854775807 else A + satT z) = (if 9223372036854775807 ≤ A + satT z then 9223372036854775807 else A + satT z) := by
  apply ownT_own
  have := satT_nn hp
  split <;> omega
 rw [q3]
 unfold satT
 repeat' split
 all_goals omega
theorem untilS_bd (s : SetM) (at_ each : Int) : 0 ≤ untilS s at_ each ∧ untilS s at_ each ≤ 9223372036854775807 := ⟨addT_nn _ _, addT_le _ _⟩
end Go.Proofs.YtdmdohjdmnmabaaGreat
namespace Go.Proofs.YtdmdohjdmnmabaaGreat
open Go.RowKit
set_option linter.unusedVariables false

def setL (s : SetM) : List Int := [s.live, s.ring, s.win, s.out, s.quantum, s.visits]
def capL : List Int := [1024, 4096, 4096, 4096, 1000000, 64]
theorem setV_at (s : SetM) (k : Nat) (h : k < 6) : (setV s)[k]? = some (.int .i64 (nth (setL s) k)) := by
 rcases k with _ | _ | _ | _ | _ | _ | k
 all_goals first
  | rfl
  | omega
theorem capV_at (k : Nat) (h : k < 6) : (#[.int .i64 1024, .int .i64 4096, .int .i64 4096, .int .i64 4096, .int .i64 1000000, .int .i64 64] : Array Value)[k]? = some (.int .i64 (nth capL k)) := by
 rcases k with _ | _ | _ | _ | _ | _ | k
 all_goals first
  | rfl
  | omega
theorem good_all {s : SetM} (h : ∀ j, j < 6 → 1 ≤ nth (setL s) j ∧ nth (setL s) j ≤ nth capL j) : goodB s = true := by
 have h0 := h 0 (by decide); have h1 := h 1 (by decide); have h2 := h 2 (by decide); have h3 := h 3 (by decide); have h4 := h 4 (by decide); have h5 := h 5 (by decide)
 simp [nth, setL, capL] at h0 h1 h2 h3 h4 h5
 simp only [goodB, inB, Bool.and_eq_true, decide_eq_true_eq]
 omega
theorem good_not {s : SetM} (k : Nat) (hk : k < 6) (h : nth (setL s) k < 1 ∨ nth capL k < nth (setL s) k) : goodB s = false := by
 cases hg : goodB s with
 | false => rfl
 | true =>
  exfalso
  have hp := goodB_parts hg
  rcases k with _ | _ | _ | _ | _ | _ | k
  all_goals first
   | (simp [nth, setL, capL] at h; omega)
   | omega
set_option maxRecDepth 100000 in
set_option maxHeartbeats 3200000 in
theorem refcGood_c (s : SetM) (w : World) : Calls Tryz.prog 53 #[.agg (setV s)] w fun e w' => e = .returned (.bool (goodB s)) ∧ Below w.heap.size w w' := by
 obtain ⟨W, hW⟩ : ∃ W, W = ((w.alloc (.cells (setV s) 33)).alloc (.cells (setV s) 3)).alloc (.cells #[.int .i64 1024, .int .i64 4096, .int .i64 4096, .int .i64 4096, .int .i64 1000000, .int .i64 64] 3) := ⟨_, rfl⟩
 have hL : Below w.heap.size w W := by rw [hW]; exact (((Below.refl _ _).alloc (Nat.le_refl _) _).alloc (by simp) _).alloc (by simp; omega) _
 have b1 : Blk W (w.heap.size + 1) 3 (setV s) := by rw [hW]; exact (Blk.new' (by simp)).alloc _
 have b2 : Blk W (w.heap.size + 1 + 1) 3 #[.int .i64 1024, .int .i64 4096, .int .i64 4096, .int .i64 4096, .int .i64 1000000, .int .i64 64] := by rw [hW]; exact Blk.new' (by simp)
 have HW := hide hW
 have HL := hide hL
 have HB1 := hide b1
 have HB2 := hide b2
 clear hW hL b1 b2
 go_enter Tryz.func53, Tryz.ntmps53
 go_wp2_with fail
 go_loopw [5] (fun i wr => ∃ k : Nat, k ≤ 6 ∧ i = .int .i64 k ∧ Hid (∀ j, j < k → 1 ≤ nth (setL s) j ∧ nth (setL s) j ≤ nth capL j) ∧ Hid (Below W.heap.size W wr)) (fun i _ => 6 - (intOf i).toNat)
 case atStart =>
  refine ⟨0, Nat.zero_le _, rfl, hide (fun j hj => absurd hj (by omega)), ?_⟩
  rw [← HW.out]
  exact Below.refl _ _
 case round =>
  obtain ⟨k, hk, rfl, hok, hbel⟩ := hrel
  by_cases hlt : k < 6
  ·have c1 : wr.cell? ⟨w.heap.size + 1, k, none⟩ = some (.int .i64 (nth (setL s) k)) := by
    rw [(HB1.out.below hbel.out).cell]; exact setV_at s k hlt
   have c2 : wr.cell? ⟨w.heap.size + 1 + 1, k, none⟩ = some (.int .i64 (nth capL k)) := by
    rw [(HB2.out.below hbel.out).cell]; exact capV_at k hlt
   obtain ⟨x, hx⟩ : ∃ x, x = nth (setL s) k := ⟨_, rfl⟩
   obtain ⟨m, hm⟩ : ∃ m, m = nth capL k := ⟨_, rfl⟩
   rw [← hx] at c1
   rw [← hm] at c2
   have Hx := hide hx
   have Hm := hide hm
   clear hx hm
   have k1 : (0 : Int) ≤ (k : Int) := by omega
   have k2 : (k : Int) < 6 := by omega
   have k3 : decide ((k : Int) < 6) = true := by simp; omega
   cases h1 : decide (x < 1) with
   | true =>
    have HN := hide (good_not (s := s) k hlt (Or.inl (by rw [← Hx.out]; simpa using h1)))
    go_wp2_with fail
    go_quiet (fail)
    go_wp2_with fail
    go_ret
    exact ⟨ret_bool HN.out.symm, HL.out.trans ((below_drewN' hbel.out _).mono HL.out.size)⟩
   | false =>
    cases h2 : decide (m < x) with
    | true =>
     have HN := hide (good_not (s := s) k hlt (Or.inr (by rw [← Hx.out, ← Hm.out]; simpa using h2)))
     go_wp2_with fail
     go_quiet (fail)
     go_wp2_with fail
     go_ret
     exact ⟨ret_bool HN.out.symm, HL.out.trans ((below_drewN' hbel.out _).mono HL.out.size)⟩
    | false =>
     have hok2 : Hid (∀ j, j < k + 1 → 1 ≤ nth (setL s) j ∧ nth (setL s) j ≤ nth capL j) := by
      intro j hj
      by_cases e : j = k
      ·subst e
       rw [← Hx.out, ← Hm.out]
       exact ⟨by simp at h1; omega, by simp at h2; omega⟩
      ·exact hok.out j (by omega)
     clear hok
     go_wp2_with fail
     go_quiet (fail)
     go_wp2_with fail
     go_roundw
     case rel => exact ⟨k + 1, by omega, by go_num, hok2, hide (below_drewN' hbel.out _)⟩
     case measure => simp [intOf]; omega
  ·have hke : k = 6 := by omega
   subst hke
   have HN := hide (good_all hok.out)
   go_wp2_with fail
   go_ret
   exact ⟨ret_bool HN.out.symm, HL.out.trans (hbel.out.mono HL.out.size)⟩
theorem refMost_c (s : SetM) (w : World) (hg : goodB s = true) : Calls Tryz.prog 113 #[.agg (setV s)] w fun e w' => e = .returned (.int .i64 (mostS s)) ∧ Below w.heap.size w w' := by
 obtain ⟨_, ⟨h1, h2⟩, ⟨h3, h4⟩, _, _, _⟩ := goodB_parts hg
 obtain ⟨W, hW⟩ : ∃ W, W = w.alloc (.cells (setV s) 33) := ⟨_, rfl⟩
 have hL : Below w.heap.size w W := by rw [hW]; exact below_alloc _ _
 have hb : Blk W w.heap.size 33 (setV s) := by rw [hW]; exact Blk.new _ _ _
 have c := refcGood_c s W
 rw [hg] at c
 have C := hide c
 have HW := hide hW
 have HL := hide hL
 have HB := hide hb
 clear hg c hW hL hb
 unfold mostS
 have hw1 : IntKind.i64.wrap (1 + s.win) = 1 + s.win := IntWalk.i64_in _ (by omega)
 have hw2 : IntKind.i64.wrap (1 + s.out) = 1 + s.out := IntWalk.i64_in _ (by omega)
 cases hd : decide (s.out < s.win) with
 | true =>
  have HM := hide (show max s.win s.out = s.win by have h0 : s.out < s.win := (by simpa using hd); omega)
  go_enter Tryz.func113, Tryz.ntmps113
  go_wp2_with fail
  change Calls _ _ _ (w.alloc (.cells (setV s) 33)) _
  rw [← HW.out]
  refine C.out.mono ?_
  rintro e w1 ⟨rfl, hb1⟩
  have b1 := HB.out.below hb1
  have y2 : w1.cell? ⟨w.heap.size, 2, none⟩ = some (.int .i64 s.win) := by rw [b1.cell]; rfl
  have y3 : w1.cell? ⟨w.heap.size, 3, none⟩ = some (.int .i64 s.out) := by rw [b1.cell]; rfl
  have HB1 := hide (HL.out.trans (hb1.mono HL.out.size))
  clear b1 hb1
  go_wp2_with fail
  go_ret
  exact ⟨ret_int (by rw [HM.out]), HB1.out⟩
 | false =>
  have HM := hide (show max s.win s.out = s.out by have h0 : ¬ s.out < s.win := (by simpa using hd); omega)
  go_enter Tryz.func113, Tryz.ntmps113
  go_wp2_with fail
  change Calls _ _ _ (w.alloc (.cells (setV s) 33)) _
  rw [← HW.out]
  refine C.out.mono ?_
  rintro e w1 ⟨rfl, hb1⟩
  have b1 := HB.out.below hb1
  have y2 : w1.cell? ⟨w.heap.size, 2, none⟩ = some (.int .i64 s.win) := by rw [b1.cell]; rfl
  have y3 : w1.cell? ⟨w.heap.size, 3, none⟩ = some (.int .i64 s.out) := by rw [b1.cell]; rfl
  have HB1 := hide (HL.out.trans (hb1.mono HL.out.size))
  clear b1 hb1
  go_wp2_with fail
  go_ret
  exact ⟨ret_int (by rw [HM.out]), HB1.out⟩
end Go.Proofs.YtdmdohjdmnmabaaGreat
namespace Go.Proofs.YtdmdohjdmnmabaaGreat
open Go.RowKit
set_option linter.unusedVariables false

def SixAt (w : World) (b : Nat) (s : SetM) : Prop := w.cell? ⟨b, 0, none⟩ = some (.int .i64 s.live) ∧ w.cell? ⟨b, 1, none⟩ = some (.int .i64 s.ring) ∧ w.cell? ⟨b, 2, none⟩ = some (.int .i64 s.win) ∧ w.cell? ⟨b, 3, none⟩ = some (.int .i64 s.out) ∧ w.cell? ⟨b, 4, none⟩ = some (.int .i64 s.quantum) ∧ w.cell? ⟨b, 5, none⟩ = some (.int .i64 s.visits)
theorem Blk.sixC {w : World} {b : Nat} {t : TypeId} {s : SetM} (h : Blk w b t (setV s)) : SixAt w b s := by
 refine ⟨?_, ?_, ?_, ?_, ?_, ?_⟩
 all_goals rw [h.cell]; rfl
set_option maxRecDepth 100000 in
set_option maxHeartbeats 3200000 in
theorem refTurns_c (s : SetM) (w : World) (hg : goodB s = true) : Calls Tryz.prog 89 #[.agg (setV s)] w fun e w' => e = .returned (.int .i64 (turnsS s)) ∧ Below w.heap.size w w' := by
 obtain ⟨_, _, _, _, ⟨h5, h6⟩, _⟩ := goodB_parts hg
 obtain ⟨t1, t2⟩ := turnsS_le hg
 obtain ⟨W, hW⟩ : ∃ W, W = w.alloc (.cells (setV s) 33) := ⟨_, rfl⟩
 have hL : Below w.heap.size w W := by rw [hW]; exact below_alloc _ _
 have hb : Blk W w.heap.size 33 (setV s) := by rw [hW]; exact Blk.new _ _ _
 have HM := hide (fun w' => refMost_c s w' hg)
 have HT := hide (turns_lt hg)
 obtain ⟨T, hT⟩ : ∃ T : Nat, (T : Int) = turnsS s := ⟨(turnsS s).toNat, by omega⟩
 rw [← hT] at HT t1 t2 ⊢
 obtain ⟨m, hm⟩ : ∃ m, m = mostS s := ⟨_, rfl⟩
 rw [← hm] at HM HT
 have HW := hide hW
 have HL := hide hL
 have HB := hide hb
 clear hg hW hL hb hm hT
 go_enter Tryz.func89, Tryz.ntmps89
 go_wp2_with fail
 go_loopw [3] (fun i wr => ∃ k : Nat, k ≤ T ∧ i = .int .i64 k ∧ Hid (Below W.heap.size W wr)) (fun i _ => T - (intOf i).toNat)
 case atStart =>
  refine ⟨0, Nat.zero_le _, rfl, ?_⟩
  rw [← HW.out]
  exact Below.refl _ _
 case round =>
  obtain ⟨k, hk, rfl, hbel⟩ := hrel
  obtain ⟨y0, y1, y2, y3, y4, y5⟩ := (HB.out.below hbel.out).sixC
  have hp1 : 0 ≤ (k : Int) * s.quantum := Int.mul_nonneg (by omega) (by omega)
  have hp2 : (k : Int) * s.quantum ≤ 4097 * 1000000 := Int.mul_le_mul (by omega) h6 (by omega) (by omega)
  have hw1 : IntKind.i64.wrap ((k : Int) * s.quantum) = (k : Int) * s.quantum := IntWalk.i64_in _ (by omega)
  have hiff := HT.out k
  by_cases hlt : k < T
  ·have hd : decide ((k : Int) * s.quantum < m) = true := by
    rw [decide_eq_true_iff]; exact hiff.2 (by omega)
   clear hiff
   go_wp2_with fail
   go_region_held3 (fun w' => w'.cell? ⟨w.heap.size, 0, none⟩ = some (.int .i64 s.live) ∧ w'.cell? ⟨w.heap.size, 1, none⟩ = some (.int .i64 s.ring) ∧ w'.cell? ⟨w.heap.size, 2, none⟩ = some (.int .i64 s.win) ∧ w'.cell? ⟨w.heap.size, 3, none⟩ = some (.int .i64 s.out) ∧ w'.cell? ⟨w.heap.size, 4, none⟩ = some (.int .i64 s.quantum) ∧ w'.cell? ⟨w.heap.size, 5, none⟩ = some (.int .i64 s.visits)) (go_keep)
    (first
      | (go_at_call 113
         refine (HM.out _).mono ?_
         rintro e w2 ⟨rfl, hb2⟩
         have v0 := bkeep hb2 y0
         have v1 := bkeep hb2 y1
         have v2 := bkeep hb2 y2
         have v3 := bkeep hb2 y3
         have v4 := bkeep hb2 y4
         have v5 := bkeep hb2 y5
         have HB2 := hide ((below_drew' hbel.out).trans (hb2.mono hbel.out.size))
         clear hb2))
   all_goals
    go_wp2_with fail
    go_roundw
    case rel => exact ⟨k + 1, by omega, by go_num, HB2⟩
    case measure => simp [intOf]; omega
  ·have hke : k = T := by omega
   subst hke
   have hd : decide ((k : Int) * s.quantum < m) = false := by
    rw [decide_eq_false_iff_not]; intro h; have := hiff.1 h; omega
   clear hiff
   go_wp2_with fail
   go_region_held3 (fun w' => w'.cell? ⟨w.heap.size, 0, none⟩ = some (.int .i64 s.live) ∧ w'.cell? ⟨w.heap.size, 1, none⟩ = some (.int .i64 s.ring) ∧ w'.cell? ⟨w.heap.size, 2, none⟩ = some (.int .i64 s.win) ∧ w'.cell? ⟨w.heap.size, 3, none⟩ = some (.int .i64 s.out) ∧ w'.cell? ⟨w.heap.size, 4, none⟩ = some (.int .i64 s.quantum) ∧ w'.cell? ⟨w.heap.size, 5, none⟩ = some (.int .i64 s.visits)) (go_keep)
    (first
      | (go_at_call 113
         refine (HM.out _).mono ?_
         rintro e w2 ⟨rfl, hb2⟩
         have v0 := bkeep hb2 y0
         have v1 := bkeep hb2 y1
         have v2 := bkeep hb2 y2
         have v3 := bkeep hb2 y3
         have v4 := bkeep hb2 y4
         have v5 := bkeep hb2 y5
         have HB2 := hide ((below_drew' hbel.out).trans (hb2.mono hbel.out.size))
         clear hb2))
   all_goals
    go_wp2_with fail
    go_ret
    exact ⟨rfl, HL.out.trans (HB2.out.mono HL.out.size)⟩
end Go.Proofs.YtdmdohjdmnmabaaGreat
namespace Go.Proofs.YtdmdohjdmnmabaaGreat
open Go.RowKit
set_option linter.unusedVariables false

set_option maxHeartbeats 1600000 in
theorem refWait_c (s : SetM) (w : World) (hg : goodB s = true) : Calls Tryz.prog 54 #[.agg (setV s)] w fun e w' => e = .returned (.int .i64 (waitS s)) ∧ Below w.heap.size w w' := by
 obtain ⟨_, _, _, ⟨h7, h8⟩, ⟨h5, h6⟩, _⟩ := goodB_parts hg
 obtain ⟨W, hW⟩ : ∃ W, W = w.alloc (.cells (setV s) 33) := ⟨_, rfl⟩
 have hL : Below w.heap.size w W := by rw [hW]; exact below_alloc _ _
 have hb : Blk W w.heap.size 33 (setV s) := by rw [hW]; exact Blk.new _ _ _
 have c := refcGood_c s W
 rw [hg] at c
 have C := hide c
 have HW := hide hW
 have HL := hide hL
 have HB := hide hb
 have hm := turnsS_le hg
 have HM := hide (fun w' => refTurns_c s w' hg)
 unfold waitS
 obtain ⟨m, hmm⟩ : ∃ m, m = turnsS s := ⟨_, rfl⟩
 rw [← hmm] at hm HM ⊢
 have hp1 : 0 ≤ s.live * m := Int.mul_nonneg (by omega) hm.1
 have hp2 : s.live * m ≤ 1024 * 4097 := Int.mul_le_mul h8 hm.2 hm.1 (by omega)
 have hw1 : IntKind.i64.wrap (s.live * m) = s.live * m := IntWalk.i64_in _ (by omega)
 clear hg c hW hL hb hmm
 go_enter Tryz.func54, Tryz.ntmps54
 go_wp2_with fail
 change Calls _ _ _ (w.alloc (.cells (setV s) 33)) _
 rw [← HW.out]
 refine C.out.mono ?_
 rintro e w1 ⟨rfl, hb1⟩
 obtain ⟨y0, y1, y2, y3, y4, y5⟩ := (HB.out.below hb1).sixC
 have HB1 := hide (HL.out.trans (hb1.mono HL.out.size))
 clear hb1
 go_wp2_with fail
 go_region_held3 (fun w' => w'.cell? ⟨w.heap.size, 0, none⟩ = some (.int .i64 s.live) ∧ w'.cell? ⟨w.heap.size, 1, none⟩ = some (.int .i64 s.ring) ∧ w'.cell? ⟨w.heap.size, 2, none⟩ = some (.int .i64 s.win) ∧ w'.cell? ⟨w.heap.size, 3, none⟩ = some (.int .i64 s.out) ∧ w'.cell? ⟨w.heap.size, 4, none⟩ = some (.int .i64 s.quantum) ∧ w'.cell? ⟨w.heap.size, 5, none⟩ = some (.int .i64 s.visits)) (go_keep)
  (first
    | (go_at_call 89
       refine (HM.out _).mono ?_
       rintro e w2 ⟨rfl, hb2⟩
       have v0 := bkeep hb2 y0
       have v1 := bkeep hb2 y1
       have v2 := bkeep hb2 y2
       have v3 := bkeep hb2 y3
       have v4 := bkeep hb2 y4
       have v5 := bkeep hb2 y5
       have HB2 := hide ((below_drew' HB1.out).trans (hb2.mono HB1.out.size))
       clear hb2))
 all_goals
  go_wp2_with fail
  go_ret
  exact ⟨rfl, HB2.out⟩
theorem waitS_le2 {s : SetM} (hg : goodB s = true) : 0 ≤ waitS s ∧ waitS s ≤ 5000000 := by
 obtain ⟨_, _, _, ⟨h7, h8⟩, _, _⟩ := goodB_parts hg
 obtain ⟨h1, h2⟩ := turnsS_le hg
 unfold waitS
 have e1 : 0 ≤ s.live * turnsS s := Int.mul_nonneg (by omega) h1
 have e2 : s.live * turnsS s ≤ 1024 * 4097 := Int.mul_le_mul h8 h2 h1 (by omega)
 omega
set_option maxHeartbeats 1600000 in
theorem refUntil_c (s : SetM) (at_ each : Int) (w : World) (hg : goodB s = true) (ha : at_ ≤ 9223372036854775807) (he : each ≤ 9223372036854775807) : Calls Tryz.prog 62 #[.agg (setV s), .int .i64 at_, .int .i64 each] w fun e w' => e = .returned (.int .i64 (untilS s at_ each)) ∧ Below w.heap.size w w' := by
 obtain ⟨W, hW⟩ : ∃ W, W = w.alloc (.cells (setV s) 33) := ⟨_, rfl⟩
 have hL : Below w.heap.size w W := by rw [hW]; exact below_alloc _ _
 have hb : Blk W w.heap.size 33 (setV s) := by rw [hW]; exact Blk.new _ _ _
 have c := refcGood_c s W
 rw [hg] at c
 have C := hide c
 have HW := hide hW
 have HL := hide hL
 have HB := hide hb
 have HM := hide (fun w' => refWait_c s w' hg)
 have hpg := until_page s at_ each hg
 obtain ⟨hw0, hw1⟩ := waitS_le2 hg
 obtain ⟨n, hn⟩ : ∃ n : Nat, (n : Int) = waitS s := ⟨(waitS s).toNat, by omega⟩
 rw [← hpg]
 rw [← hn] at HM hw1 ⊢
 have HT := hide (fun w' => refTimes_c each (n + 1) w' he (by omega))
 have HA1 := hide (fun w' => refAdd_c at_ (satT (ownT each * ((n + 1 : Nat) : Int))) w' ha (satT_le _))
 have e1 : ((n + 1 : Nat) : Int) = (n : Int) + 1 := by omega
 rw [e1] at HT HA1
 have hw2 : IntKind.i64.wrap ((n : Int) + 1) = (n : Int) + 1 := IntWalk.i64_in _ (by omega)
 clear hg c hW hL hb hn hw0 hpg e1
 go_enter Tryz.func62, Tryz.ntmps62
 go_wp2_with fail
 change Calls _ _ _ (w.alloc (.cells (setV s) 33)) _
 rw [← HW.out]
 refine C.out.mono ?_
 rintro e w1 ⟨rfl, hb1⟩
 obtain ⟨y0, y1, y2, y3, y4, y5⟩ := (HB.out.below hb1).sixC
 have HB1 := hide (HL.out.trans (hb1.mono HL.out.size))
 clear hb1
 go_wp2_with fail
 refine (HM.out _).mono ?_
 rintro e w2 ⟨rfl, hb2⟩
 have HB2 := hide (HB1.out.trans (hb2.mono HB1.out.size))
 clear hb2
 go_wp2_with fail
 refine (HT.out _).mono ?_
 rintro e w3 ⟨rfl, rfl⟩
 go_wp2_with fail
 refine (HA1.out _).mono ?_
 rintro e w3 ⟨rfl, rfl⟩
 go_wp2_with fail
 go_ret
 exact ⟨rfl, HB2.out⟩
end Go.Proofs.YtdmdohjdmnmabaaGreat
namespace Go.Proofs.YtdmdohjdmnmabaaGreat
open Go.RowKit
set_option linter.unusedVariables false

def boundB (s : SetM) (l : List Ev) (each : Int) : Bool := decide (0 ≤ idxK 7 l) && goodB s && decide (1 ≤ each) && !decide (untilS s (beginT l) each = 9223372036854775807) && decide (untilS s (beginT l) each ≤ clockOf 0 l)
def boundT (s : SetM) (l : List Ev) (each : Int) : Int := if boundB s l each = true then untilS s (beginT l) each else 0
theorem boundT_no {s : SetM} {l : List Ev} {each : Int} (h : boundB s l each = false) : boundT s l each = 0 := by unfold boundT; rw [h]; rfl
theorem boundT_yes {s : SetM} {l : List Ev} {each : Int} (h : boundB s l each = true) : boundT s l each = untilS s (beginT l) each := by unfold boundT; rw [if_pos h]
theorem boundB_iff {s : SetM} {l : List Ev} {each : Int} : boundB s l each = true ↔ 0 ≤ idxK 7 l ∧ goodB s = true ∧ 1 ≤ each ∧ untilS s (beginT l) each ≠ 9223372036854775807 ∧ untilS s (beginT l) each ≤ clockOf 0 l := by
 simp only [boundB, Bool.and_eq_true, Bool.not_eq_true', decide_eq_true_eq, decide_eq_false_iff_not]
 constructor
 ·rintro ⟨⟨⟨⟨a, b⟩, c⟩, d⟩, e⟩
  exact ⟨a, b, c, d, e⟩
 ·rintro ⟨a, b, c, d, e⟩
  exact ⟨⟨⟨⟨a, b⟩, c⟩, d⟩, e⟩
theorem boundB_not {s : SetM} {l : List Ev} {each : Int} (h : ¬ (0 ≤ idxK 7 l ∧ goodB s = true ∧ 1 ≤ each ∧ untilS s (beginT l) each ≠ 9223372036854775807 ∧ untilS s (beginT l) each ≤ clockOf 0 l)) : boundB s l each = false := by
 cases hb : boundB s l each with
 | false => rfl
 | true => exact absurd (boundB_iff.1 hb) h

end Go.Proofs.YtdmdohjdmnmabaaGreat
