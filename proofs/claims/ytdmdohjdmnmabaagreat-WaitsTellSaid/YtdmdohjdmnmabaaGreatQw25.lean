/- Parts of a chain of lemmas: ShelfG, GraceB. Conditions: those of each theorem. -/
import Derived.Test.YtdmdohjdmnmabaaGreatQw24
import Derived.Ground.NamesProg
import Derived.Shelf.Bits.Mul64
namespace Go.Proofs
open Go.Shelf
def Tryz.laysMul64_ren : Go.Shelf.Ren := ⟨fun | 264 => 135 | n => n, fun | 53 => 153 | 46 => 195 | n => n, fun | n => n⟩
theorem Tryz.laysMul64 : Go.Proofs.Lays.n264 Tryz.prog Tryz.laysMul64_ren := {
 mixed := by kernel_rfl
 f264 := Tryz.func135.trans (congrArg some (by kernel_rfl))
 t46 := Tryz.underlying195
 a46 := Tryz.isAgg195
 z46 := Tryz.sizeOf195
 v46 := Tryz.zeroValue195
 t53 := Tryz.underlying153
 a53 := Tryz.isAgg153
 z53 := Tryz.sizeOf153
 v53 := Tryz.zeroValue153 }
end Go.Proofs
namespace Go.Proofs.YtdmdohjdmnmabaaGreat
open Go.RowKit Go.Shelf
set_option linter.unusedVariables false

set_option maxHeartbeats 1600000 in
theorem Times_c (t : Int) (n : Nat) (w : World) (ht : t ≤ 9223372036854775807) (hn : n ≤ 1000000000) : Calls Tryz.prog 116 #[.int .i64 t, .int .i64 n] w fun e w' => e = .returned (.int .i64 (satT (ownT t * n))) ∧ w' = w := by
 by_cases h0 : n = 0
 ·subst h0
  have HI := hide (show satT (ownT t * ((0 : Nat) : Int)) = 0 by simp [satT])
  go_enter Tryz.func116, Tryz.ntmps116
  go_wp2_with fail
  go_ret
  exact ⟨ret_int HI.out.symm, rfl⟩
 ·have hd1 : decide ((n : Int) < 1) = false := by simp; omega
  by_cases h1 : t < 1
  ·have hd2 : decide (t < 1) = true := by simpa using h1
   have HI := hide (show satT (ownT t * (n : Int)) = 0 by
    have : ownT t = 0 := by unfold ownT; split <;> omega
    rw [this]; simp [satT])
   go_enter Tryz.func116, Tryz.ntmps116
   go_wp2_with fail
   go_ret
   exact ⟨ret_int HI.out.symm, rfl⟩
  ·have hd2 : decide (t < 1) = false := by simpa using h1
   obtain ⟨x, rfl⟩ : ∃ x : Nat, t = x := ⟨t.toNat, by omega⟩
   have C := hide (fun (w : World) => Any.bits_Mul64 Tryz.laysMul64 x n (by omega) (by omega) w)
   have ho : ownT (x : Int) = x := by unfold ownT; rw [if_neg (by omega)]
   have e : ownT (x : Int) * (n : Int) = ((x * n : Nat) : Int) := by rw [ho]; simp
   rw [e]
   obtain ⟨p, hp⟩ : ∃ p, p = x * n := ⟨_, rfl⟩
   rw [← hp] at C ⊢
   have hu1 : IntKind.u64.wrap (x : Int) = x := IntWalk.u64_in _ (by omega)
   have hu2 : IntKind.u64.wrap (n : Int) = n := IntWalk.u64_in _ (by omega)
   clear hp e ho
   by_cases h2 : p < 9223372036854775807
   ·have q1 : p / 18446744073709551616 = 0 := by omega
    have q2 : p % 18446744073709551616 = p := by omega
    rw [q1, q2] at C
    have HI := hide (show satT (p : Int) = p by unfold satT; rw [if_neg (by omega)])
    have hd3 : decide ((9223372036854775807 : Int) ≤ (p : Int)) = false := by simp; omega
    have hw : IntKind.i64.wrap (p : Int) = p := IntWalk.i64_in _ (by omega)
    go_enter Tryz.func116, Tryz.ntmps116
    go_wp2_with fail
    refine (C.out _).mono ?_
    rintro e w1 ⟨rfl, rfl⟩
    go_wp2_with fail
    go_ret
    exact ⟨ret_int HI.out.symm, rfl⟩
   ·have HI := hide (show satT (p : Int) = 9223372036854775807 by unfold satT; rw [if_pos (by omega)])
    obtain ⟨a, ha⟩ : ∃ a, a = p / 18446744073709551616 := ⟨_, rfl⟩
    obtain ⟨b, hb⟩ : ∃ b, b = p % 18446744073709551616 := ⟨_, rfl⟩
    have hab : 0 < a ∨ 9223372036854775807 ≤ b := by omega
    rw [← ha, ← hb] at C
    clear ha hb
    by_cases h3 : 0 < a
    ·have hd3 : decide ((0 : Int) < (a : Int)) = true := by simp; omega
     go_enter Tryz.func116, Tryz.ntmps116
     go_wp2_with fail
     refine (C.out _).mono ?_
     rintro e w1 ⟨rfl, rfl⟩
     go_wp2_with fail
     go_ret
     exact ⟨ret_int HI.out.symm, rfl⟩
    ·have hd3 : decide ((0 : Int) < (a : Int)) = false := by simp; omega
     have hd4 : decide ((9223372036854775807 : Int) ≤ (b : Int)) = true := by simp; omega
     go_enter Tryz.func116, Tryz.ntmps116
     go_wp2_with fail
     refine (C.out _).mono ?_
     rintro e w1 ⟨rfl, rfl⟩
     go_wp2_with fail
     go_ret
     exact ⟨ret_int HI.out.symm, rfl⟩
end Go.Proofs.YtdmdohjdmnmabaaGreat
namespace Go.Proofs.YtdmdohjdmnmabaaGreat
open Go.RowKit
set_option linter.unusedVariables false

structure SetM where
 live : Int
 ring : Int
 win : Int
 out : Int
 quantum : Int
 visits : Int
abbrev setV (s : SetM) : Array Value := #[.int .i64 s.live, .int .i64 s.ring, .int .i64 s.win, .int .i64 s.out, .int .i64 s.quantum, .int .i64 s.visits]
def inB (n m : Int) : Bool := decide (1 ≤ n) && decide (n ≤ m)
def goodB (s : SetM) : Bool := inB s.ring 4096 && inB s.win 4096 && inB s.out 4096 && inB s.live 1024 && inB s.quantum 1000000 && inB s.visits 64
theorem in_c (n m : Int) (w : World) : Calls Tryz.prog 111 #[.int .i64 n, .int .i64 m] w fun e w' => e = .returned (.bool (inB n m)) ∧ w' = w := by
 unfold inB
 cases h1 : decide (1 ≤ n) with
 | false =>
  go_enter Tryz.func111, Tryz.ntmps111
  go_wp2_with fail
  go_ret
  exact ⟨rfl, rfl⟩
 | true =>
  cases h2 : decide (n ≤ m) with
  | false =>
   go_enter Tryz.func111, Tryz.ntmps111
   go_wp2_with fail
   go_ret
   exact ⟨rfl, rfl⟩
  | true =>
   go_enter Tryz.func111, Tryz.ntmps111
   go_wp2_with fail
   go_ret
   exact ⟨rfl, rfl⟩
end Go.Proofs.YtdmdohjdmnmabaaGreat
namespace Go.Proofs.YtdmdohjdmnmabaaGreat
open Go.RowKit
set_option linter.unusedVariables false

set_option maxHeartbeats 3200000 in
theorem cgood_c (s : SetM) (w : World) : Calls Tryz.prog 86 #[.agg (setV s)] w fun e w' => e = .returned (.bool (goodB s)) ∧ Below w.heap.size w w' := by
 unfold goodB
 cases h0 : inB s.ring 4096 with
 | false =>
  go_enter Tryz.func86, Tryz.ntmps86
  go_wp2_with (go_at_call 111; refine (in_c _ _ _).mono ?_; rintro e w1 ⟨rfl, rfl⟩)
  go_ret
  exact ⟨rfl, below_alloc _ _⟩
 | true =>
  cases h1 : inB s.win 4096 with
  | false =>
   go_enter Tryz.func86, Tryz.ntmps86
   go_wp2_with (go_at_call 111; refine (in_c _ _ _).mono ?_; rintro e w1 ⟨rfl, rfl⟩)
   go_ret
   exact ⟨rfl, below_alloc _ _⟩
  | true =>
   cases h2 : inB s.out 4096 with
   | false =>
    go_enter Tryz.func86, Tryz.ntmps86
    go_wp2_with (go_at_call 111; refine (in_c _ _ _).mono ?_; rintro e w1 ⟨rfl, rfl⟩)
    go_ret
    exact ⟨rfl, below_alloc _ _⟩
   | true =>
    cases h3 : inB s.live 1024 with
    | false =>
     go_enter Tryz.func86, Tryz.ntmps86
     go_wp2_with (go_at_call 111; refine (in_c _ _ _).mono ?_; rintro e w1 ⟨rfl, rfl⟩)
     go_ret
     exact ⟨rfl, below_alloc _ _⟩
    | true =>
     cases h4 : inB s.quantum 1000000 with
     | false =>
      go_enter Tryz.func86, Tryz.ntmps86
      go_wp2_with (go_at_call 111; refine (in_c _ _ _).mono ?_; rintro e w1 ⟨rfl, rfl⟩)
      go_ret
      exact ⟨rfl, below_alloc _ _⟩
     | true =>
      cases h5 : inB s.visits 64 with
      | false =>
       go_enter Tryz.func86, Tryz.ntmps86
       go_wp2_with (go_at_call 111; refine (in_c _ _ _).mono ?_; rintro e w1 ⟨rfl, rfl⟩)
       go_ret
       exact ⟨rfl, below_alloc _ _⟩
      | true =>
       go_enter Tryz.func86, Tryz.ntmps86
       go_wp2_with (go_at_call 111; refine (in_c _ _ _).mono ?_; rintro e w1 ⟨rfl, rfl⟩)
       go_ret
       exact ⟨rfl, below_alloc _ _⟩
end Go.Proofs.YtdmdohjdmnmabaaGreat
namespace Go.Proofs.YtdmdohjdmnmabaaGreat
open Go.RowKit
set_option linter.unusedVariables false

theorem cGood_c (s : SetM) (w : World) : Calls Tryz.prog 49 #[.agg (setV s)] w fun e w' => e = .returned (.bool (goodB s)) ∧ Below w.heap.size w w' := by
 have hL : Below w.heap.size w (w.alloc (.cells (setV s) 33)) := below_alloc _ _
 have C := hide (cgood_c s)
 have HL := hide hL
 clear hL
 go_enter Tryz.func49, Tryz.ntmps49
 go_wp2_with fail
 refine (C.out _).mono ?_
 rintro e w1 ⟨rfl, hb1⟩
 go_wp2_with fail
 go_ret
 first
  | exact ⟨rfl, hb1⟩
  | exact ⟨rfl, HL.out.trans (hb1.mono HL.out.size)⟩
def mostS (s : SetM) : Int := 1 + max s.win s.out
theorem most_c (s : SetM) (w : World) (h1 : 1 ≤ s.win) (h2 : s.win ≤ 4096) (h3 : 1 ≤ s.out) (h4 : s.out ≤ 4096) : Calls Tryz.prog 133 #[.agg (setV s)] w fun e w' => e = .returned (.int .i64 (mostS s)) ∧ Below w.heap.size w w' := by
 unfold mostS
 have hw : IntKind.i64.wrap (1 + max s.win s.out) = 1 + max s.win s.out := IntWalk.i64_in _ (by omega)
 go_enter Tryz.func133, Tryz.ntmps133
 go_wp2_with fail
 go_ret
 exact ⟨rfl, below_alloc _ _⟩
end Go.Proofs.YtdmdohjdmnmabaaGreat
namespace Go.Proofs.YtdmdohjdmnmabaaGreat
open Go.RowKit
set_option linter.unusedVariables false

def turnsS (s : SetM) : Int := (mostS s + s.quantum - 1) / s.quantum
theorem goodB_parts {s : SetM} (h : goodB s = true) : (1 ≤ s.ring ∧ s.ring ≤ 4096) ∧ (1 ≤ s.win ∧ s.win ≤ 4096) ∧ (1 ≤ s.out ∧ s.out ≤ 4096) ∧ (1 ≤ s.live ∧ s.live ≤ 1024) ∧ (1 ≤ s.quantum ∧ s.quantum ≤ 1000000) ∧ 1 ≤ s.visits ∧ s.visits ≤ 64 := by
 simp only [goodB, inB, Bool.and_eq_true, decide_eq_true_eq] at h
 omega
set_option maxHeartbeats 1600000 in
theorem turns_c (s : SetM) (w : World) (hg : goodB s = true) : Calls Tryz.prog 112 #[.agg (setV s)] w fun e w' => e = .returned (.int .i64 (turnsS s)) ∧ Below w.heap.size w w' := by
 obtain ⟨_, ⟨h1, h2⟩, ⟨h3, h4⟩, _, ⟨h5, h6⟩, _⟩ := goodB_parts hg
 obtain ⟨W, hW⟩ : ∃ W, W = w.alloc (.cells (setV s) 33) := ⟨_, rfl⟩
 have hL : Below w.heap.size w W := by rw [hW]; exact below_alloc _ _
 have hb : Blk W w.heap.size 33 (setV s) := by rw [hW]; exact Blk.new _ _ _
 have c := cgood_c s W
 rw [hg] at c
 have C := hide c
 have HW := hide hW
 have HL := hide hL
 have HB := hide hb
 have hm : 1 ≤ mostS s ∧ mostS s ≤ 4097 := by unfold mostS; omega
 have HM := hide (fun w' => most_c s w' h1 h2 h3 h4)
 unfold turnsS
 obtain ⟨m, hmm⟩ : ∃ m, m = mostS s := ⟨_, rfl⟩
 rw [← hmm] at hm HM ⊢
 have hw1 : IntKind.i64.wrap (m + s.quantum) = m + s.quantum := IntWalk.i64_in _ (by omega)
 have hw2 : IntKind.i64.wrap (m + s.quantum - 1) = m + s.quantum - 1 := IntWalk.i64_in _ (by omega)
 have hq0 : ¬ s.quantum = 0 := by omega
 have hq1 : (s.quantum == 0) = false := by simp; omega
 have hdiv : Int.tdiv (m + s.quantum - 1) s.quantum = (m + s.quantum - 1) / s.quantum := Int.tdiv_eq_ediv_of_nonneg (by omega)
 have hq : 0 ≤ (m + s.quantum - 1) / s.quantum := Int.ediv_nonneg (by omega) (by omega)
 have hq2 : (m + s.quantum - 1) / s.quantum ≤ m + s.quantum - 1 := Int.ediv_le_self _ (by omega)
 have hw3 : IntKind.i64.wrap ((m + s.quantum - 1) / s.quantum) = (m + s.quantum - 1) / s.quantum := IntWalk.i64_in _ (by omega)
 clear hg c hW hL hb hmm h1 h2 h3 h4
 go_enter Tryz.func112, Tryz.ntmps112
 go_wp2_with fail
 change Calls _ _ _ (w.alloc (.cells (setV s) 33)) _
 rw [← HW.out]
 refine C.out.mono ?_
 rintro e w1 ⟨rfl, hb1⟩
 have b1 := HB.out.below hb1
 have y0 : w1.cell? ⟨w.heap.size, 0, none⟩ = some (.int .i64 s.live) := by rw [b1.cell]; rfl
 have y1 : w1.cell? ⟨w.heap.size, 1, none⟩ = some (.int .i64 s.ring) := by rw [b1.cell]; rfl
 have y2 : w1.cell? ⟨w.heap.size, 2, none⟩ = some (.int .i64 s.win) := by rw [b1.cell]; rfl
 have y3 : w1.cell? ⟨w.heap.size, 3, none⟩ = some (.int .i64 s.out) := by rw [b1.cell]; rfl
 have y4 : w1.cell? ⟨w.heap.size, 4, none⟩ = some (.int .i64 s.quantum) := by rw [b1.cell]; rfl
 have y5 : w1.cell? ⟨w.heap.size, 5, none⟩ = some (.int .i64 s.visits) := by rw [b1.cell]; rfl
 have HB1 := hide (HL.out.trans (hb1.mono HL.out.size))
 clear b1 hb1
 go_wp2_with fail
 go_region_held3 (fun w' => w'.cell? ⟨w.heap.size, 0, none⟩ = some (.int .i64 s.live) ∧ w'.cell? ⟨w.heap.size, 1, none⟩ = some (.int .i64 s.ring) ∧ w'.cell? ⟨w.heap.size, 2, none⟩ = some (.int .i64 s.win) ∧ w'.cell? ⟨w.heap.size, 3, none⟩ = some (.int .i64 s.out) ∧ w'.cell? ⟨w.heap.size, 4, none⟩ = some (.int .i64 s.quantum) ∧ w'.cell? ⟨w.heap.size, 5, none⟩ = some (.int .i64 s.visits)) (go_keep)
  (first
    | (go_at_call 133
       refine (HM.out _).mono ?_
       rintro e w2 ⟨rfl, hb2⟩
       have v0 := bkeep hb2 y0
       have v1 := bkeep hb2 y1
       have v2 := bkeep hb2 y2
       have v3 := bkeep hb2 y3
       have v4 := bkeep hb2 y4
       have v5 := bkeep hb2 y5
       have HB2 := hide ((below_drew' HB1.out).trans (hb2.mono HB1.out.size))
       clear hb2))
 all_goals
  go_wp2_with fail
  go_ret
  exact ⟨rfl, HB2.out⟩
end Go.Proofs.YtdmdohjdmnmabaaGreat
namespace Go.Proofs.YtdmdohjdmnmabaaGreat
open Go.RowKit
set_option linter.unusedVariables false

def waitS (s : SetM) : Int := s.live * turnsS s
set_option maxHeartbeats 1600000 in
theorem wait_c (s : SetM) (w : World) (hg : goodB s = true) : Calls Tryz.prog 87 #[.agg (setV s)] w fun e w' => e = .returned (.int .i64 (waitS s)) ∧ Below w.heap.size w w' := by
 obtain ⟨_, ⟨h1, h2⟩, ⟨h3, h4⟩, ⟨h7, h8⟩, ⟨h5, h6⟩, _⟩ := goodB_parts hg
 obtain ⟨W, hW⟩ : ∃ W, W = w.alloc (.cells (setV s) 33) := ⟨_, rfl⟩
 have hL : Below w.heap.size w W := by rw [hW]; exact below_alloc _ _
 have hb : Blk W w.heap.size 33 (setV s) := by rw [hW]; exact Blk.new _ _ _
 have c := cgood_c s W
 rw [hg] at c
 have C := hide c
 have HW := hide hW
 have HL := hide hL
 have HB := hide hb
 have hm : 0 ≤ turnsS s ∧ turnsS s ≤ 1004096 := by
  have hmm : 1 ≤ mostS s ∧ mostS s ≤ 4097 := by unfold mostS; omega
  unfold turnsS
  have := Int.ediv_nonneg (a := mostS s + s.quantum - 1) (b := s.quantum) (by omega) (by omega)
  have := Int.ediv_le_self (a := mostS s + s.quantum - 1) s.quantum (by omega)
  omega
 have HM := hide (fun w' => turns_c s w' hg)
 unfold waitS
 obtain ⟨m, hmm⟩ : ∃ m, m = turnsS s := ⟨_, rfl⟩
 rw [← hmm] at hm HM ⊢
 have hp1 : 0 ≤ s.live * m := Int.mul_nonneg (by omega) hm.1
 have hp2 : s.live * m ≤ 1024 * 1004096 := Int.mul_le_mul h8 hm.2 hm.1 (by omega)
 have hw1 : IntKind.i64.wrap (s.live * m) = s.live * m := IntWalk.i64_in _ (by omega)
 clear hg c hW hL hb hmm h1 h2 h3 h4
 go_enter Tryz.func87, Tryz.ntmps87
 go_wp2_with fail
 change Calls _ _ _ (w.alloc (.cells (setV s) 33)) _
 rw [← HW.out]
 refine C.out.mono ?_
 rintro e w1 ⟨rfl, hb1⟩
 have b1 := HB.out.below hb1
 have y0 : w1.cell? ⟨w.heap.size, 0, none⟩ = some (.int .i64 s.live) := by rw [b1.cell]; rfl
 have y1 : w1.cell? ⟨w.heap.size, 1, none⟩ = some (.int .i64 s.ring) := by rw [b1.cell]; rfl
 have y2 : w1.cell? ⟨w.heap.size, 2, none⟩ = some (.int .i64 s.win) := by rw [b1.cell]; rfl
 have y3 : w1.cell? ⟨w.heap.size, 3, none⟩ = some (.int .i64 s.out) := by rw [b1.cell]; rfl
 have y4 : w1.cell? ⟨w.heap.size, 4, none⟩ = some (.int .i64 s.quantum) := by rw [b1.cell]; rfl
 have y5 : w1.cell? ⟨w.heap.size, 5, none⟩ = some (.int .i64 s.visits) := by rw [b1.cell]; rfl
 have HB1 := hide (HL.out.trans (hb1.mono HL.out.size))
 clear b1 hb1
 go_wp2_with fail
 go_region_held3 (fun w' => w'.cell? ⟨w.heap.size, 0, none⟩ = some (.int .i64 s.live) ∧ w'.cell? ⟨w.heap.size, 1, none⟩ = some (.int .i64 s.ring) ∧ w'.cell? ⟨w.heap.size, 2, none⟩ = some (.int .i64 s.win) ∧ w'.cell? ⟨w.heap.size, 3, none⟩ = some (.int .i64 s.out) ∧ w'.cell? ⟨w.heap.size, 4, none⟩ = some (.int .i64 s.quantum) ∧ w'.cell? ⟨w.heap.size, 5, none⟩ = some (.int .i64 s.visits)) (go_keep)
  (first
    | (go_at_call 112
       refine (HM.out _).mono ?_
       rintro e w2 ⟨rfl, hb2⟩
       have v0 := bkeep hb2 y0
       have v1 := bkeep hb2 y1
       have v2 := bkeep hb2 y2
       have v3 := bkeep hb2 y3
       have v4 := bkeep hb2 y4
       have v5 := bkeep hb2 y5
       have HB2 := hide ((below_drew' HB1.out).trans (hb2.mono HB1.out.size))
       clear hb2))
 all_goals
  go_wp2_with fail
  go_ret
  exact ⟨rfl, HB2.out⟩
end Go.Proofs.YtdmdohjdmnmabaaGreat
namespace Go.Proofs.YtdmdohjdmnmabaaGreat
open Go.RowKit
set_option linter.unusedVariables false

theorem addT_le (a b : Int) : addT a b ≤ 9223372036854775807 := by unfold addT; split <;> omega
def untilS (s : SetM) (at_ each : Int) : Int := addT (addT at_ (satT (ownT each * waitS s))) each
set_option maxHeartbeats 1600000 in
theorem Until_c (s : SetM) (at_ each : Int) (w : World) (hg : goodB s = true) (hw0 : 0 ≤ waitS s ∧ waitS s ≤ 1000000000) (ha : at_ ≤ 9223372036854775807) (he : each ≤ 9223372036854775807) : Calls Tryz.prog 92 #[.agg (setV s), .int .i64 at_, .int .i64 each] w fun e w' => e = .returned (.int .i64 (untilS s at_ each)) ∧ Below w.heap.size w w' := by
 obtain ⟨W, hW⟩ : ∃ W, W = w.alloc (.cells (setV s) 33) := ⟨_, rfl⟩
 have hL : Below w.heap.size w W := by rw [hW]; exact below_alloc _ _
 have hb : Blk W w.heap.size 33 (setV s) := by rw [hW]; exact Blk.new _ _ _
 have c := cgood_c s W
 rw [hg] at c
 have C := hide c
 have HW := hide hW
 have HL := hide hL
 have HB := hide hb
 have HM := hide (fun w' => wait_c s w' hg)
 obtain ⟨n, hn⟩ : ∃ n : Nat, (n : Int) = waitS s := ⟨(waitS s).toNat, by omega⟩
 unfold untilS
 rw [← hn] at HM ⊢
 have HT := hide (fun w' => Times_c each n w' he (by omega))
 have HA1 := hide (fun w' => Add_c at_ (satT (ownT each * n)) w' ha (satT_le _))
 have HA2 := hide (fun w' => Add_c (addT at_ (satT (ownT each * n))) each w' (addT_le _ _) he)
 clear hg c hW hL hb hn hw0
 go_enter Tryz.func92, Tryz.ntmps92
 go_wp2_with fail
 change Calls _ _ _ (w.alloc (.cells (setV s) 33)) _
 rw [← HW.out]
 refine C.out.mono ?_
 rintro e w1 ⟨rfl, hb1⟩
 have b1 := HB.out.below hb1
 have y0 : w1.cell? ⟨w.heap.size, 0, none⟩ = some (.int .i64 s.live) := by rw [b1.cell]; rfl
 have y1 : w1.cell? ⟨w.heap.size, 1, none⟩ = some (.int .i64 s.ring) := by rw [b1.cell]; rfl
 have y2 : w1.cell? ⟨w.heap.size, 2, none⟩ = some (.int .i64 s.win) := by rw [b1.cell]; rfl
 have y3 : w1.cell? ⟨w.heap.size, 3, none⟩ = some (.int .i64 s.out) := by rw [b1.cell]; rfl
 have y4 : w1.cell? ⟨w.heap.size, 4, none⟩ = some (.int .i64 s.quantum) := by rw [b1.cell]; rfl
 have y5 : w1.cell? ⟨w.heap.size, 5, none⟩ = some (.int .i64 s.visits) := by rw [b1.cell]; rfl
 have HB1 := hide (HL.out.trans (hb1.mono HL.out.size))
 clear b1 hb1
 go_wp2_with fail
 refine (HM.out _).mono ?_
 rintro e w2 ⟨rfl, hb2⟩
 have HB2 := hide (HB1.out.trans (hb2.mono HB1.out.size))
 clear hb2
 go_wp2_with fail
 refine (HT.out _).mono ?_
 rintro e w3 ⟨rfl, rfl⟩
 go_wp2_with fail
 refine (HA1.out _).mono ?_
 rintro e w3 ⟨rfl, rfl⟩
 go_wp2_with fail
 refine (HA2.out _).mono ?_
 rintro e w3 ⟨rfl, rfl⟩
 go_wp2_with fail
 go_ret
 exact ⟨rfl, HB2.out⟩
end Go.Proofs.YtdmdohjdmnmabaaGreat
