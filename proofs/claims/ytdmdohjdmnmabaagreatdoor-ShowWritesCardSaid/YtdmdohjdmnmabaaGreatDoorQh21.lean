/- Parts of a chain of lemmas: Check, Prg1. Conditions: those of each theorem. -/
import Derived.Test.YtdmdohjdmnmabaaGreatDoorQh20
import Derived.Test.YtdmdohjdmnmabaaGreatDoorQh07
namespace Go.Proofs.YtdmdohjdmnmabaaGreatDoor
open Go.RowKit
set_option linter.unusedVariables false

set_option maxRecDepth 100000 in
set_option maxHeartbeats 3200000 in
theorem acompile_c (s : ByteArray) (w : World) (hs : s.size ≤ 9223372036854775807) : Calls Tryz.prog 160 #[.string s] w fun e w' =>
 ∃ p : Option Addr, e = .returned (.tuple #[.pointer p, .int .i64 (checkS s.data.toList).1, .int .i64 (checkS s.data.toList).2]) ∧ Only NoBlk w w' := by
 have HP := hide (Parse_c s w hs)
 obtain ⟨L, hL⟩ : ∃ L, L = s.data.toList := ⟨_, rfl⟩
 rw [← hL] at HP ⊢
 clear hL
 go_enter Tryz.func160, Tryz.ntmps160
 go_wp2_with fail
 refine HP.out.mono ?_
 rintro e w2 ⟨A, c, its, rfl, hm, hok, hl, hr, ho⟩
 have HC := hide (Compile_c A c its w2 hr hl hok)
 have HO := hide ho
 by_cases hb : (parsesS 0 L).2.2 = 0
 ·have hm' := hm hb
  rw [hm'] at HC
  have HQ := hide (show checkS L = if (parsesS 0 L).1.all id = true then (0, 9) else (0, 0) by unfold checkS; rw [if_neg (by simp [hb])])
  obtain ⟨n, hn⟩ : ∃ n, n = its.length := ⟨_, rfl⟩
  rw [← hn] at HC ⊢
  rw [hb]
  clear hm hm' hok hl hr ho hb hn
  cases hall : (parsesS 0 L).1.all id with
  | true =>
   rw [hall] at HC HQ
   rw [if_pos rfl] at HC HQ
   clear hall
   go_wp2_with fail
   refine HC.out.mono ?_
   rintro e w3 ⟨p, rfl, hb3⟩
   have HO3 := hide (HO.out.trans (Only.of_below hb3 _))
   clear hb3
   go_wp2_with fail
   refine bodyPost_ret (v := .tuple #[.pointer p, .int .i64 0, .int .i64 9]) (by simp [results, Tryz.results160, go_sem]) rfl ?_
   rw [HQ.out]
   exact ⟨p, rfl, HO3.out⟩
  | false =>
   rw [hall] at HC HQ
   rw [if_neg (by simp)] at HC HQ
   clear hall
   go_wp2_with fail
   refine HC.out.mono ?_
   rintro e w3 ⟨p, rfl, hb3⟩
   have HO3 := hide (HO.out.trans (Only.of_below hb3 _))
   clear hb3
   go_wp2_with fail
   refine bodyPost_ret (v := .tuple #[.pointer p, .int .i64 0, .int .i64 0]) (by simp [results, Tryz.results160, go_sem]) rfl ?_
   rw [HQ.out]
   exact ⟨p, rfl, HO3.out⟩
 ·have HQ := hide (show checkS L = (parsesS 0 L).2 by unfold checkS; rw [if_pos hb])
  obtain ⟨r0, a0, b0, h3⟩ : ∃ r0 a0 b0, parsesS 0 L = (r0, a0, b0) := ⟨_, _, _, rfl⟩
  rw [h3] at HQ hb ⊢
  simp only at HQ hb ⊢
  have hbe : ((b0 : Int) != 0) = true := by simp only [bne_iff_ne, ne_eq]; omega
  clear h3 hm hb HC
  go_wp2_with fail
  refine bodyPost_ret (v := .tuple #[.pointer none, .int .i64 a0, .int .i64 b0]) (by simp [results, Tryz.results160, go_sem]) rfl ?_
  rw [HQ.out]
  exact ⟨none, rfl, HO.out⟩
set_option maxRecDepth 100000 in
set_option maxHeartbeats 3200000 in
theorem Check_c (s : ByteArray) (w : World) (hs : s.size ≤ 9223372036854775807) : Calls Tryz.prog 136 #[.string s] w fun e w' =>
 e = .returned (.tuple #[.int .i64 (checkS s.data.toList).1, .int .i64 (checkS s.data.toList).2]) ∧ Only NoBlk w w' := by
 have HP := hide (acompile_c s w hs)
 obtain ⟨a0, b0, h3⟩ : ∃ a0 b0, checkS s.data.toList = (a0, b0) := ⟨_, _, rfl⟩
 rw [h3] at HP ⊢
 clear h3
 go_enter Tryz.func136, Tryz.ntmps136
 go_wp2_with fail
 refine HP.out.mono ?_
 rintro e w2 ⟨p, rfl, ho⟩
 go_wp2_with fail
 refine bodyPost_ret (v := .tuple #[.int .i64 a0, .int .i64 b0]) (by simp [results, Tryz.results136, go_sem]) rfl ?_
 exact ⟨rfl, ho⟩
end Go.Proofs.YtdmdohjdmnmabaaGreatDoor
namespace Go.Proofs.YtdmdohjdmnmabaaGreatDoor
open Go.RowKit
set_option linter.unusedVariables false

def encArm (a : ArmM) : List Value := [.string a.pat, .int .i64 a.to]
theorem encArm_len (a : ArmM) : (encArm a).length = 2 := rfl
/-- an op, and where its arms lie -/
structure OpV where
 o : OpM
 A : Option Addr
 c : Nat
def opV (k : Int) (t : ByteArray) (n gt : Int) (A : Option Addr) (m c : Nat) (x y : Int) : Array Value := #[.int .i64 k, .string t, .int .i64 n, .int .i64 gt, .slice A m c, .int .i64 x, .int .i64 y]
def encOp (v : OpV) : List Value := [.int .i64 v.o.kind, .string v.o.text, .int .i64 v.o.n, .int .i64 v.o.to, .slice v.A v.o.arms.length v.c, .int .i64 v.o.onT, .int .i64 v.o.onE]
theorem encOp_len (v : OpV) : (encOp v).length = 7 := rfl
def progV (s : ByteArray) (d j : Int) (A : Option Addr) (n c : Nat) : Array Value := #[.string s, .int .i64 d, .int .i64 j, .slice A n c]
set_option maxRecDepth 100000 in
set_option maxHeartbeats 1600000 in
theorem in64_c (n a b : Int) (w : World) : Calls Tryz.prog 83 #[.int .i64 n, .int .i64 a, .int .i64 b] w fun e w' => e = .returned (.bool (decide (a ≤ n) && decide (n ≤ b))) ∧ w' = w := by
 cases h1 : decide (a ≤ n) with
 | false =>
  go_enter Tryz.func83, Tryz.ntmps83
  go_wp2_with fail
  go_ret
  exact ⟨rfl, rfl⟩
 | true =>
  go_enter Tryz.func83, Tryz.ntmps83
  go_wp2_with fail
  go_ret
  exact ⟨rfl, rfl⟩
set_option maxRecDepth 100000 in
set_option maxHeartbeats 1600000 in
theorem pin_c (n a b : Int) (w : World) : Calls Tryz.prog 84 #[.int .i64 n, .int .i64 a, .int .i64 b] w fun e w' => e = .returned (.bool (decide (a ≤ n) && decide (n ≤ b))) ∧ w' = w := by
 cases h1 : decide (a ≤ n) with
 | false =>
  go_enter Tryz.func84, Tryz.ntmps84
  go_wp2_with fail
  go_ret
  exact ⟨rfl, rfl⟩
 | true =>
  go_enter Tryz.func84, Tryz.ntmps84
  go_wp2_with fail
  go_ret
  exact ⟨rfl, rfl⟩
set_option maxRecDepth 100000 in
set_option maxHeartbeats 1600000 in
theorem comes_c (s : ByteArray) (d j : Int) (A : Option Addr) (n c : Nat) (gt : Int) (w : World) : Calls Tryz.prog 113 #[.agg #[.string s, .int .i64 d, .int .i64 j, .slice A n c], .int .i64 gt] w fun e w' => e = .returned (.bool (comesB n gt)) ∧ Below w.heap.size w w' := by
 unfold comesB
 cases h1 : decide (0 ≤ gt) with
 | false =>
  go_enter Tryz.func113, Tryz.ntmps113
  go_wp2_with fail
  go_ret
  exact ⟨rfl, below_alloc _ _⟩
 | true =>
  go_enter Tryz.func113, Tryz.ntmps113
  go_wp2_with fail
  go_ret
  exact ⟨rfl, below_alloc _ _⟩
/-- an op with the fields alone that its kind has -/
def bareV (k : Int) (t : ByteArray) (n gt : Int) (A : Option Addr) (m c : Nat) (x y : Int) : Array Value :=
 if k = 1 then opV k t 0 0 none 0 0 0 0 else if k = 2 then opV k ⟨#[]⟩ n 0 A m c x y else if k = 3 then opV k ⟨#[]⟩ 0 gt none 0 0 0 0 else if k = 4 then opV k ⟨#[]⟩ n 0 none 0 0 0 0 else opV k ⟨#[]⟩ 0 0 none 0 0 0 0
set_option maxRecDepth 100000 in
set_option maxHeartbeats 3200000 in
theorem bare_c (k : Int) (t : ByteArray) (n gt : Int) (A : Option Addr) (m c : Nat) (x y : Int) (w : World) :
 Calls Tryz.prog 111 #[.agg #[.int .i64 k, .string t, .int .i64 n, .int .i64 gt, .slice A m c, .int .i64 x, .int .i64 y]] w fun e w' => e = .returned (.agg (bareV k t n gt A m c x y)) ∧ Below w.heap.size w w' := by
 unfold bareV opV
 by_cases h1 : k = 1
 ·subst h1
  go_enter Tryz.func111, Tryz.ntmps111
  go_wp2_with fail
  refine bodyPost_ret (v := .agg #[.int .i64 1, .string t, .int .i64 0, .int .i64 0, .slice none 0 0, .int .i64 0, .int .i64 0]) (by simp [results, Tryz.results111, go_sem]) rfl ?_
  exact ⟨by simp, ((below_alloc w _).alloc (by simp) _).alloc (by simp <;> omega) _⟩
 have b1 : (k == 1) = false := by simp [h1]
 by_cases h2 : k = 2
 ·subst h2
  go_enter Tryz.func111, Tryz.ntmps111
  go_upto_region 6 with fail
  go_region
  go_wp2_with fail
  refine bodyPost_ret (v := .agg #[.int .i64 2, .string ⟨#[]⟩, .int .i64 n, .int .i64 0, .slice A m c, .int .i64 x, .int .i64 y]) (by simp [results, Tryz.results111, go_sem]) rfl ?_
  exact ⟨by simp, below_dr (((below_alloc w _).alloc (by simp) _).alloc (by simp <;> omega) _)⟩
 have b2 : (k == 2) = false := by simp [h2]
 by_cases h3 : k = 3
 ·subst h3
  go_enter Tryz.func111, Tryz.ntmps111
  go_wp2_with fail
  refine bodyPost_ret (v := .agg #[.int .i64 3, .string ⟨#[]⟩, .int .i64 0, .int .i64 gt, .slice none 0 0, .int .i64 0, .int .i64 0]) (by simp [results, Tryz.results111, go_sem]) rfl ?_
  exact ⟨by simp, ((below_alloc w _).alloc (by simp) _).alloc (by simp <;> omega) _⟩
 have b3 : (k == 3) = false := by simp [h3]
 by_cases h4 : k = 4
 ·subst h4
  go_enter Tryz.func111, Tryz.ntmps111
  go_wp2_with fail
  refine bodyPost_ret (v := .agg #[.int .i64 4, .string ⟨#[]⟩, .int .i64 n, .int .i64 0, .slice none 0 0, .int .i64 0, .int .i64 0]) (by simp [results, Tryz.results111, go_sem]) rfl ?_
  exact ⟨by simp, ((below_alloc w _).alloc (by simp) _).alloc (by simp <;> omega) _⟩
 have b4 : (k == 4) = false := by simp [h4]
 rw [if_neg h1, if_neg h2, if_neg h3, if_neg h4]
 clear h1 h2 h3 h4
 go_enter Tryz.func111, Tryz.ntmps111
 go_wp2_with fail
 refine bodyPost_ret (v := .agg #[.int .i64 k, .string ⟨#[]⟩, .int .i64 0, .int .i64 0, .slice none 0 0, .int .i64 0, .int .i64 0]) (by simp [results, Tryz.results111, go_sem]) rfl ?_
 exact ⟨by simp, ((below_alloc w _).alloc (by simp) _).alloc (by simp <;> omega) _⟩
end Go.Proofs.YtdmdohjdmnmabaaGreatDoor
