/- Scripts, by the program: small ones. Conditions: those of each theorem. -/
import Derived.Test.YtdmdohjdmnmabaaGreatCheck
import Derived.Test.YtdmdohjdmnmabaaGreatProgP
namespace Go.Proofs.YtdmdohjdmnmabaaGreat
open Go.RowKit
set_option linter.unusedVariables false

def encArm (a : ArmM) : List Value := [.string a.pat, .int .i64 a.to]
theorem encArm_len (a : ArmM) : (encArm a).length = 2 := rfl
/-- an op, and where its arms lie -/
structure OpV where
  o : OpM
  A : Option Addr
  c : Nat
def opV (k : Int) (t : ByteArray) (n gt : Int) (A : Option Addr) (m c : Nat) (x y : Int) : Array Value := #[.int .i64 k, .string t, .int .i64 n, .int .i64 gt, .slice A m c, .int .i64 x, .int .i64 y]
def encOp (v : OpV) : List Value := [.int .i64 v.o.kind, .string v.o.text, .int .i64 v.o.n, .int .i64 v.o.to, .slice v.A v.o.arms.length v.c, .int .i64 v.o.onT, .int .i64 v.o.onE]
theorem encOp_len (v : OpV) : (encOp v).length = 7 := rfl
def progV (s : ByteArray) (d j : Int) (A : Option Addr) (n c : Nat) : Array Value := #[.string s, .int .i64 d, .int .i64 j, .slice A n c]
set_option maxRecDepth 100000 in
set_option maxHeartbeats 1600000 in
theorem in64_c (n a b : Int) (w : World) : Calls Tryz.prog 102 #[.int .i64 n, .int .i64 a, .int .i64 b] w fun e w' => e = .returned (.bool (decide (a ≤ n) && decide (n ≤ b))) ∧ w' = w := by
  cases h1 : decide (a ≤ n) with
  | false =>
    go_enter Tryz.func102, Tryz.ntmps102
    go_wp2_with fail
    go_ret
    exact ⟨rfl, rfl⟩
  | true =>
    go_enter Tryz.func102, Tryz.ntmps102
    go_wp2_with fail
    go_ret
    exact ⟨rfl, rfl⟩
set_option maxRecDepth 100000 in
set_option maxHeartbeats 1600000 in
theorem pin_c (n a b : Int) (w : World) : Calls Tryz.prog 103 #[.int .i64 n, .int .i64 a, .int .i64 b] w fun e w' => e = .returned (.bool (decide (a ≤ n) && decide (n ≤ b))) ∧ w' = w := by
  cases h1 : decide (a ≤ n) with
  | false =>
    go_enter Tryz.func103, Tryz.ntmps103
    go_wp2_with fail
    go_ret
    exact ⟨rfl, rfl⟩
  | true =>
    go_enter Tryz.func103, Tryz.ntmps103
    go_wp2_with fail
    go_ret
    exact ⟨rfl, rfl⟩
set_option maxRecDepth 100000 in
set_option maxHeartbeats 1600000 in
theorem comes_c (s : ByteArray) (d j : Int) (A : Option Addr) (n c : Nat) (gt : Int) (w : World) : Calls Tryz.prog 124 #[.agg #[.string s, .int .i64 d, .int .i64 j, .slice A n c], .int .i64 gt] w fun e w' => e = .returned (.bool (comesB n gt)) ∧ Below w.heap.size w w' := by
  unfold comesB
  cases h1 : decide (0 ≤ gt) with
  | false =>
    go_enter Tryz.func124, Tryz.ntmps124
    go_wp2_with fail
    go_ret
    exact ⟨rfl, below_alloc _ _⟩
  | true =>
    go_enter Tryz.func124, Tryz.ntmps124
    go_wp2_with fail
    go_ret
    exact ⟨rfl, below_alloc _ _⟩
/-- an op with the fields alone that its kind has -/
def bareV (k : Int) (t : ByteArray) (n gt : Int) (A : Option Addr) (m c : Nat) (x y : Int) : Array Value :=
  if k = 1 then opV k t 0 0 none 0 0 0 0 else if k = 2 then opV k ⟨#[]⟩ n 0 A m c x y else if k = 3 then opV k ⟨#[]⟩ 0 gt none 0 0 0 0 else if k = 4 then opV k ⟨#[]⟩ n 0 none 0 0 0 0 else opV k ⟨#[]⟩ 0 0 none 0 0 0 0
set_option maxRecDepth 100000 in
set_option maxHeartbeats 3200000 in
theorem bare_c (k : Int) (t : ByteArray) (n gt : Int) (A : Option Addr) (m c : Nat) (x y : Int) (w : World) :
    Calls Tryz.prog 122 #[.agg #[.int .i64 k, .string t, .int .i64 n, .int .i64 gt, .slice A m c, .int .i64 x, .int .i64 y]] w fun e w' => e = .returned (.agg (bareV k t n gt A m c x y)) ∧ Below w.heap.size w w' := by
  unfold bareV opV
  by_cases h1 : k = 1
  · subst h1
    go_enter Tryz.func122, Tryz.ntmps122
    go_wp2_with fail
    refine bodyPost_ret (v := .agg #[.int .i64 1, .string t, .int .i64 0, .int .i64 0, .slice none 0 0, .int .i64 0, .int .i64 0]) (by simp [results, Tryz.results122, go_sem]) rfl ?_
    exact ⟨by simp, ((below_alloc w _).alloc (by simp) _).alloc (by simp <;> omega) _⟩
  have b1 : (k == 1) = false := by simp [h1]
  by_cases h2 : k = 2
  · subst h2
    go_enter Tryz.func122, Tryz.ntmps122
    go_upto_region 6 with fail
    go_region
    go_wp2_with fail
    refine bodyPost_ret (v := .agg #[.int .i64 2, .string ⟨#[]⟩, .int .i64 n, .int .i64 0, .slice A m c, .int .i64 x, .int .i64 y]) (by simp [results, Tryz.results122, go_sem]) rfl ?_
    exact ⟨by simp, below_dr (((below_alloc w _).alloc (by simp) _).alloc (by simp <;> omega) _)⟩
  have b2 : (k == 2) = false := by simp [h2]
  by_cases h3 : k = 3
  · subst h3
    go_enter Tryz.func122, Tryz.ntmps122
    go_wp2_with fail
    refine bodyPost_ret (v := .agg #[.int .i64 3, .string ⟨#[]⟩, .int .i64 0, .int .i64 gt, .slice none 0 0, .int .i64 0, .int .i64 0]) (by simp [results, Tryz.results122, go_sem]) rfl ?_
    exact ⟨by simp, ((below_alloc w _).alloc (by simp) _).alloc (by simp <;> omega) _⟩
  have b3 : (k == 3) = false := by simp [h3]
  by_cases h4 : k = 4
  · subst h4
    go_enter Tryz.func122, Tryz.ntmps122
    go_wp2_with fail
    refine bodyPost_ret (v := .agg #[.int .i64 4, .string ⟨#[]⟩, .int .i64 n, .int .i64 0, .slice none 0 0, .int .i64 0, .int .i64 0]) (by simp [results, Tryz.results122, go_sem]) rfl ?_
    exact ⟨by simp, ((below_alloc w _).alloc (by simp) _).alloc (by simp <;> omega) _⟩
  have b4 : (k == 4) = false := by simp [h4]
  rw [if_neg h1, if_neg h2, if_neg h3, if_neg h4]
  clear h1 h2 h3 h4
  go_enter Tryz.func122, Tryz.ntmps122
  go_wp2_with fail
  refine bodyPost_ret (v := .agg #[.int .i64 k, .string ⟨#[]⟩, .int .i64 0, .int .i64 0, .slice none 0 0, .int .i64 0, .int .i64 0]) (by simp [results, Tryz.results122, go_sem]) rfl ?_
  exact ⟨by simp, ((below_alloc w _).alloc (by simp) _).alloc (by simp <;> omega) _⟩
end Go.Proofs.YtdmdohjdmnmabaaGreat
