/- Patterns that may be, and that match the empty text, by the program. Conditions: those of each theorem. -/
import Derived.Test.YtdmdohjdmnmabaaGreatDoorQh18
import Derived.Test.YtdmdohjdmnmabaaGreatDoorQh05
namespace Go.Proofs.YtdmdohjdmnmabaaGreatDoor
open Go.RowKit
set_option linter.unusedVariables false

def itAt (l : List ItM) (k : Nat) : ItM := l.getD k ⟨false, 0, 0, 0, 0⟩
theorem itAt_some {l : List ItM} {k : Nat} (hk : k < l.length) : l[k]? = some (itAt l k) := by simp [itAt, List.getD, hk]
theorem itAt_mem {l : List ItM} {k : Nat} (hk : k < l.length) : itAt l k ∈ l := by
 have h := itAt_some hk
 exact List.mem_of_getElem? h
theorem it_cells {w : World} {M : Nat → Prop} {A : Option Addr} {l : List ItM} (hr : Rd w M A (flat encIt l)) (k : Nat) (hk : k < l.length) : ∃ b o, A = some ⟨b, o, none⟩ ∧ b < w.heap.size ∧
 w.cell? ⟨b, o + k * 5, none⟩ = some (.bool (itAt l k).run) ∧ w.cell? ⟨b, o + k * 5 + 1, none⟩ = some (.int .u64 (itAt l k).a) ∧ w.cell? ⟨b, o + k * 5 + 2, none⟩ = some (.int .u64 (itAt l k).b) ∧
 w.cell? ⟨b, o + k * 5 + 3, none⟩ = some (.int .u64 (itAt l k).c) ∧ w.cell? ⟨b, o + k * 5 + 4, none⟩ = some (.int .u64 (itAt l k).d) := by
 obtain ⟨b, o, hA, _, hb, hc⟩ := flat_cells encIt_len hr k _ (itAt_some hk) (by omega)
 exact ⟨b, o, hA, hb, hc 0 (by omega), hc 1 (by omega), hc 2 (by omega), hc 3 (by omega), hc 4 (by omega)⟩
def idxP (p : ItM → Bool) (l : List ItM) : Int := if l.any p then (l.findIdx p : Int) else -1
theorem idxP_at (p : ItM → Bool) (l : List ItM) (k : Nat) (hk : k < l.length) (h : ∀ y ∈ l.take k, p y = false) (hx : p (itAt l k) = true) : idxP p l = k := by
 have e : itAt l k = l[k] := by simp [itAt, List.getD, hk]
 rw [e] at hx
 unfold idxP
 have ha : l.any p = true := List.any_eq_true.2 ⟨l[k], List.getElem_mem hk, hx⟩
 rw [if_pos ha]
 have : l.findIdx p = k := by
  rw [List.findIdx_eq hk]
  refine ⟨hx, fun j hj => ?_⟩
  exact h _ (by rw [List.mem_take_iff_getElem]; exact ⟨j, by omega, rfl⟩)
 rw [this]
theorem idxP_none (p : ItM → Bool) (l : List ItM) (h : ∀ y ∈ l, p y = false) : idxP p l = -1 := by
 unfold idxP
 have ha : ¬ l.any p = true := by
  rw [List.any_eq_true]
  rintro ⟨x, hx, ho⟩
  rw [h x hx] at ho
  cases ho
 rw [if_neg ha]
theorem idxP_ge (p : ItM → Bool) (l : List ItM) : decide (idxP p l ≥ 0) = l.any p := by
 unfold idxP
 cases h : l.any p <;> simp
def noRun (x : ItM) : Bool := !x.run
def never (x : ItM) : Bool := false
set_option maxRecDepth 100000 in
theorem eq_zero (w : World) : Sem.run Tryz.prog (Op.equalIn 10000 197 (.agg #[.int .u64 0, .int .u64 0, .int .u64 0, .int .u64 0]) (.agg #[.int .u64 0, .int .u64 0, .int .u64 0, .int .u64 0])) w = .ok true w := by kernel_rfl
set_option maxRecDepth 100000 in
set_option maxHeartbeats 1600000 in
theorem noRun_c (x : ItM) (w : World) : Calls Tryz.prog 203 #[.agg #[.bool x.run, .int .u64 x.a, .int .u64 x.b, .int .u64 x.c, .int .u64 x.d]] w fun e w' => e = .returned (.bool (noRun x)) ∧ Below w.heap.size w w' := by
 obtain ⟨r, a, b, c, d⟩ := x
 go_enter Tryz.func203, Tryz.ntmps203
 go_wp2_with fail
 go_ret
 exact ⟨rfl, below_alloc _ _⟩
set_option maxRecDepth 100000 in
set_option maxHeartbeats 1600000 in
theorem never_c (x : ItM) (hx : ItOk x) (w : World) : Calls Tryz.prog 212 #[.agg #[.bool x.run, .int .u64 x.a, .int .u64 x.b, .int .u64 x.c, .int .u64 x.d]] w fun e w' => e = .returned (.bool (never x)) ∧ Below w.heap.size w w' := by
 obtain ⟨r, a, b, c, d⟩ := x
 cases r with
 | false =>
  go_enter Tryz.func212, Tryz.ntmps212
  go_wp2_with fail
  go_ret
  exact ⟨rfl, below_alloc _ _⟩
 | true =>
  obtain ⟨h1, h2, h3, h4⟩ := hx rfl
  simp only at h1 h2 h3 h4
  subst h1 h2 h3 h4
  have hcmp := @eq_zero
  go_enter Tryz.func212, Tryz.ntmps212
  go_wp2_with fail
  go_ret
  exact ⟨rfl, below_alloc _ _⟩
set_option maxRecDepth 100000 in
set_option maxHeartbeats 1600000 in
theorem Index_noRun (M : Nat → Prop) (A : Option Addr) (c : Nat) (l : List ItM) (w : World) (hr : Rd w M A (flat encIt l)) (hn0 : l.length ≤ maxLen) :
 Calls Tryz.prog 213 #[.slice A l.length c, .func (.func 203) #[] #[]] w fun e w' => e = .returned (.int .i64 (idxP noRun l)) ∧ Below w.heap.size w w' := by
 have hn : l.length ≤ 9223372036854775807 := hn0
 have Hc := hide (fun k hk => it_cells hr k hk)
 skip
 obtain ⟨n, hnl⟩ : ∃ n, n = l.length := ⟨_, rfl⟩
 rw [← hnl] at hn ⊢
 have Hn := hide hnl
 clear hr hn0 hnl
 go_enter Tryz.func213, Tryz.ntmps213
 go_wp2_with fail
 go_loopw [8] (fun i wr => ∃ k : Nat, k ≤ n ∧ i = .int .i64 k ∧ Hid (∀ y ∈ l.take k, noRun y = false) ∧ Below w.heap.size w wr) (fun i _ => n - (intOf i).toNat)
 case atStart => exact ⟨0, Nat.zero_le _, rfl, hide (by simp), Below.refl _ _⟩
 case round =>
  obtain ⟨k, hk, rfl, hnone, hbel⟩ := hrel
  by_cases hlt2 : k < n
  ·obtain ⟨b2, o, rfl, hb2, g0, g1, g2, g3, g4⟩ := Hc.out k (by rw [← Hn.out]; exact hlt2)
   replace g0 := bkeepL hbel hb2 g0
   replace g1 := bkeepL hbel hb2 g1
   replace g2 := bkeepL hbel hb2 g2
   replace g3 := bkeepL hbel hb2 g3
   replace g4 := bkeepL hbel hb2 g4
   have hpred := noRun_c (itAt l k) wr
   cases ho : noRun (itAt l k) with
   | true =>
    rw [ho] at hpred
    have HP := hide hpred
    have HI := hide (idxP_at noRun l k (by rw [← Hn.out]; exact hlt2) hnone.out ho)
    clear hpred ho
    go_wp2_with (go_at_call 203; refine HP.out.mono ?_; rintro e w2 ⟨rfl, hb2⟩)
    go_ret
    exact ⟨ret_int HI.out.symm, hbel.trans (hb2.mono hbel.size)⟩
   | false =>
    rw [ho] at hpred
    have HP := hide hpred
    have HI : Hid (∀ y ∈ l.take (k + 1), noRun y = false) := by
     intro y hy
     rw [List.take_succ_eq_append_getElem (by rw [← Hn.out]; exact hlt2)] at hy
     rcases List.mem_append.1 hy with hy | hy
     ·exact hnone.out y hy
     ·simp at hy
      subst hy
      rw [← ho]
      have e : itAt l k = l[k]'(by rw [← Hn.out]; exact hlt2) := by simp [itAt, List.getD, show k < l.length by rw [← Hn.out]; exact hlt2]
      rw [e]
    clear hpred ho hnone
    go_wp2_with (go_at_call 203; refine HP.out.mono ?_; rintro e w2 ⟨rfl, hb2⟩)
    go_roundw
    case rel => exact ⟨k + 1, by omega, by go_num, HI, hbel.trans (hb2.mono hbel.size)⟩
    case measure => simp [intOf]; omega
  ·have hd : decide ((k : Int) < n) = false := by simp; omega
   have hd2 : decide (k < n) = false := by simp; omega
   have HI := hide (idxP_none noRun l (fun y hy => hnone.out y (by rw [List.take_of_length_le (by rw [← Hn.out]; omega)]; exact hy)))
   go_wp2_with fail
   go_ret
   exact ⟨ret_int HI.out.symm, hbel⟩
set_option maxRecDepth 100000 in
set_option maxHeartbeats 1600000 in
theorem Contains_noRun (M : Nat → Prop) (A : Option Addr) (c : Nat) (l : List ItM) (w : World) (hr : Rd w M A (flat encIt l)) (hn0 : l.length ≤ maxLen) :
 Calls Tryz.prog 202 #[.slice A l.length c, .func (.func 203) #[] #[]] w fun e w' => e = .returned (.bool (l.any noRun)) ∧ Below w.heap.size w w' := by
 have HI := hide (fun (w' : World) (hr' : Rd w' M A (flat encIt l)) => Index_noRun M A c l w' hr' hn0 )
 have HR := hide hr
 have HE := hide (idxP_ge noRun l)
 obtain ⟨n, hnl⟩ : ∃ n, n = l.length := ⟨_, rfl⟩
 rw [← hnl] at HI ⊢
 clear hr hn0 hnl
 go_enter Tryz.func202, Tryz.ntmps202
 go_wp2_with fail
 refine (HI.out _ HR.out).mono ?_
 rintro e w2 ⟨rfl, hb2⟩
 go_wp2_with fail
 go_ret
 exact ⟨by rw [← HE.out]; rfl, hb2⟩
set_option maxRecDepth 100000 in
set_option maxHeartbeats 1600000 in
theorem Index_never (M : Nat → Prop) (A : Option Addr) (c : Nat) (l : List ItM) (w : World) (hr : Rd w M A (flat encIt l)) (hn0 : l.length ≤ maxLen) (hok : ∀ x ∈ l, ItOk x) :
 Calls Tryz.prog 213 #[.slice A l.length c, .func (.func 212) #[] #[]] w fun e w' => e = .returned (.int .i64 (idxP never l)) ∧ Below w.heap.size w w' := by
 have hn : l.length ≤ 9223372036854775807 := hn0
 have Hc := hide (fun k hk => it_cells hr k hk)
 have HOK := hide hok
 obtain ⟨n, hnl⟩ : ∃ n, n = l.length := ⟨_, rfl⟩
 rw [← hnl] at hn ⊢
 have Hn := hide hnl
 clear hr hn0 hnl
 go_enter Tryz.func213, Tryz.ntmps213
 go_wp2_with fail
 go_loopw [8] (fun i wr => ∃ k : Nat, k ≤ n ∧ i = .int .i64 k ∧ Hid (∀ y ∈ l.take k, never y = false) ∧ Below w.heap.size w wr) (fun i _ => n - (intOf i).toNat)
 case atStart => exact ⟨0, Nat.zero_le _, rfl, hide (by simp), Below.refl _ _⟩
 case round =>
  obtain ⟨k, hk, rfl, hnone, hbel⟩ := hrel
  by_cases hlt2 : k < n
  ·obtain ⟨b2, o, rfl, hb2, g0, g1, g2, g3, g4⟩ := Hc.out k (by rw [← Hn.out]; exact hlt2)
   replace g0 := bkeepL hbel hb2 g0
   replace g1 := bkeepL hbel hb2 g1
   replace g2 := bkeepL hbel hb2 g2
   replace g3 := bkeepL hbel hb2 g3
   replace g4 := bkeepL hbel hb2 g4
   have hpred := never_c (itAt l k) (HOK.out _ (itAt_mem (by rw [← Hn.out]; exact hlt2))) wr
   cases ho : never (itAt l k) with
   | true =>
    rw [ho] at hpred
    have HP := hide hpred
    have HI := hide (idxP_at never l k (by rw [← Hn.out]; exact hlt2) hnone.out ho)
    clear hpred ho
    go_wp2_with (go_at_call 212; refine HP.out.mono ?_; rintro e w2 ⟨rfl, hb2⟩)
    go_ret
    exact ⟨ret_int HI.out.symm, hbel.trans (hb2.mono hbel.size)⟩
   | false =>
    rw [ho] at hpred
    have HP := hide hpred
    have HI : Hid (∀ y ∈ l.take (k + 1), never y = false) := by
     intro y hy
     rw [List.take_succ_eq_append_getElem (by rw [← Hn.out]; exact hlt2)] at hy
     rcases List.mem_append.1 hy with hy | hy
     ·exact hnone.out y hy
     ·simp at hy
      subst hy
      rw [← ho]
      have e : itAt l k = l[k]'(by rw [← Hn.out]; exact hlt2) := by simp [itAt, List.getD, show k < l.length by rw [← Hn.out]; exact hlt2]
      rw [e]
    clear hpred ho hnone
    go_wp2_with (go_at_call 212; refine HP.out.mono ?_; rintro e w2 ⟨rfl, hb2⟩)
    go_roundw
    case rel => exact ⟨k + 1, by omega, by go_num, HI, hbel.trans (hb2.mono hbel.size)⟩
    case measure => simp [intOf]; omega
  ·have hd : decide ((k : Int) < n) = false := by simp; omega
   have hd2 : decide (k < n) = false := by simp; omega
   have HI := hide (idxP_none never l (fun y hy => hnone.out y (by rw [List.take_of_length_le (by rw [← Hn.out]; omega)]; exact hy)))
   go_wp2_with fail
   go_ret
   exact ⟨ret_int HI.out.symm, hbel⟩
set_option maxRecDepth 100000 in
set_option maxHeartbeats 1600000 in
theorem Contains_never (M : Nat → Prop) (A : Option Addr) (c : Nat) (l : List ItM) (w : World) (hr : Rd w M A (flat encIt l)) (hn0 : l.length ≤ maxLen) (hok : ∀ x ∈ l, ItOk x) :
 Calls Tryz.prog 202 #[.slice A l.length c, .func (.func 212) #[] #[]] w fun e w' => e = .returned (.bool (l.any never)) ∧ Below w.heap.size w w' := by
 have HI := hide (fun (w' : World) (hr' : Rd w' M A (flat encIt l)) => Index_never M A c l w' hr' hn0 hok)
 have HR := hide hr
 have HE := hide (idxP_ge never l)
 obtain ⟨n, hnl⟩ : ∃ n, n = l.length := ⟨_, rfl⟩
 rw [← hnl] at HI ⊢
 clear hr hn0 hnl
 go_enter Tryz.func202, Tryz.ntmps202
 go_wp2_with fail
 refine (HI.out _ HR.out).mono ?_
 rintro e w2 ⟨rfl, hb2⟩
 go_wp2_with fail
 go_ret
 exact ⟨by rw [← HE.out]; rfl, hb2⟩
set_option maxRecDepth 100000 in
set_option maxHeartbeats 1600000 in
theorem good_c (M : Nat → Prop) (A : Option Addr) (c : Nat) (l : List ItM) (w : World) (hr : Rd w M A (flat encIt l)) (hn : l.length ≤ 60) (hok : ∀ x ∈ l, ItOk x) :
 Calls Tryz.prog 201 #[.slice A l.length c] w fun e w' => e = .returned (.bool true) ∧ Below w.heap.size w w' := by
 have HI := hide (Contains_never M A c l w hr (by unfold maxLen; omega) hok)
 have e : l.any never = false := by simp [never]
 rw [e] at HI
 obtain ⟨n, hnl⟩ : ∃ n, n = l.length := ⟨_, rfl⟩
 rw [← hnl] at HI hn ⊢
 have d1 : decide ((n : Int) ≤ 60) = true := by simp; omega
 have d2 : decide (n ≤ 60) = true := by simp; omega
 clear hr hnl hok e
 go_enter Tryz.func201, Tryz.ntmps201
 go_wp2_with fail
 refine HI.out.mono ?_
 rintro e w2 ⟨rfl, hb2⟩
 go_wp2_with fail
 go_ret
 exact ⟨rfl, hb2⟩
set_option maxRecDepth 100000 in
set_option maxHeartbeats 1600000 in
theorem Good_c (M : Nat → Prop) (A : Option Addr) (c : Nat) (l : List ItM) (w : World) (hr : Rd w M A (flat encIt l)) (hn : l.length ≤ 60) (hok : ∀ x ∈ l, ItOk x) :
 Calls Tryz.prog 189 #[.slice A l.length c] w fun e w' => e = .returned (.bool true) ∧ Below w.heap.size w w' := by
 have HI := hide (good_c M A c l w hr hn hok)
 clear hr hok
 go_enter Tryz.func189, Tryz.ntmps189
 go_wp2_with fail
 refine HI.out.mono ?_
 rintro e w2 ⟨rfl, hb2⟩
 go_wp2_with fail
 go_ret
 exact ⟨rfl, hb2⟩
theorem all_run (l : List ItM) : (!(l.any noRun)) = (l.map (·.run)).all id := by
 induction l with
 | nil => rfl
 | cons x r ih => simp only [List.any_cons, List.map_cons, List.all_cons, id, ← ih, noRun]; cases x.run <;> simp
set_option maxRecDepth 100000 in
set_option maxHeartbeats 1600000 in
theorem Empty_c (M : Nat → Prop) (A : Option Addr) (c : Nat) (l : List ItM) (w : World) (hr : Rd w M A (flat encIt l)) (hn : l.length ≤ 60) :
 Calls Tryz.prog 190 #[.slice A l.length c] w fun e w' => e = .returned (.bool ((l.map (·.run)).all id)) ∧ Below w.heap.size w w' := by
 have HI := hide (Contains_noRun M A c l w hr (by unfold maxLen; omega))
 rw [← all_run]
 clear hr
 go_enter Tryz.func190, Tryz.ntmps190
 go_wp2_with fail
 refine HI.out.mono ?_
 rintro e w2 ⟨rfl, hb2⟩
 go_wp2_with fail
 go_ret
 exact ⟨rfl, hb2⟩
end Go.Proofs.YtdmdohjdmnmabaaGreatDoor
