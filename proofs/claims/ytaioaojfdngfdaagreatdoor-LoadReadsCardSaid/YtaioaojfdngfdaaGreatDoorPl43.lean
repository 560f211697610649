/- Parts of a chain of lemmas: Ld1, Ld2, Ld3. Conditions: those of each theorem. -/
import Derived.Test.YtaioaojfdngfdaaGreatDoorPl42
import Derived.BigRegion
set_option linter.unusedVariables false
set_option linter.unusedSimpArgs false
namespace Go.Proofs.YtaioaojfdngfdaaGreatDoor
open Go.RowKit
theorem beq_dec (a b : List UInt8) : (a == b) = decide (a = b) := by
 by_cases h : a = b
 ·subst h; simp
 ·rw [decide_eq_false h]; exact beq_eq_false_iff_ne.2 h
theorem ext7 (s : ByteArray) : ((s.extract 0 7).toList == [115, 99, 114, 105, 112, 116, 32]) = decide (s.data.toList.take 7 = [115, 99, 114, 105, 112, 116, 32]) := by
 rw [ByteArray.toList_eq, sub_bs', List.drop_zero]
 exact beq_dec _ _
theorem lst6 (s : ByteArray) : (s.toList == [115, 99, 114, 105, 112, 116]) = decide (s.data.toList = kScript) := by
 rw [ByteArray.toList_eq]
 exact beq_dec _ _
theorem take7_no {s : ByteArray} (h : ¬ 7 ≤ s.size) : decide (s.data.toList.take 7 = [115, 99, 114, 105, 112, 116, 32]) = false := by
 refine decide_eq_false fun e => h ?_
 have h1 := congrArg List.length e
 rw [List.length_take] at h1
 have h2 : s.data.toList.length = s.size := by simp
 simp at h1
 omega
set_option maxRecDepth 100000 in
set_option maxHeartbeats 1600000 in
theorem pre_c (s : ByteArray) (w : World) (hs : s.size ≤ 9223372036854775807) : Calls Tryz.prog 153 #[.string s, .string ⟨#[115, 99, 114, 105, 112, 116, 32]⟩] w fun e w' => e = .returned (.bool (decide (s.data.toList.take 7 = [115, 99, 114, 105, 112, 116, 32]))) ∧ w' = w := by
 by_cases h : 7 ≤ s.size
 case pos =>
  have d1 : decide ((7 : Int) ≤ (s.size : Int)) = true := by simp; omega
  have d2 : decide (7 ≤ s.size) = true := by simp; omega
  have j1 : (0 : Int) ≤ (7 : Int) := by omega
  have j2 : (7 : Int) ≤ (s.size : Int) := by omega
  have HX := hide (ext7 s)
  obtain ⟨B, hB⟩ : ∃ B, B = decide (s.data.toList.take 7 = [115, 99, 114, 105, 112, 116, 32]) := ⟨_, rfl⟩
  rw [← hB] at HX ⊢
  obtain ⟨x, hx⟩ : ∃ x, x = s.extract 0 7 := ⟨_, rfl⟩
  have q := HX.out
  clear hB h HX hx
  go_enter Tryz.func153, Tryz.ntmps153
  go_wp2_with fail
  all_goals (go_ret; exact ⟨by rw [← q]; rfl, rfl⟩)
 case neg =>
  have d1 : decide ((7 : Int) ≤ (s.size : Int)) = false := by simp; omega
  have d2 : decide (7 ≤ s.size) = false := by simp; omega
  have HX := hide (take7_no h)
  obtain ⟨B, hB⟩ : ∃ B, B = decide (s.data.toList.take 7 = [115, 99, 114, 105, 112, 116, 32]) := ⟨_, rfl⟩
  rw [← hB] at HX ⊢
  clear hB h
  go_enter Tryz.func153, Tryz.ntmps153
  go_wp2_with fail
  go_ret
  exact ⟨by rw [HX.out]; rfl, rfl⟩
theorem hasPre_c (s : ByteArray) (w : World) (hs : s.size ≤ 9223372036854775807) : Calls Tryz.prog 125 #[.string s, .string ⟨#[115, 99, 114, 105, 112, 116, 32]⟩] w fun e w' => e = .returned (.bool (decide (s.data.toList.take 7 = [115, 99, 114, 105, 112, 116, 32]))) ∧ w' = w := by
 have HP := hide (fun X => pre_c s X hs)
 obtain ⟨B, hB⟩ : ∃ B, B = decide (s.data.toList.take 7 = [115, 99, 114, 105, 112, 116, 32]) := ⟨_, rfl⟩
 rw [← hB] at HP ⊢
 clear hB
 go_enter Tryz.func125, Tryz.ntmps125
 go_wp2_with fail
 refine (HP.out _).mono ?_
 rintro e w' ⟨rfl, rfl⟩
 go_wp2_with fail
 go_ret
 exact ⟨rfl, rfl⟩
set_option maxRecDepth 100000 in
set_option maxHeartbeats 1600000 in
theorem heads_c (s : ByteArray) (w : World) (hs : s.size ≤ 9223372036854775807) : Calls Tryz.prog 81 #[.string s] w fun e w' => e = .returned (.bool (headB s.data.toList)) ∧ w' = w := by
 have HP := hide (fun X => hasPre_c s X hs)
 have HL := hide (lst6 s)
 have HB := hide (show headB s.data.toList = (decide (s.data.toList = kScript) || decide (s.data.toList.take 7 = [115, 99, 114, 105, 112, 116, 32])) from rfl)
 obtain ⟨B, hB⟩ : ∃ B, B = decide (s.data.toList.take 7 = [115, 99, 114, 105, 112, 116, 32]) := ⟨_, rfl⟩
 obtain ⟨C, hC⟩ : ∃ C, C = decide (s.data.toList = kScript) := ⟨_, rfl⟩
 obtain ⟨D, hD⟩ : ∃ D, D = headB s.data.toList := ⟨_, rfl⟩
 rw [← hB] at HP HB
 rw [← hC] at HL HB
 rw [← hD] at HB ⊢
 clear hB hC hD
 cases C with
 | true =>
  have q := HL.out
  go_enter Tryz.func81, Tryz.ntmps81
  go_wp2_with fail
  go_ret
  exact ⟨by rw [HB.out]; rfl, rfl⟩
 | false =>
  have q := HL.out
  go_enter Tryz.func81, Tryz.ntmps81
  go_wp2_with fail
  refine (HP.out _).mono ?_
  rintro e w' ⟨rfl, rfl⟩
  go_wp2_with fail
  go_ret
  exact ⟨by rw [HB.out]; rfl, rfl⟩
set_option maxRecDepth 100000 in
set_option maxHeartbeats 1600000 in
theorem refHeads_c (s : ByteArray) (w : World) (hs : s.size ≤ 9223372036854775807) : Calls Tryz.prog 49 #[.string s] w fun e w' => e = .returned (.bool (headB s.data.toList)) ∧ w' = w := by
 have HL := hide (lst6 s)
 have HX := hide (ext7 s)
 have HN := hide (fun h : ¬ 7 ≤ s.size => take7_no h)
 have HB := hide (show headB s.data.toList = (decide (s.data.toList = kScript) || decide (s.data.toList.take 7 = [115, 99, 114, 105, 112, 116, 32])) from rfl)
 obtain ⟨B, hB⟩ : ∃ B, B = decide (s.data.toList.take 7 = [115, 99, 114, 105, 112, 116, 32]) := ⟨_, rfl⟩
 obtain ⟨C, hC⟩ : ∃ C, C = decide (s.data.toList = kScript) := ⟨_, rfl⟩
 obtain ⟨D, hD⟩ : ∃ D, D = headB s.data.toList := ⟨_, rfl⟩
 rw [← hB] at HX HN HB
 rw [← hC] at HL HB
 rw [← hD] at HB ⊢
 clear hB hC hD
 cases C with
 | true =>
  have q := HL.out
  go_enter Tryz.func49, Tryz.ntmps49
  go_wp2_with fail
  go_ret
  exact ⟨by rw [HB.out]; rfl, rfl⟩
 | false =>
  have q := HL.out
  by_cases h : 7 ≤ s.size
  case pos =>
   have d1 : decide ((6 : Int) < (s.size : Int)) = true := by simp; omega
   have d2 : decide (6 < s.size) = true := by simp; omega
   have j2 : (7 : Int) ≤ (s.size : Int) := by omega
   have q2 := HX.out
   go_enter Tryz.func49, Tryz.ntmps49
   go_wp2_with fail
   all_goals (go_ret; exact ⟨by rw [HB.out, ← q2]; rfl, rfl⟩)
  case neg =>
   have d1 : decide ((6 : Int) < (s.size : Int)) = false := by simp; omega
   have d2 : decide (6 < s.size) = false := by simp; omega
   have HE := hide (HN.out h)
   clear h HN
   go_enter Tryz.func49, Tryz.ntmps49
   go_wp2_with fail
   go_ret
   exact ⟨by rw [HB.out, HE.out]; rfl, rfl⟩
theorem says_c (s : ByteArray) (w : World) : Calls Tryz.prog 83 #[.string s] w fun e w' => e = .returned (.bool (!idleB s.data.toList)) ∧ w' = w := by
 have HP := hide (fun X => Idle_c s X)
 obtain ⟨B, hB⟩ : ∃ B, B = idleB s.data.toList := ⟨_, rfl⟩
 rw [← hB] at HP ⊢
 clear hB
 go_enter Tryz.func83, Tryz.ntmps83
 go_wp2_with fail
 refine (HP.out _).mono ?_
 rintro e w' ⟨rfl, rfl⟩
 go_wp2_with fail
 go_ret
 exact ⟨rfl, rfl⟩
theorem idxS_at (l : List (List UInt8)) (k : Nat) (hk : k < l.length) (h : ∀ y ∈ l.take k, sayB y = false) (hx : sayB (l.getD k []) = true) : idxS l = k := by
 have e : l.getD k [] = l[k] := by simp [List.getD, hk]
 rw [e] at hx
 unfold idxS
 rw [if_pos (List.any_eq_true.2 ⟨l[k], List.getElem_mem hk, hx⟩)]
 have : l.findIdx sayB = k := by
  rw [List.findIdx_eq hk]
  exact ⟨hx, fun j hj => h _ (by rw [List.mem_take_iff_getElem]; exact ⟨j, by omega, rfl⟩)⟩
 rw [this]
theorem idxS_none (l : List (List UInt8)) (h : ∀ y ∈ l, sayB y = false) : idxS l = -1 := by
 unfold idxS
 rw [if_neg (fun ha => by obtain ⟨x, hx, ho⟩ := List.any_eq_true.1 ha; rw [h x hx] at ho; cases ho)]
theorem idxS_ge (l : List (List UInt8)) : decide (0 ≤ idxS l) = saysL l := by
 show _ = l.any sayB
 unfold idxS
 cases h : l.any sayB
 ·rfl
 ·simp
theorem idxS_lt (l : List (List UInt8)) : idxS l < l.length ∧ -1 ≤ idxS l ∨ l = [] ∧ idxS l = -1 := by
 cases h : l.any sayB with
 | true =>
  left
  have : l.findIdx sayB < l.length := List.findIdx_lt_length.2 (by simpa using List.any_eq_true.1 h)
  unfold idxS
  rw [if_pos h]
  omega
 | false =>
  have e : idxS l = -1 := by unfold idxS; rw [if_neg (by rw [h]; decide)]
  rcases l with _ | ⟨a, r⟩
  ·exact Or.inr ⟨rfl, e⟩
  ·left; rw [e]; simp; omega
set_option maxRecDepth 100000 in
set_option maxHeartbeats 3200000 in
theorem IndexS_c (A : Option Addr) (c : Nat) (l : List (List UInt8)) (w : World) (hr : Rd w NoBlk A (flat encLn l)) (hn0 : l.length ≤ maxLen) :
 Calls Tryz.prog 126 #[.slice A l.length c, .func (.func 83) #[] #[]] w fun e w' => e = .returned (.int .i64 (idxS l)) ∧ w' = w := by
 have hn : l.length ≤ 9223372036854775807 := hn0
 have Hc := hide (fun (k : Nat) (hk : k < l.length) => hr.at_ (j := k) (by rw [flat_ln_len]; exact hk))
 have Hl := hide (fun (k : Nat) (hk : k < l.length) => flat_ln_cells l k hk)
 have HPr := hide (fun (x : List UInt8) (w' : World) => says_c (bs x) w')
 obtain ⟨n, hnl⟩ : ∃ n, n = l.length := ⟨_, rfl⟩
 rw [← hnl] at hn ⊢
 have Hn := hide hnl
 have HNo := hide (idxS_none l)
 have HAt := hide (idxS_at l)
 clear hr hn0 hnl
 go_enter Tryz.func126, Tryz.ntmps126
 go_wp2_with fail
 go_loopw [8] (fun i wr => ∃ k : Nat, k ≤ n ∧ i = .int .i64 k ∧ Hid (∀ y ∈ l.take k, sayB y = false) ∧ Hid (wr = w)) (fun i _ => n - (intOf i).toNat)
 case atStart => exact ⟨0, Nat.zero_le _, rfl, hide (by simp), hide rfl⟩
 case round =>
  obtain ⟨k, hk, rfl, hnone, hbel⟩ := hrel
  by_cases hlt2 : k < n
  ·have hkl : k < l.length := by rw [← Hn.out]; exact hlt2
   obtain ⟨b2, o, rfl, _, hb2, hc⟩ := Hc.out k hkl
   obtain ⟨x, hx⟩ : ∃ x, x = l.getD k [] := ⟨_, rfl⟩
   have hpred := HPr.out x w
   have g0 : wr.cell? ⟨b2, o + k, none⟩ = some (.string (bs x)) := by rw [hbel.out, hc k (by rw [flat_ln_len]; exact hkl), Hl.out k hkl, hx]
   rw [hbel.out] at g0 ⊢
   have d1 : decide ((k : Int) < (n : Int)) = true := by simp; exact hlt2
   have d2 : decide (k < n) = true := by simp; exact hlt2
   have j1 : (0 : Int) ≤ (k : Int) := by omega
   have j2 : (k : Int) < (n : Int) := by omega
   have w1 : IntKind.i64.wrap ((k : Int) + 1) = (k : Int) + 1 := IntWalk.i64_in _ (by omega)
   change Calls _ _ _ _ (fun e w' => e = .returned (.bool (sayB x)) ∧ w' = w) at hpred
   have HX := hide hx
   clear hc hbel hx
   cases ho : sayB x with
   | true =>
    rw [ho] at hpred
    have HP := hide hpred
    have HI := hide (HAt.out k hkl hnone.out (by rw [← HX.out]; exact ho))
    clear hpred ho hkl
    go_wp2_with (go_at_call 83; refine HP.out.mono ?_; rintro e w2 ⟨rfl, rfl⟩)
    go_ret
    exact ⟨by rw [HI.out]; rfl, rfl⟩
   | false =>
    rw [ho] at hpred
    have HP := hide hpred
    have HIn : Hid (∀ y ∈ l.take (k + 1), sayB y = false) := by
     intro y hy
     rw [List.take_add_one] at hy
     rcases List.mem_append.1 hy with hy | hy
     ·exact hnone.out y hy
     ·rw [List.getElem?_eq_getElem hkl] at hy
      simp only [Option.toList_some, List.mem_singleton] at hy
      subst hy
      have e : l.getD k [] = l[k] := by simp [List.getD, hkl]
      rw [← e, ← HX.out]
      exact ho
    clear hpred ho hnone hkl
    go_wp2_with (go_at_call 83; refine HP.out.mono ?_; rintro e w2 ⟨rfl, rfl⟩)
    go_roundw
    case rel => exact ⟨k + 1, by omega, by go_num, HIn, hide trivial⟩
    case measure => simp [intOf]; omega
  ·obtain rfl : k = n := by omega
   have HI := hide (HNo.out (by have := hnone.out; rw [Hn.out, List.take_length] at this; exact this))
   have d1 : decide ((k : Int) < (k : Int)) = false := by simp
   have d2 : decide (k < k) = false := by simp
   have HB := hide hbel.out
   clear hbel hnone
   go_wp2_with fail
   go_ret
   exact ⟨by rw [HI.out]; rfl, HB.out⟩
set_option maxRecDepth 100000 in
theorem Contains_c (A : Option Addr) (c : Nat) (l : List (List UInt8)) (w : World) (hr : Rd w NoBlk A (flat encLn l)) (hn0 : l.length ≤ maxLen) :
 Calls Tryz.prog 82 #[.slice A l.length c, .func (.func 83) #[] #[]] w fun e w' => e = .returned (.bool (saysL l)) ∧ w' = w := by
 have HI := hide (IndexS_c A c l w hr hn0)
 have HG := hide (idxS_ge l)
 obtain ⟨k, hk⟩ : ∃ k, k = idxS l := ⟨_, rfl⟩
 rw [← hk] at HI HG
 clear hk hr
 go_enter Tryz.func82, Tryz.ntmps82
 go_wp2_with fail
 refine HI.out.mono ?_
 rintro e w' ⟨rfl, rfl⟩
 go_wp2_with fail
 go_ret
 exact ⟨by rw [← HG.out]; rfl, rfl⟩
/-- a script of a text, as memory has it -/
structure ScrV where
 nm : ByteArray
 d : Int
 j : Int
 A : Option Addr
 c : Nat
 L : List OpV
 line : Int
 x : Int
 y : Int
 err : Int
def ScrV.m (v : ScrV) : ScrM := ⟨progM v.nm v.d v.j v.L, v.line, v.x, v.y, v.err⟩
def encScr (v : ScrV) : List Value := [.string v.nm, .int .i64 v.d, .int .i64 v.j, .slice v.A v.L.length v.c, .int .i64 v.line, .int .i64 v.x, .int .i64 v.y, .int .i64 v.err]
theorem encScr_len (v : ScrV) : (encScr v).length = 8 := rfl
theorem encScr_one (v : ScrV) : ∀ u ∈ encScr v, u.oneCell' = true := by intro u hu; simp [encScr] at hu; rcases hu with rfl | rfl | rfl | rfl | rfl | rfl | rfl | rfl <;> rfl
def scr0 : ScrV := ⟨⟨#[]⟩, 0, 0, none, 0, [], 0, 0, 0, 0⟩
def scrAt (l : List ScrV) (k : Nat) : ScrV := l.getD k scr0
theorem scrAt_some {l : List ScrV} {k : Nat} (hk : k < l.length) : l[k]? = some (scrAt l k) := by simp [scrAt, List.getD, hk]
theorem scrAt_get {l : List ScrV} {k : Nat} (hk : k < l.length) : scrAt l k = l[k] := by simp [scrAt, List.getD, hk]
theorem scr_cells {w : World} {M : Nat → Prop} {A : Option Addr} {l : List ScrV} (hr : Rd w M A (flat encScr l)) (k : Nat) (hk : k < l.length) : ∃ b o, A = some ⟨b, o, none⟩ ∧ b < w.heap.size ∧ ¬ M b ∧ ∀ j, j < 8 → w.cell? ⟨b, o + k * 8 + j, none⟩ = (encScr (scrAt l k))[j]? := by
 obtain ⟨b, o, hA, hm, hb, hc⟩ := flat_cells encScr_len hr k _ (scrAt_some hk) (by omega)
 exact ⟨b, o, hA, hb, hm, fun j hj => hc j hj⟩
theorem str_dec (a b : ByteArray) : (a.toList == b.toList) = decide (a = b) := by
 rw [ByteArray.toList_eq, ByteArray.toList_eq, beq_dec]
 by_cases e : a = b
 ·subst e; simp
 ·rw [decide_eq_false e, decide_eq_false]
  intro h2
  exact e (congrArg bs h2)
def idxN (name : ByteArray) (l : List ScrM) : Int := if hasM l name = true then (findM l name : Int) else -1
theorem idxN_at (name : ByteArray) (l : List ScrV) (k : Nat) (hk : k < l.length) (h : ∀ y ∈ l.take k, isScr name y.m = false) (hx : isScr name (scrAt l k).m = true) : idxN name (l.map (·.m)) = k := by
 rw [scrAt_get hk] at hx
 unfold idxN hasM findM
 rw [if_pos (List.any_eq_true.2 ⟨l[k].m, List.mem_map.2 ⟨l[k], List.getElem_mem hk, rfl⟩, hx⟩)]
 have : (l.map (·.m)).findIdx (isScr name) = k := by
  rw [List.findIdx_eq (by simpa using hk)]
  refine ⟨by simpa using hx, fun j hj => ?_⟩
  rw [List.getElem_map]
  exact h _ (by rw [List.mem_take_iff_getElem]; exact ⟨j, by omega, rfl⟩)
 rw [this]
theorem idxN_none (name : ByteArray) (l : List ScrV) (h : ∀ y ∈ l, isScr name y.m = false) : idxN name (l.map (·.m)) = -1 := by
 unfold idxN hasM
 rw [if_neg]
 intro ha
 obtain ⟨x, hx, ho⟩ := List.any_eq_true.1 ha
 obtain ⟨y, hy, rfl⟩ := List.mem_map.1 hx
 rw [h y hy] at ho
 cases ho
theorem idxN_ge (name : ByteArray) (l : List ScrM) : decide (0 ≤ idxN name l) = hasM l name := by
 unfold idxN
 cases h : hasM l name
 ·rfl
 ·simp
theorem idxN_max (name : ByteArray) (l : List ScrM) : max (idxN name l) 0 = if hasM l name = true then (findM l name : Int) else 0 := by
 unfold idxN
 split
 ·omega
 ·rfl
set_option maxRecDepth 100000 in
set_option maxHeartbeats 1600000 in
theorem fnd1_c (v : ScrV) (name : ByteArray) (b : Nat) (w : World) (hb : w.cell? ⟨b, 0, none⟩ = some (.string name)) (hlt : b < w.heap.size) :
 Calls Tryz.prog 87 #[.agg (encScr v).toArray, .pointer (some ⟨b, 0, none⟩)] w fun e w' => e = .returned (.bool (isScr name v.m)) ∧ Below w.heap.size w w' := by
 have HI := hide (show isScr name v.m = (decide (v.err = 0) && decide (v.nm = name)) from rfl)
 have HS := hide (str_dec v.nm name)
 obtain ⟨B, hB⟩ : ∃ B, B = decide (v.nm = name) := ⟨_, rfl⟩
 obtain ⟨R, hR⟩ : ∃ R, R = isScr name v.m := ⟨_, rfl⟩
 rw [← hB] at HI HS
 rw [← hR] at HI ⊢
 clear hB hR
 obtain ⟨nm, d, j, A, c, L, line, x, y, err⟩ := v
 simp only [encScr] at HI HS ⊢
 have hne : ¬ b = w.heap.size := by omega
 have hne2 : ¬ w.heap.size = b := by omega
 by_cases he : err = 0
 case pos =>
  have q1 : (err == 0) = true := by rw [he]; rfl
  have HR := hide (show R = B by rw [HI.out, decide_eq_true he]; rfl)
  have q2 := HS.out
  clear he HI HS
  go_enter Tryz.func87, Tryz.ntmps87
  go_wp2_with fail
  all_goals (go_ret; exact ⟨by rw [HR.out, ← q2]; rfl, below_alloc _ _⟩)
 case neg =>
  have q1 : (err == 0) = false := beq_eq_false_iff_ne.2 he
  have HR := hide (show R = false by rw [HI.out, decide_eq_false he]; rfl)
  clear he HI HS
  go_enter Tryz.func87, Tryz.ntmps87
  go_wp2_with fail
  go_ret
  exact ⟨by rw [HR.out]; rfl, below_alloc _ _⟩
set_option maxRecDepth 100000 in
set_option maxHeartbeats 3200000 in
theorem IndexN_c (M : Nat → Prop) (A : Option Addr) (c : Nat) (l : List ScrV) (name : ByteArray) (b : Nat) (w : World) (hr : Rd w M A (flat encScr l)) (hn0 : l.length ≤ 1000000) (hb : w.cell? ⟨b, 0, none⟩ = some (.string name)) (hlt : b < w.heap.size) :
 Calls Tryz.prog 86 #[.slice A l.length c, .func (.func 87) #[] #[.pointer (some ⟨b, 0, none⟩)]] w fun e w' => e = .returned (.int .i64 (idxN name (l.map (·.m)))) ∧ Below w.heap.size w w' := by
 have hn : l.length ≤ 9223372036854775807 := by omega
 have Hc := hide (fun k hk => scr_cells hr k hk)
 obtain ⟨n, hnl⟩ : ∃ n, n = l.length := ⟨_, rfl⟩
 rw [← hnl] at hn ⊢
 have Hn := hide hnl
 have Hb := hide hb
 have HNo := hide (idxN_none name l)
 have HAt := hide (idxN_at name l)
 have HPr := hide (fun (v : ScrV) (X : World) h1 h2 => fnd1_c v name b X h1 h2)
 clear hr hn0 hnl hb
 go_enter Tryz.func86, Tryz.ntmps86
 go_wp2_with fail
 go_loopw [8] (fun i wr => ∃ k : Nat, k ≤ n ∧ i = .int .i64 k ∧ Hid (∀ y ∈ l.take k, isScr name y.m = false) ∧ Hid (Below w.heap.size w wr)) (fun i _ => n - (intOf i).toNat)
 case atStart => exact ⟨0, Nat.zero_le _, rfl, hide (by simp), hide (Below.refl _ _)⟩
 case round =>
  obtain ⟨k, hk, rfl, hnone, hbel⟩ := hrel
  by_cases hlt2 : k < n
  ·have hkl : k < l.length := by rw [← Hn.out]; exact hlt2
   obtain ⟨b2, o, rfl, hb2, _, hc⟩ := Hc.out k hkl
   obtain ⟨v, hv⟩ : ∃ v, v = scrAt l k := ⟨_, rfl⟩
   rw [← hv] at hc
   have gc : ∀ j, j < 8 → wr.cell? ⟨b2, o + k * 8 + j, none⟩ = (encScr v)[j]? := fun j hj => (Only.cell (Only.of_below hbel.out NoBlk) (p := ⟨b2, o + k * 8 + j, none⟩) hb2 (fun h => h)).trans (hc j hj)
   have g0 : wr.cell? ⟨b2, o + k * 8, none⟩ = some (.string v.nm) := gc 0 (by omega)
   have g1 : wr.cell? ⟨b2, o + k * 8 + 1, none⟩ = some (.int .i64 v.d) := gc 1 (by omega)
   have g2 : wr.cell? ⟨b2, o + k * 8 + 2, none⟩ = some (.int .i64 v.j) := gc 2 (by omega)
   have g3 : wr.cell? ⟨b2, o + k * 8 + 3, none⟩ = some (.slice v.A v.L.length v.c) := gc 3 (by omega)
   have g4 : wr.cell? ⟨b2, o + k * 8 + 4, none⟩ = some (.int .i64 v.line) := gc 4 (by omega)
   have g5 : wr.cell? ⟨b2, o + k * 8 + 5, none⟩ = some (.int .i64 v.x) := gc 5 (by omega)
   have g6 : wr.cell? ⟨b2, o + k * 8 + 6, none⟩ = some (.int .i64 v.y) := gc 6 (by omega)
   have g7 : wr.cell? ⟨b2, o + k * 8 + 7, none⟩ = some (.int .i64 v.err) := gc 7 (by omega)
   have hpred := HPr.out v wr (bkeepL hbel.out hlt Hb.out) (Nat.lt_of_lt_of_le hlt hbel.out.size)
   have d1 : decide ((k : Int) < (n : Int)) = true := by simp; exact hlt2
   have d2 : decide (k < n) = true := by simp; exact hlt2
   have j1 : (0 : Int) ≤ (k : Int) := by omega
   have j2 : (k : Int) < (n : Int) := by omega
   have w1 : IntKind.i64.wrap ((k : Int) + 1) = (k : Int) + 1 := IntWalk.i64_in _ (by omega)
   have HX := hide hv
   clear hc gc hv
   cases ho : isScr name v.m with
   | true =>
    rw [ho] at hpred
    have HP := hide hpred
    have HI := hide (HAt.out k hkl hnone.out (by rw [← HX.out]; exact ho))
    clear hpred ho hkl
    go_wp2_with (go_at_call 87; refine HP.out.mono ?_; rintro e w2 ⟨rfl, hb2⟩)
    go_ret
    exact ⟨by rw [HI.out]; rfl, hbel.out.trans (hb2.mono hbel.out.size)⟩
   | false =>
    rw [ho] at hpred
    have HP := hide hpred
    have HIn : Hid (∀ y ∈ l.take (k + 1), isScr name y.m = false) := by
     intro y hy
     rw [List.take_add_one, scrAt_some hkl] at hy
     rcases List.mem_append.1 hy with hy | hy
     ·exact hnone.out y hy
     ·simp only [Option.toList_some, List.mem_singleton] at hy
      subst hy
      rw [← HX.out]
      exact ho
    clear hpred ho hnone hkl
    go_wp2_with (go_at_call 87; refine HP.out.mono ?_; rintro e w2 ⟨rfl, hb2⟩)
    have HB2 := hide (hbel.out.trans (hb2.mono hbel.out.size))
    go_roundw
    case rel => exact ⟨k + 1, by omega, by go_num, HIn, HB2⟩
    case measure => simp [intOf]; omega
  ·obtain rfl : k = n := by omega
   have HI := hide (HNo.out (by have := hnone.out; rw [Hn.out, List.take_length] at this; exact this))
   have d1 : decide ((k : Int) < (k : Int)) = false := by simp
   have d2 : decide (k < k) = false := by simp
   clear hnone
   go_wp2_with fail
   go_ret
   exact ⟨by rw [HI.out]; rfl, hbel.out⟩
set_option maxRecDepth 100000 in
set_option maxHeartbeats 1600000 in
theorem find_c (M : Nat → Prop) (A : Option Addr) (c : Nat) (l : List ScrV) (name : ByteArray) (w : World) (hr : Rd w M A (flat encScr l)) (hn0 : l.length ≤ 1000000) :
 Calls Tryz.prog 51 #[.slice A l.length c, .string name] w fun e w' => e = .returned (.tuple #[.int .i64 (if hasM (l.map (·.m)) name = true then (findM (l.map (·.m)) name : Int) else 0), .bool (hasM (l.map (·.m)) name)]) ∧ Below w.heap.size w w' := by
 obtain ⟨X, hX⟩ : ∃ X, X = w.alloc (.cells #[.string name] 9) := ⟨_, rfl⟩
 have HXb := hide (show Below w.heap.size w X by rw [hX]; exact below_alloc _ _)
 have HI := hide (IndexN_c (fun k => M k ∨ False) A c l name w.heap.size X (by rw [hX]; exact (hr.alloc _).mono (fun k h => h.elim id False.elim)) hn0 (by rw [hX]; exact (Blk.new w _ _).cell 0) (by rw [hX]; simp))
 have HG := hide (idxN_ge name (l.map (·.m)))
 have HMx := hide (idxN_max name (l.map (·.m)))
 obtain ⟨k, hk⟩ : ∃ k, k = idxN name (l.map (·.m)) := ⟨_, rfl⟩
 rw [← hk] at HI HG HMx
 rw [← HMx.out, ← HG.out]
 have HX := hide hX
 clear hk hr hX HG HMx
 go_enter Tryz.func51, Tryz.ntmps51
 go_wp2_with fail
 rw [← HX.out]
 refine HI.out.mono ?_
 rintro e w' ⟨rfl, hb⟩
 have HB := hide (HXb.out.trans (hb.mono HXb.out.size))
 clear hb
 go_wp2_with fail
 refine bodyPost_ret (v := .tuple #[.int .i64 (max k 0), .bool (decide (0 ≤ k))]) (by simp [results, Tryz.results51, go_sem]; try rfl) rfl ?_
 exact ⟨rfl, HB.out⟩
set_option maxRecDepth 100000 in
theorem Find_c (M : Nat → Prop) (A : Option Addr) (c : Nat) (l : List ScrV) (name : ByteArray) (w : World) (hr : Rd w M A (flat encScr l)) (hn0 : l.length ≤ 1000000) :
 Calls Tryz.prog 26 #[.slice A l.length c, .string name] w fun e w' => e = .returned (.tuple #[.int .i64 (if hasM (l.map (·.m)) name = true then (findM (l.map (·.m)) name : Int) else 0), .bool (hasM (l.map (·.m)) name)]) ∧ Below w.heap.size w w' := by
 have HI := hide (find_c M A c l name w hr hn0)
 obtain ⟨k, hk⟩ : ∃ k, k = (if hasM (l.map (·.m)) name = true then (findM (l.map (·.m)) name : Int) else 0) := ⟨_, rfl⟩
 obtain ⟨B, hB⟩ : ∃ B, B = hasM (l.map (·.m)) name := ⟨_, rfl⟩
 rw [← hk, ← hB] at HI
 rw [← hk, ← hB]
 clear hk hB hr
 go_enter Tryz.func26, Tryz.ntmps26
 go_wp2_with fail
 refine HI.out.mono ?_
 rintro e w' ⟨rfl, hb⟩
 have HB := hide hb
 clear hb
 go_wp2_with fail
 refine bodyPost_ret (v := .tuple #[.int .i64 k, .bool B]) (by simp [results, Tryz.results26, go_sem]; try rfl) rfl ?_
 exact ⟨rfl, HB.out⟩
end Go.Proofs.YtaioaojfdngfdaaGreatDoor
