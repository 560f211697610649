/- Parts of a chain of lemmas: Prg2, Prg3. Conditions: those of each theorem. -/
import Derived.Test.YtdmdohjdmnmabaaGreatQw11
import Derived.Laws.StructEq
namespace Go.Proofs.YtdmdohjdmnmabaaGreat
open Go.RowKit
set_option linter.unusedVariables false
set_option linter.unusedSimpArgs false

def armAt (l : List ArmM) (k : Nat) : ArmM := l.getD k ⟨⟨#[]⟩, 0⟩
theorem armAt_some {l : List ArmM} {k : Nat} (hk : k < l.length) : l[k]? = some (armAt l k) := by simp [armAt, List.getD, hk]
theorem arm_cells {w : World} {M : Nat → Prop} {A : Option Addr} {l : List ArmM} (hr : Rd w M A (flat encArm l)) (k : Nat) (hk : k < l.length) : ∃ b o, A = some ⟨b, o, none⟩ ∧ b < w.heap.size ∧
 w.cell? ⟨b, o + k * 2, none⟩ = some (.string (armAt l k).pat) ∧ w.cell? ⟨b, o + k * 2 + 1, none⟩ = some (.int .i64 (armAt l k).to) := by
 obtain ⟨b, o, hA, _, hb, hc⟩ := flat_cells encArm_len hr k _ (armAt_some hk) (by omega)
 exact ⟨b, o, hA, hb, hc 0 (by omega), hc 1 (by omega)⟩
theorem below_drN {B : Nat} {w0 w : World} (h : Below B w0 w) (n : Nat) : Below B w0 (w.drewN n) := ⟨h.os, h.tape, h.output, h.size, h.block⟩
set_option maxRecDepth 100000 in
theorem eq_arm (s : ByteArray) (g : Int) (w : World) : Sem.run Tryz.prog (Op.equalIn 10000 79 (.agg #[.string s, .int .i64 g]) (.agg #[.string s, .int .i64 g])) w = .ok true w := by
 refine (run_equalIn_struct (P := Tryz.prog) w 9999 79 _ _ (by kernel_rfl) (by kernel_rfl)).trans ?_
 simp [go_sem, Op.eqFields]
set_option maxRecDepth 100000 in
set_option maxHeartbeats 1600000 in
theorem Equal_self (A : Option Addr) (c : Nat) (l : List ArmM) (w : World) (hr : Rd w NoBlk A (flat encArm l)) (hn : l.length ≤ maxLen) :
 Calls Tryz.prog 137 #[.slice A l.length c, .slice A l.length c] w fun e w' => e = .returned (.bool true) ∧ Below w.heap.size w w' := by
 have hn' : l.length ≤ 9223372036854775807 := hn
 have Hc := hide (fun k hk => arm_cells hr k hk)
 obtain ⟨n, hnl⟩ : ∃ n, n = l.length := ⟨_, rfl⟩
 rw [← hnl] at hn' ⊢
 have Hn := hide hnl
 have HE := @eq_arm
 have r1 : (n != n) = false := by simp
 have r2 : ((n : Int) != (n : Int)) = false := by simp
 clear hr hn hnl
 go_enter Tryz.func137, Tryz.ntmps137
 go_wp2_with fail
 go_loopw [13] (fun i wr => ∃ k : Nat, k ≤ n ∧ i = .int .i64 k ∧ Hid (Below w.heap.size w wr)) (fun i _ => n - (intOf i).toNat)
 case atStart => exact ⟨0, Nat.zero_le _, rfl, hide (Below.refl _ _)⟩
 case round =>
  obtain ⟨k, hk, rfl, hbel⟩ := hrel
  by_cases hlt : k < n
  ·obtain ⟨b, o, rfl, hb, g0, g1⟩ := Hc.out k (by rw [← Hn.out]; exact hlt)
   replace g0 := bkeepL hbel.out hb g0
   replace g1 := bkeepL hbel.out hb g1
   obtain ⟨x, hx⟩ : ∃ x, x = armAt l k := ⟨_, rfl⟩
   rw [← hx] at g0 g1
   clear hx
   obtain ⟨xp, xt⟩ := x
   have j1 : (0 : Int) ≤ (k : Int) := by omega
   have j2 : (k : Int) < (n : Int) := by omega
   have d1 : decide ((k : Int) < (n : Int)) = true := by simp; exact hlt
   have d2 : decide (k < n) = true := by simp; exact hlt
   have w1 : IntKind.i64.wrap ((k : Int) + 1) = (k : Int) + 1 := IntWalk.i64_in _ (by omega)
   go_upto_region 6 with fail
   go_quiet (fail)
   go_wp2_with fail
   go_roundw
   case rel => exact ⟨k + 1, by omega, by go_num, hide (below_drN hbel.out _)⟩
   case measure => simp [intOf]; omega
  ·obtain rfl : k = n := by omega
   have d1 : decide ((k : Int) < (k : Int)) = false := by simp
   have d2 : decide (k < k) = false := by simp
   go_wp2_with fail
   go_ret
   exact ⟨rfl, hbel.out⟩
set_option maxRecDepth 100000 in
set_option maxHeartbeats 1600000 in
theorem Equal_none (A : Option Addr) (n c : Nat) (w : World) :
 Calls Tryz.prog 137 #[.slice A n c, .slice none 0 0] w fun e w' => e = .returned (.bool (decide (n = 0))) ∧ Below w.heap.size w w' := by
 by_cases h : n = 0
 ·subst h
  go_enter Tryz.func137, Tryz.ntmps137
  go_wp2_with fail
  go_loopw [13] (fun i wr => i = .int .i64 0 ∧ wr = w) (fun _ _ => 0)
  case atStart => exact ⟨rfl, rfl⟩
  case round =>
   obtain ⟨rfl, rfl⟩ := hrel
   go_wp2_with fail
   go_ret
   exact ⟨rfl, Below.refl _ _⟩
 ·have r1 : ((n : Int) != 0) = true := by simp; exact h
  have r2 : ¬ n = 0 := h
  go_enter Tryz.func137, Tryz.ntmps137
  go_wp2_with fail
  go_ret
  exact ⟨by rw [decide_eq_false r2]; rfl, Below.refl _ _⟩

theorem str_nil {t : ByteArray} (h : t.size = 0) : t = ⟨#[]⟩ := by
 obtain ⟨⟨l⟩⟩ := t
 have : l.length = 0 := h
 rw [List.eq_nil_of_length_eq_zero this]
theorem str_some {t : ByteArray} (h : ¬ t.size = 0) : t.toList.isEmpty = false := by
 rw [ByteArray.toList_eq]
 cases hl : t.data.toList with
 | nil => exact absurd (by rw [← ba_size, hl]; rfl) h
 | cons c r => rfl
theorem str_e : (⟨#[]⟩ : ByteArray) = ByteArray.empty := rfl
set_option maxRecDepth 100000 in
set_option maxHeartbeats 6400000 in
theorem sameOp_c (k : Int) (t : ByteArray) (n gt : Int) (A : Option Addr) (l : List ArmM) (c : Nat) (x y : Int) (w : World) (hr : Rd w NoBlk A (flat encArm l)) (hn : l.length ≤ maxLen) :
 Calls Tryz.prog 121 #[.agg #[.int .i64 k, .string t, .int .i64 n, .int .i64 gt, .slice A l.length c, .int .i64 x, .int .i64 y], .agg (bareV k t n gt A l.length c x y)] w fun e w' =>
  e = .returned (.bool (bareB ⟨k, t, n, gt, l, x, y⟩)) ∧ Below w.heap.size w w' := by
 have HS := hide (fun (w' : World) (h : Rd w' NoBlk A (flat encArm l)) => Equal_self A c l w' h hn)
 have HN := hide (fun (w' : World) => Equal_none A l.length c w')
 have HR := hide hr
 unfold bareV opV bareB
 simp only
 obtain ⟨m, hm⟩ : ∃ m, m = l.length := ⟨_, rfl⟩
 rw [← hm] at HS HN ⊢
 clear hr hn hm
 by_cases h1 : k = 1
 ·subst h1
  by_cases hn : n = 0
  ·subst hn
   by_cases hgt : gt = 0
   ·subst hgt
    by_cases hx : x = 0
    ·subst hx
     by_cases hy : y = 0
     ·subst hy
      go_enter Tryz.func121, Tryz.ntmps121
      go_wp2_with fail
      refine (HN.out _).mono ?_
      rintro e w2 ⟨rfl, hb2⟩
      go_wp2_with fail
      go_ret
      exact ⟨by show Ending.returned (.bool (decide (m = 0))) = _; simp [str_e, *], ((below_alloc _ _).alloc (by simp) _).trans (hb2.mono (by simp <;> omega))⟩
     ·have q1 : (y == 0) = false := by simp [hy]
      go_enter Tryz.func121, Tryz.ntmps121
      go_wp2_with fail
      go_ret
      exact ⟨by simp [str_e, *], (below_alloc _ _).alloc (by simp) _⟩
    ·have q1 : (x == 0) = false := by simp [hx]
     go_enter Tryz.func121, Tryz.ntmps121
     go_wp2_with fail
     go_ret
     exact ⟨by simp [str_e, *], (below_alloc _ _).alloc (by simp) _⟩
   ·have q1 : (gt == 0) = false := by simp [hgt]
    go_enter Tryz.func121, Tryz.ntmps121
    go_wp2_with fail
    go_ret
    exact ⟨by simp [str_e, *], (below_alloc _ _).alloc (by simp) _⟩
  ·have q1 : (n == 0) = false := by simp [hn]
   go_enter Tryz.func121, Tryz.ntmps121
   go_wp2_with fail
   go_ret
   exact ⟨by simp [str_e, *], (below_alloc _ _).alloc (by simp) _⟩
 by_cases h2 : k = 2
 ·subst h2
  by_cases ht : t.size = 0
  ·obtain rfl := str_nil ht
   have Hx := hide ht
   clear ht Hx
   by_cases hgt : gt = 0
   ·subst hgt
    go_enter Tryz.func121, Tryz.ntmps121
    go_wp2_with fail
    refine (HS.out _ (HR.out.below ((below_alloc _ _).alloc (by simp) _))).mono ?_
    rintro e w2 ⟨rfl, hb2⟩
    go_wp2_with fail
    go_ret
    exact ⟨by show Ending.returned (.bool (true)) = _; simp [str_e, *], ((below_alloc _ _).alloc (by simp) _).trans (hb2.mono (by simp <;> omega))⟩
   ·have q1 : (gt == 0) = false := by simp [hgt]
    go_enter Tryz.func121, Tryz.ntmps121
    go_wp2_with fail
    go_ret
    exact ⟨by simp [str_e, *], (below_alloc _ _).alloc (by simp) _⟩
  ·have q1 := str_some ht
   go_enter Tryz.func121, Tryz.ntmps121
   go_wp2_with fail
   go_ret
   exact ⟨by simp [str_e, *], (below_alloc _ _).alloc (by simp) _⟩
 by_cases h3 : k = 3
 ·subst h3
  by_cases ht : t.size = 0
  ·obtain rfl := str_nil ht
   have Hx := hide ht
   clear ht Hx
   by_cases hn : n = 0
   ·subst hn
    by_cases hx : x = 0
    ·subst hx
     by_cases hy : y = 0
     ·subst hy
      go_enter Tryz.func121, Tryz.ntmps121
      go_wp2_with fail
      refine (HN.out _).mono ?_
      rintro e w2 ⟨rfl, hb2⟩
      go_wp2_with fail
      go_ret
      exact ⟨by show Ending.returned (.bool (decide (m = 0))) = _; simp [str_e, *], ((below_alloc _ _).alloc (by simp) _).trans (hb2.mono (by simp <;> omega))⟩
     ·have q1 : (y == 0) = false := by simp [hy]
      go_enter Tryz.func121, Tryz.ntmps121
      go_wp2_with fail
      go_ret
      exact ⟨by simp [str_e, *], (below_alloc _ _).alloc (by simp) _⟩
    ·have q1 : (x == 0) = false := by simp [hx]
     go_enter Tryz.func121, Tryz.ntmps121
     go_wp2_with fail
     go_ret
     exact ⟨by simp [str_e, *], (below_alloc _ _).alloc (by simp) _⟩
   ·have q1 : (n == 0) = false := by simp [hn]
    go_enter Tryz.func121, Tryz.ntmps121
    go_wp2_with fail
    go_ret
    exact ⟨by simp [str_e, *], (below_alloc _ _).alloc (by simp) _⟩
  ·have q1 := str_some ht
   go_enter Tryz.func121, Tryz.ntmps121
   go_wp2_with fail
   go_ret
   exact ⟨by simp [str_e, *], (below_alloc _ _).alloc (by simp) _⟩
 by_cases h4 : k = 4
 ·subst h4
  by_cases ht : t.size = 0
  ·obtain rfl := str_nil ht
   have Hx := hide ht
   clear ht Hx
   by_cases hgt : gt = 0
   ·subst hgt
    by_cases hx : x = 0
    ·subst hx
     by_cases hy : y = 0
     ·subst hy
      go_enter Tryz.func121, Tryz.ntmps121
      go_wp2_with fail
      refine (HN.out _).mono ?_
      rintro e w2 ⟨rfl, hb2⟩
      go_wp2_with fail
      go_ret
      exact ⟨by show Ending.returned (.bool (decide (m = 0))) = _; simp [str_e, *], ((below_alloc _ _).alloc (by simp) _).trans (hb2.mono (by simp <;> omega))⟩
     ·have q1 : (y == 0) = false := by simp [hy]
      go_enter Tryz.func121, Tryz.ntmps121
      go_wp2_with fail
      go_ret
      exact ⟨by simp [str_e, *], (below_alloc _ _).alloc (by simp) _⟩
    ·have q1 : (x == 0) = false := by simp [hx]
     go_enter Tryz.func121, Tryz.ntmps121
     go_wp2_with fail
     go_ret
     exact ⟨by simp [str_e, *], (below_alloc _ _).alloc (by simp) _⟩
   ·have q1 : (gt == 0) = false := by simp [hgt]
    go_enter Tryz.func121, Tryz.ntmps121
    go_wp2_with fail
    go_ret
    exact ⟨by simp [str_e, *], (below_alloc _ _).alloc (by simp) _⟩
  ·have q1 := str_some ht
   go_enter Tryz.func121, Tryz.ntmps121
   go_wp2_with fail
   go_ret
   exact ⟨by simp [str_e, *], (below_alloc _ _).alloc (by simp) _⟩
 rw [if_neg h1, if_neg h2, if_neg h3, if_neg h4]
 by_cases ht : t.size = 0
 ·obtain rfl := str_nil ht
  have Hx := hide ht
  clear ht Hx
  by_cases hn : n = 0
  ·subst hn
   by_cases hgt : gt = 0
   ·subst hgt
    by_cases hx : x = 0
    ·subst hx
     by_cases hy : y = 0
     ·subst hy
      go_enter Tryz.func121, Tryz.ntmps121
      go_wp2_with fail
      refine (HN.out _).mono ?_
      rintro e w2 ⟨rfl, hb2⟩
      go_wp2_with fail
      go_ret
      exact ⟨by show Ending.returned (.bool (decide (m = 0))) = _; simp [str_e, *], ((below_alloc _ _).alloc (by simp) _).trans (hb2.mono (by simp <;> omega))⟩
     ·have q1 : (y == 0) = false := by simp [hy]
      go_enter Tryz.func121, Tryz.ntmps121
      go_wp2_with fail
      go_ret
      exact ⟨by simp [str_e, *], (below_alloc _ _).alloc (by simp) _⟩
    ·have q1 : (x == 0) = false := by simp [hx]
     go_enter Tryz.func121, Tryz.ntmps121
     go_wp2_with fail
     go_ret
     exact ⟨by simp [str_e, *], (below_alloc _ _).alloc (by simp) _⟩
   ·have q1 : (gt == 0) = false := by simp [hgt]
    go_enter Tryz.func121, Tryz.ntmps121
    go_wp2_with fail
    go_ret
    exact ⟨by simp [str_e, *], (below_alloc _ _).alloc (by simp) _⟩
  ·have q1 : (n == 0) = false := by simp [hn]
   go_enter Tryz.func121, Tryz.ntmps121
   go_wp2_with fail
   go_ret
   exact ⟨by simp [str_e, *], (below_alloc _ _).alloc (by simp) _⟩
 ·have q1 := str_some ht
  go_enter Tryz.func121, Tryz.ntmps121
  go_wp2_with fail
  go_ret
  exact ⟨by simp [str_e, *], (below_alloc _ _).alloc (by simp) _⟩
end Go.Proofs.YtdmdohjdmnmabaaGreat
namespace Go.Proofs.YtdmdohjdmnmabaaGreat
open Go.RowKit
set_option linter.unusedVariables false
set_option linter.unusedSimpArgs false

theorem onlyBox {w w1 w2 : World} (h : Only NoBlk w w1) (k : Below w1.heap.size w1 w2) : Only NoBlk w w2 := h.trans (Only.of_below k _)
set_option maxRecDepth 100000 in
set_option maxHeartbeats 3200000 in
theorem armed_c (s : ByteArray) (d j : Int) (PA : Option Addr) (pn pc : Nat) (a : ArmM) (w : World) (hs : a.pat.size ≤ 9223372036854775807) :
 Calls Tryz.prog 138 #[.agg #[.string s, .int .i64 d, .int .i64 j, .slice PA pn pc], .agg #[.string a.pat, .int .i64 a.to]] w fun e w' => e = .returned (.int .i64 (armE pn a)) ∧ Only NoBlk w w' := by
 obtain ⟨pt, g⟩ := a
 simp only at hs ⊢
 obtain ⟨a0, b0, hck⟩ : ∃ a0 b0, checkS pt.data.toList = (a0, b0) := ⟨_, _, rfl⟩
 have HC := hide (fun (w' : World) => Check_c pt w' hs)
 rw [hck] at HC
 have HA := hide (show armE pn ⟨pt, g⟩ = if 64 < pt.size then 4 else if ((b0 : Nat) : Int) ≠ 0 then ((b0 : Nat) : Int) else if comesB pn g = true then 0 else 13 by unfold armE patE; rw [hck])
 have HCm := hide (fun (w' : World) => comes_c s d j PA pn pc g w')
 have hB : Below w.heap.size w ((w.alloc (.cells #[.string s, .int .i64 d, .int .i64 j, .slice PA pn pc] 24)).alloc (.cells #[.string pt, .int .i64 g] 79)) := (below_alloc _ _).alloc (by simp) _
 have HO := hide (Only.of_below hB NoBlk)
 have HP := hide (show Blk ((w.alloc (.cells #[.string s, .int .i64 d, .int .i64 j, .slice PA pn pc] 24)).alloc (.cells #[.string pt, .int .i64 g] 79)) w.heap.size 24 #[.string s, .int .i64 d, .int .i64 j, .slice PA pn pc] from (Blk.new w 24 _).alloc _)
 have HM := hide (show Blk ((w.alloc (.cells #[.string s, .int .i64 d, .int .i64 j, .slice PA pn pc] 24)).alloc (.cells #[.string pt, .int .i64 g] 79)) (w.heap.size + 1) 79 #[.string pt, .int .i64 g] from Blk.new' (by simp))
 clear hB hck
 by_cases h1 : 64 < pt.size
 ·have d1 : decide ((pt.size : Int) > 64) = true := by simp; omega
  have d2 : decide (64 < pt.size) = true := by simp; exact h1
  have HQ := hide (show armE pn ⟨pt, g⟩ = 4 by rw [HA.out, if_pos h1])
  clear h1
  go_enter Tryz.func138, Tryz.ntmps138
  go_wp2_with fail
  go_ret
  exact ⟨by rw [HQ.out]; rfl, HO.out⟩
 ·have d1 : decide ((pt.size : Int) > 64) = false := by simp; omega
  have d2 : decide (64 < pt.size) = false := by simp; omega
  replace HA := hide (HA.out.trans (if_neg h1))
  clear h1
  by_cases hb : b0 = 0
  ·subst hb
   replace HA := hide (HA.out.trans (if_neg (by simp)))
   go_enter Tryz.func138, Tryz.ntmps138
   go_wp2_with fail
   refine (HC.out _).mono ?_
   rintro e w2 ⟨rfl, ho2⟩
   have HP2 := hide (HP.out.only ho2 (fun h => h))
   have HM2 := hide (HM.out.only ho2 (fun h => h))
   have HO2 := hide (HO.out.trans ho2)
   clear ho2 HP HM HO
   obtain ⟨⟨g0, g1, g2, g3⟩, _⟩ := HP2.out.four
   have m0 : w2.cell? ⟨w.heap.size + 1, 0, none⟩ = some (.string pt) := by rw [HM2.out.cell]; rfl
   have m1 : w2.cell? ⟨w.heap.size + 1, 1, none⟩ = some (.int .i64 g) := by rw [HM2.out.cell]; rfl
   cases hc : comesB pn g with
   | true =>
    rw [hc] at HCm
    have HQ := hide (show armE pn ⟨pt, g⟩ = 0 by rw [HA.out, hc]; rfl)
    clear hc
    go_wp2_with fail
    refine (HCm.out _).mono ?_
    rintro e w3 ⟨rfl, hb3⟩
    go_wp2_with fail
    go_ret
    exact ⟨by rw [HQ.out]; rfl, onlyBox HO2.out hb3⟩
   | false =>
    rw [hc] at HCm
    have HQ := hide (show armE pn ⟨pt, g⟩ = 13 by rw [HA.out, hc]; rfl)
    clear hc
    go_wp2_with fail
    refine (HCm.out _).mono ?_
    rintro e w3 ⟨rfl, hb3⟩
    go_wp2_with fail
    go_ret
    exact ⟨by rw [HQ.out]; rfl, onlyBox HO2.out hb3⟩
  ·have hbe : ((b0 : Int) != 0) = true := by simp only [bne_iff_ne, ne_eq]; omega
   have HQ := hide (show armE pn ⟨pt, g⟩ = b0 by rw [HA.out, if_pos (by omega)])
   clear hb
   go_enter Tryz.func138, Tryz.ntmps138
   go_wp2_with fail
   refine (HC.out _).mono ?_
   rintro e w2 ⟨rfl, ho2⟩
   have HO2 := hide (HO.out.trans ho2)
   clear ho2
   go_wp2_with fail
   go_ret
   exact ⟨by rw [HQ.out]; rfl, HO2.out⟩
end Go.Proofs.YtdmdohjdmnmabaaGreat
