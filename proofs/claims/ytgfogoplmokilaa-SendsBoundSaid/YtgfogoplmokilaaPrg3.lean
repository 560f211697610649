/- Scripts, by the program: what is wrong of an arm, of an op that expects. Conditions: those of each theorem. -/
import Derived.Test.YtgfogoplmokilaaPrg2
namespace Go.Proofs.Ytgfogoplmokilaa
open Go.RowKit
set_option linter.unusedVariables false
set_option linter.unusedSimpArgs false

theorem onlyBox {w w1 w2 : World} (h : Only NoBlk w w1) (k : Below w1.heap.size w1 w2) : Only NoBlk w w2 := h.trans (Only.of_below k _)
set_option maxRecDepth 100000 in
set_option maxHeartbeats 3200000 in
theorem armed_c (s : ByteArray) (d j : Int) (PA : Option Addr) (pn pc : Nat) (a : ArmM) (w : World) (hs : a.pat.size ≤ 9223372036854775807) :
    Calls Try.prog 126 #[.agg #[.string s, .int .i64 d, .int .i64 j, .slice PA pn pc], .agg #[.string a.pat, .int .i64 a.to]] w fun e w' => e = .returned (.int .i64 (armE pn a)) ∧ Only NoBlk w w' := by
  obtain ⟨pt, g⟩ := a
  simp only at hs ⊢
  obtain ⟨a0, b0, hck⟩ : ∃ a0 b0, checkS pt.data.toList = (a0, b0) := ⟨_, _, rfl⟩
  have HC := hide (fun (w' : World) => Check_c pt w' hs)
  rw [hck] at HC
  have HA := hide (show armE pn ⟨pt, g⟩ = if 64 < pt.size then 4 else if ((b0 : Nat) : Int) ≠ 0 then ((b0 : Nat) : Int) else if comesB pn g = true then 0 else 13 by unfold armE patE; rw [hck])
  have HCm := hide (fun (w' : World) => comes_c s d j PA pn pc g w')
  have hB : Below w.heap.size w ((w.alloc (.cells #[.string s, .int .i64 d, .int .i64 j, .slice PA pn pc] 93)).alloc (.cells #[.string pt, .int .i64 g] 87)) := (below_alloc _ _).alloc (by simp) _
  have HO := hide (Only.of_below hB NoBlk)
  have HP := hide (show Blk ((w.alloc (.cells #[.string s, .int .i64 d, .int .i64 j, .slice PA pn pc] 93)).alloc (.cells #[.string pt, .int .i64 g] 87)) w.heap.size 93 #[.string s, .int .i64 d, .int .i64 j, .slice PA pn pc] from (Blk.new w 93 _).alloc _)
  have HM := hide (show Blk ((w.alloc (.cells #[.string s, .int .i64 d, .int .i64 j, .slice PA pn pc] 93)).alloc (.cells #[.string pt, .int .i64 g] 87)) (w.heap.size + 1) 87 #[.string pt, .int .i64 g] from Blk.new' (by simp))
  clear hB hck
  by_cases h1 : 64 < pt.size
  · have d1 : decide ((pt.size : Int) > 64) = true := by simp; omega
    have d2 : decide (64 < pt.size) = true := by simp; exact h1
    have HQ := hide (show armE pn ⟨pt, g⟩ = 4 by rw [HA.out, if_pos h1])
    clear h1
    go_enter Try.func126, Try.ntmps126
    go_wp2_with fail
    go_ret
    exact ⟨by rw [HQ.out]; rfl, HO.out⟩
  · have d1 : decide ((pt.size : Int) > 64) = false := by simp; omega
    have d2 : decide (64 < pt.size) = false := by simp; omega
    replace HA := hide (HA.out.trans (if_neg h1))
    clear h1
    by_cases hb : b0 = 0
    · subst hb
      replace HA := hide (HA.out.trans (if_neg (by simp)))
      go_enter Try.func126, Try.ntmps126
      go_wp2_with fail
      refine (HC.out _).mono ?_
      rintro e w2 ⟨rfl, ho2⟩
      have HP2 := hide (HP.out.only ho2 (fun h => h))
      have HM2 := hide (HM.out.only ho2 (fun h => h))
      have HO2 := hide (HO.out.trans ho2)
      clear ho2 HP HM HO
      obtain ⟨⟨g0, g1, g2, g3⟩, _⟩ := HP2.out.four
      have m0 : w2.cell? ⟨w.heap.size + 1, 0, none⟩ = some (.string pt) := by rw [HM2.out.cell]; rfl
      have m1 : w2.cell? ⟨w.heap.size + 1, 1, none⟩ = some (.int .i64 g) := by rw [HM2.out.cell]; rfl
      cases hc : comesB pn g with
      | true =>
        rw [hc] at HCm
        have HQ := hide (show armE pn ⟨pt, g⟩ = 0 by rw [HA.out, hc]; rfl)
        clear hc
        go_wp2_with fail
        refine (HCm.out _).mono ?_
        rintro e w3 ⟨rfl, hb3⟩
        go_wp2_with fail
        go_ret
        exact ⟨by rw [HQ.out]; rfl, onlyBox HO2.out hb3⟩
      | false =>
        rw [hc] at HCm
        have HQ := hide (show armE pn ⟨pt, g⟩ = 13 by rw [HA.out, hc]; rfl)
        clear hc
        go_wp2_with fail
        refine (HCm.out _).mono ?_
        rintro e w3 ⟨rfl, hb3⟩
        go_wp2_with fail
        go_ret
        exact ⟨by rw [HQ.out]; rfl, onlyBox HO2.out hb3⟩
    · have hbe : ((b0 : Int) != 0) = true := by simp only [bne_iff_ne, ne_eq]; omega
      have HQ := hide (show armE pn ⟨pt, g⟩ = b0 by rw [HA.out, if_pos (by omega)])
      clear hb
      go_enter Try.func126, Try.ntmps126
      go_wp2_with fail
      refine (HC.out _).mono ?_
      rintro e w2 ⟨rfl, ho2⟩
      have HO2 := hide (HO.out.trans ho2)
      clear ho2
      go_wp2_with fail
      go_ret
      exact ⟨by rw [HQ.out]; rfl, HO2.out⟩
end Go.Proofs.Ytgfogoplmokilaa
