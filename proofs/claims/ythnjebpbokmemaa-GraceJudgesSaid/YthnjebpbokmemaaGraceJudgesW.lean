/- The walk of GraceJudges. Conditions: those of each theorem. -/
import Derived.Test.YthnjebpbokmemaaGraceE
namespace Go.Proofs.Ythnjebpbokmemaa
open Go.RowKit
set_option linter.unusedVariables false

set_option maxRecDepth 100000 in
set_option maxHeartbeats 3200000 in
theorem GraceJudges_walk (A : Option Addr) (c : Nat) (l : List Ev) (id : Int) (w : World) (hr : Rd w NoBlk A (flat encEv l)) (hn : l.length ≤ maxLen) :
    Calls Try.prog 6 #[.slice A l.length c, .int .i64 id] w fun e w' => e = .returned (.bool true) ∧ Below w.heap.size w w' := by
  have hfew := Few_c NoBlk A c l 18 w hr hn (by omega) (fun k h => h.elim)
  have HFw := hide hfew
  clear hfew hr hn
  go_enter Try.func6, Try.ntmps6
  go_wp2_with fail
  refine HFw.out.mono ?_
  rintro e w1 ⟨A1, c1, rfl, rd1, hb1, hcap⟩
  have hle := few_le l 18
  have hid := fewL_idem l 18
  obtain ⟨F, hF⟩ : ∃ F, F = fewL l 18 := ⟨_, rfl⟩
  rw [← hF] at rd1 hcap hle hid ⊢
  have hfew2 := fun (w' : World) (hb : Below w1.heap.size w1 w') => Few_c NoBlk A1 c1 F 18 w' (rd1.below hb) (by unfold maxLen; omega) (by omega) (fun k h => h.elim)
  rw [hid] at hfew2
  have HF2 := hide hfew2
  have HRc := hide (fun (w' : World) (hb : Below w1.heap.size w1 w') => refClosed_c A1 c1 F w' (rd1.below hb) (by omega))
  have HRo := hide (fun (w' : World) (hb : Below w1.heap.size w1 w') => refOnce_c A1 c1 F id w' (rd1.below hb) (by omega))
  have HPc := hide (fun (A' : Option Addr) (c' : Nat) (w' : World) (hr : Rd w' NoBlk A' (flat encEv F)) (hc : F.length ≤ c') => closed_c A' c' F w' hr (by omega) hc)
  have HPo := hide (fun (A' : Option Addr) (c' : Nat) (w' : World) (hr : Rd w' NoBlk A' (flat encEv F)) => once_c A' c' F id w' hr (by omega))
  obtain ⟨cb, hcb⟩ : ∃ cb, cb = closedB F := ⟨_, rfl⟩
  obtain ⟨ob, hob⟩ : ∃ ob, ob = onceB id F := ⟨_, rfl⟩
  rw [← hcb] at HRc HPc
  rw [← hob] at HRo HPo
  obtain ⟨n, hnl⟩ : ∃ n, n = F.length := ⟨_, rfl⟩
  rw [← hnl] at hcap hle HF2 HRc HRo HPc HPo ⊢
  have Hn := hide hnl
  have HB1 := hide hb1
  have e1 : (cb == cb) = true := by simp
  have e2 : (ob == ob) = true := by simp
  clear hnl hF rd1 hb1 HFw hid hfew2 hcb hob
  go_wp2_with fail
  refine (HF2.out _ (Below.refl _ _)).mono ?_
  rintro e w2 ⟨A2, c2, rfl, rd2, hb2, hcap2⟩
  rw [← Hn.out] at hcap2 ⊢
  have HB2 := hide hb2
  have HC2 := hide (HPc.out A2 c2 w2 rd2 hcap2)
  clear rd2 hb2 hcap2
  go_wp2_with fail
  refine HC2.out.mono ?_
  rintro e w3 ⟨rfl, hb3⟩
  have HB3 := hide (HB2.out.trans (hb3.mono HB2.out.size))
  clear hb3
  go_wp2_with fail
  refine (HRc.out _ HB3.out).mono ?_
  rintro e w4 ⟨rfl, hb4⟩
  have HB4 := hide (HB3.out.trans (hb4.mono HB3.out.size))
  clear hb4
  go_wp2_with fail
  refine (HF2.out _ HB4.out).mono ?_
  rintro e w5 ⟨A5, c5, rfl, rd5, hb5, hcap5⟩
  rw [← Hn.out]
  have HB5 := hide (HB4.out.trans (hb5.mono HB4.out.size))
  have HC5 := hide (HPo.out A5 c5 w5 rd5)
  clear rd5 hb5 hcap5
  go_wp2_with fail
  refine HC5.out.mono ?_
  rintro e w6 ⟨rfl, hb6⟩
  have HB6 := hide (HB5.out.trans (hb6.mono HB5.out.size))
  clear hb6
  go_wp2_with fail
  refine (HRo.out _ HB6.out).mono ?_
  rintro e w7 ⟨rfl, hb7⟩
  have HB7 := hide (HB6.out.trans (hb7.mono HB6.out.size))
  clear hb7
  go_wp2_with fail
  refine (lives37_c _).mono ?_
  rintro e w8 ⟨rfl, hb8⟩
  have HB8 := hide (HB7.out.trans (hb8.mono HB7.out.size))
  clear hb8
  go_wp2_with fail
  go_ret
  exact ⟨rfl, HB1.out.trans (HB8.out.mono HB1.out.size)⟩
end Go.Proofs.Ythnjebpbokmemaa
