/- The law LedgerTotals: for every input it answers true, and its arguments read as they did; the card, tied. Conditions: none. -/
import Derived.Test.YthnjebpbokmemaaDoorLedgerTotalsW
import Derived.Test.YthnjebpbokmemaaDoorOpenEv2
import Derived.Test.YthnjebpbokmemaaDoorOpen
import Derived.Test.YthnjebpbokmemaaDoorLaw
import Derived.Test.YthnjebpbokmemaaDoorLaid
import Derived.Test.YthnjebpbokmemaaDoorTie
import Derived.Test.YthnjebpbokmemaaDoorCards
import Derived.SevenTiedAt
namespace Go.Proofs.YthnjebpbokmemaaDoor.ledgerTotals
open Go.ChangeShapes Go.WideShapes Go.ChangeAt Go.RowKit
set_option maxRecDepth 100000 in
theorem lifted (os : Os) (started : os.Started) (H : Type) (enc : TypeId × Value → H) :
    ReturnsInHanded {} Tryd.checked os 5 .any (fun w args => (Rows.ledgerTotalsSpec.pre enc Tryd.prog Tryd.f5 [] false w args ∧ laidMetH Tryd.prog Rows.ledgerLinesRow.laid w) ∧ sizedMet enc Tryd.prog Tryd.f5 (OpenSpec.ofChange Rows.ledgerTotalsSpec) false w args) (Rows.ledgerTotalsSpec.post enc Tryd.prog Tryd.f5 false true false false) := by
  refine returnsInHanded_of_change_and (C := Tryd.checked) (X := fun w _ => laidMetH Tryd.prog Rows.ledgerLinesRow.laid w) (fun _ _ _ hh h => h.of_heap hh) Tryd.own started (by kernel_rfl) Tryd.func5
    (ChangeSpec.witness_shaped (enc := enc) (C := Tryd.checked) (os := os) (X := fun w _ => laidMetH Tryd.prog Rows.ledgerLinesRow.laid w) false (World.doorLaid Tryd.prog 4000 os) #[.slice none 0 0] 8 rfl (World.shaped_of_RefB (by kernel_rfl) (by kernel_rfl)) (by kernel_rfl) (by kernel_rfl) (by kernel_rfl) (door_met os _)) ?_
  intro W base args ds gs before hval0 hW _ hsz0 hL _
  have hval : ∀ (j : Nat) t v, Tryd.f5.params[j]? = some t → args[j]? = some v → Value.okWide Tryd.prog W .any base t v := hval0
  have hW' := hW
  obtain ⟨p, q, hA0, hV, he0, _, _⟩ := hW
  obtain ⟨rfl, rfl⟩ := trodVars_none hV
  rw [List.append_nil] at he0
  subst he0
  have hA : DataW.TrodAll enc Tryd.prog W 0 (fun _ => true) true Tryd.f5.params.toList args.toList ds before := hA0
  rw [Tryd.params5] at hA hval
  obtain ⟨v0, vs0, d0, ds0, p0, q0, hargs, rfl, rfl, h0, r0⟩ := trodAll_cons hA
  obtain ⟨rfl, rfl, rfl⟩ := trodAll_nil r0
  obtain rfl : args = #[v0] := by cases args; simp_all
  clear hA0 hval0 hsz0
  have htab := tab_of_laid hL
  have hv0 : ∃ a n c, v0 = .slice a n c := by
    obtain ⟨a, n, c, rfl⟩ := okWide_slice Tryd.underlying29 (hval 0 29 v0 rfl rfl)
    exact ⟨a, n, c, rfl⟩
  obtain ⟨A, c, l, rfl, hlc, hcm, hr, hok⟩ := open_evs2 hv0 h0
  refine (((LedgerTotals_walk A c l W hr (Nat.le_trans hlc hcm) (fun x hx => (hok x hx).2) htab).mono fun e W1 ⟨he, hg⟩ => (⟨he, Only.of_below hg NoBlk⟩ : _ ∧ Only NoBlk W W1))).mono fun e W1 ⟨he, hg⟩ => ⟨_, he, ?_⟩
  exact law_post Tryd.laidOut (by kernel_rfl) rfl Tryd.underlying4 rfl hW' rfl rfl rfl hg
theorem over : Rows.ledgerTotalsRow.holds Tryd.pinned (OpenSpec.ofChange Rows.ledgerTotalsSpec) :=
  OpenClaim.holds_of_wide 5 Tryd.f5 rfl rfl rfl rfl rfl rfl rfl ⟨rfl, rfl, rfl, rfl, rfl⟩ rfl rfl rfl rfl rfl (by kernel_rfl) Tryd.func5 (by kernel_rfl)
    (of_decide_eq_true (by kernel_rfl)) (by unfold Func.isWrapper; rw [if_neg (by decide +kernel)]; exact ⟨rfl, rfl⟩)
    (fun os started H enc _ => lifted os started H enc)
theorem proved : Rows.LedgerTotalsCardSaid :=
  Claim7.holds_tied_plain_at .later [] [.data, .data, .data] true (true, "3698be94dd8da21598c33b034bc71ef8291e7c38d1b5e10b5d51c9f5ffbfe8b1") false
    over (fun _ h => by cases h) (by kernel_rfl) (fun _ h => by cases h) ledgerTotals_row_tie rfl ⟨rfl, rfl⟩ (by kernel_rfl) rfl
    (fun f fn hf hfn => by
      obtain rfl : f = 5 := Option.some.inj ((show Tryd.prog.funcNamed "repartee/reparteelaw38.LedgerTotals" = some 5 by kernel_rfl).symm.trans hf) |>.symm
      obtain rfl : fn = Tryd.f5 := (Option.some.inj (Tryd.func5.symm.trans hfn)).symm
      exact ⟨by kernel_rfl, fun j t ht => by
        rw [Tryd.params5] at ht
        have hm : t ∈ [29] := by simpa using Array.mem_of_getElem? ht
        have hall : ([29].all fun u => !Tryd.prog.wantsStandIn u) = true := by kernel_rfl
        exact (show Tryd.prog.wantsStandIn t = false by simpa using List.all_eq_true.1 hall t hm)⟩)
    (by kernel_rfl)
#print axioms proved
end Go.Proofs.YthnjebpbokmemaaDoor.ledgerTotals
