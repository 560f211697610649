/- Same of two lists of numbers that read the same. Conditions: those of each theorem. -/
import Derived.Test.YthnjebpbokmemaaRefIds
namespace Go.Proofs.Ythnjebpbokmemaa
open Go.RowKit
set_option linter.unusedVariables false

theorem encI_cell {w : World} {M : Nat → Prop} {A : Option Addr} {L : List Int} (hr : Rd w M A (flat encI L)) (k : Nat) (hk : k < L.length) : ∃ b o, A = some ⟨b, o, none⟩ ∧ b < w.heap.size ∧ w.cell? ⟨b, o + k, none⟩ = some (.int .i64 (nth L k)) := by
  obtain ⟨b, o, hA, _, hb, hc⟩ := hr.at_ (j := k) (by rw [encI_len]; exact hk)
  refine ⟨b, o, hA, hb, ?_⟩
  rw [hc k (by rw [encI_len]; exact hk), flat_encI, nth_of_lt hk]
  simp [hk]
set_option maxRecDepth 100000 in
set_option maxHeartbeats 1600000 in
theorem same04_c (M1 M2 : Nat → Prop) (A1 A2 : Option Addr) (c1 c2 : Nat) (L : List Int) (w : World) (hr1 : Rd w M1 A1 (flat encI L)) (hr2 : Rd w M2 A2 (flat encI L)) (hn : L.length ≤ 100000) :
    Calls Try.prog 15 #[.slice A1 L.length c1, .slice A2 L.length c2] w fun e w' => e = .returned (.bool true) ∧ Below w.heap.size w w' := by
  have Hc1 := hide (fun k hk => encI_cell hr1 k hk)
  have Hc2 := hide (fun k hk => encI_cell hr2 k hk)
  clear hr1 hr2
  obtain ⟨n, hnl⟩ : ∃ n, n = L.length := ⟨_, rfl⟩
  rw [← hnl]
  rw [← hnl] at hn
  have Hn := hide hnl
  clear hnl
  go_enter Try.func15, Try.ntmps15
  go_wp2
  go_loopw [5] (fun i wr => ∃ k : Nat, k ≤ n ∧ i = .int .i64 k ∧ Below w.heap.size w wr) (fun i _ => n - (intOf i).toNat)
  case atStart => exact ⟨0, Nat.zero_le _, rfl, Below.refl _ _⟩
  case round =>
    obtain ⟨k, hk, rfl, hbel⟩ := hrel
    by_cases hlt : k < n
    · obtain ⟨b, o, rfl, hb, h1⟩ := Hc1.out k (by rw [← Hn.out]; exact hlt)
      obtain ⟨b2, o2, rfl, hb2, h2⟩ := Hc2.out k (by rw [← Hn.out]; exact hlt)
      replace h1 := bkeepL hbel hb h1
      replace h2 := bkeepL hbel hb2 h2
      have k1 : (0 : Int) ≤ (k : Int) := by omega
      have k2 : (k : Int) < (n : Int) := by omega
      go_wp2
      go_quiet (fail)
      go_wp2
      go_roundw
      case rel => exact ⟨k + 1, by omega, by go_num, ⟨hbel.os, hbel.tape, hbel.output, hbel.size, hbel.block⟩⟩
      case measure => simp [intOf]; omega
    · have hd_ : decide ((k : Int) < n) = false := by simp; omega
      go_wp2
      go_ret
      exact ⟨rfl, hbel⟩
end Go.Proofs.Ythnjebpbokmemaa
