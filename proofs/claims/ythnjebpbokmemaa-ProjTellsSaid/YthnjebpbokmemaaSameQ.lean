/- Same of two lists of events that read the same: it only draws. Conditions: those of each theorem. -/
import Derived.Test.YthnjebpbokmemaaTells31
namespace Go.Proofs.Ythnjebpbokmemaa
open Go.RowKit
set_option linter.unusedVariables false

set_option maxRecDepth 100000 in
set_option maxHeartbeats 1600000 in
theorem sameEv_q (M1 M2 : Nat → Prop) (A1 A2 : Option Addr) (c1 c2 : Nat) (L : List Ev) (w : World) (hr1 : Rd w M1 A1 (flat encEv L)) (hr2 : Rd w M2 A2 (flat encEv L)) (hn : L.length ≤ 100000) :
    Calls Try.prog 20 #[.slice A1 L.length c1, .slice A2 L.length c2] w fun e w' => e = .returned (.bool true) ∧ ∃ q, w' = w.drewN q := by
  have Hc1 := hide (fun k hk => ev_cells hr1 k hk)
  have Hc2 := hide (fun k hk => ev_cells hr2 k hk)
  clear hr1 hr2
  obtain ⟨n, hnl⟩ : ∃ n, n = L.length := ⟨_, rfl⟩
  rw [← hnl]
  rw [← hnl] at hn
  have Hn := hide hnl
  clear hnl
  go_enter Try.func20, Try.ntmps20
  go_wp2
  go_loopw [5] (fun i wr => ∃ k q : Nat, k ≤ n ∧ i = .int .i64 k ∧ wr = w.drewN q) (fun i _ => n - (intOf i).toNat)
  case atStart => exact ⟨0, 0, Nat.zero_le _, rfl, rfl⟩
  case round =>
    obtain ⟨k, q, hk, rfl, rfl⟩ := hrel
    by_cases hlt : k < n
    · obtain ⟨b, o, rfl, _, hb, g0, g1, g2, g3, g4, g5, g6, g7, g8, g9, g10, g11⟩ := Hc1.out k (by rw [← Hn.out]; exact hlt)
      obtain ⟨b2, o2, rfl, _, hb2, h0, h1, h2, h3, h4, h5, h6, h7, h8, h9, h10, h11⟩ := Hc2.out k (by rw [← Hn.out]; exact hlt)
      obtain ⟨x, hx⟩ : ∃ x, x = evAt L k := ⟨_, rfl⟩
      rw [← hx] at g0 h0 g1 h1 g2 h2 g3 h3 g4 h4 g5 h5 g6 h6 g7 h7 g8 h8 g9 h9 g10 h10 g11 h11
      clear hx
      have k1 : (0 : Int) ≤ (k : Int) := by omega
      have k2 : (k : Int) < (n : Int) := by omega
      go_wp2
      go_quiet (fail)
      go_wp2
      go_roundw
      case rel => exact ⟨k + 1, _, by omega, by go_num, rfl⟩
      case measure => simp [intOf]; omega
    · have hd_ : decide ((k : Int) < n) = false := by simp; omega
      go_wp2
      go_ret
      exact ⟨rfl, q, rfl⟩
end Go.Proofs.Ythnjebpbokmemaa
