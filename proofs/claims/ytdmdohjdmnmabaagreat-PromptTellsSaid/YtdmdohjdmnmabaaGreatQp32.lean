/- The document's rounds, readings and matches. Conditions: those of each theorem. -/
import Derived.Test.YtdmdohjdmnmabaaGreatQp20
import Derived.Test.YtdmdohjdmnmabaaGreatQp25
import Derived.Test.YtdmdohjdmnmabaaGreatQp31
namespace Go.Proofs.YtdmdohjdmnmabaaGreat
open Go.RowKit
set_option linter.unusedVariables false
set_option linter.unusedSimpArgs false

def within (n lo hi : Int) : Int := if n < lo then lo else if hi < n then hi else n
theorem within_c (n lo hi : Int) (w : World) : Calls Tryz.prog 81 #[.int .i64 n, .int .i64 lo, .int .i64 hi] w fun e w' => e = .returned (.int .i64 (within n lo hi)) ∧ w' = w := by
  by_cases h1 : n < lo
  · have HQ := hide (show within n lo hi = lo from if_pos h1)
    have d1 : decide (n < lo) = true := by simp [h1]
    clear h1
    go_enter Tryz.func81, Tryz.ntmps81
    go_wp2_with fail
    go_ret
    exact ⟨by rw [HQ.out]; rfl, rfl⟩
  · have d1 : decide (n < lo) = false := by simp; omega
    by_cases h2 : hi < n
    · have HQ := hide (show within n lo hi = hi by unfold within; rw [if_neg h1, if_pos h2])
      have d2 : decide (hi < n) = true := by simp [h2]
      clear h1 h2
      go_enter Tryz.func81, Tryz.ntmps81
      go_wp2_with fail
      go_ret
      exact ⟨by rw [HQ.out]; rfl, rfl⟩
    · have HQ := hide (show within n lo hi = n by unfold within; rw [if_neg h1, if_neg h2])
      have d2 : decide (hi < n) = false := by simp; omega
      clear h1 h2
      go_enter Tryz.func81, Tryz.ntmps81
      go_wp2_with fail
      go_ret
      exact ⟨by rw [HQ.out]; rfl, rfl⟩
theorem within_gone {g n : Int} (h : 0 ≤ g) : within (g + within n 0 1000000000) 0 1000000000 = goneD g n := by
  unfold within goneD
  split <;> split <;> (try split) <;> (try split) <;> omega
theorem within_bd (n : Int) : 0 ≤ within n 0 1000000000 ∧ within n 0 1000000000 ≤ 1000000000 := by unfold within; split <;> (try split) <;> omega
theorem came_sum {id : Int} {l : List Ev} {o : Nat} (hx : ∀ x ∈ l, x.s.size ≤ 100) : ∀ k, k ≤ l.length → 0 ≤ lastSum (cameD id l o k) ∧ lastSum (cameD id l o k) ≤ 100 * (k : Int) := by
  intro k
  induction k with
  | zero => intro _; exact ⟨by simp [cameD, lastSum], by simp [cameD, lastSum]⟩
  | succ k ih =>
    intro hk
    have h := ih (by omega)
    have hs := hx _ (List.mem_of_getElem? (evAt_some (show k < l.length by omega)))
    by_cases hh : hitD id l k = true ∧ o ≤ k
    · rw [came_hit hh.1 hh.2, lastSum_app]
      simp only
      omega
    · have e : cameD id l o (k + 1) = cameD id l o k ++ (if o ≤ k ∧ (evAt l k).id = id ∧ (evAt l k).k = 4 then [(((evAt l k).s.size : Int) + lastSum (cameD id l o k), roundD l k)] else []) := rfl
      rw [e, if_neg, List.append_nil]
      · omega
      · rintro ⟨h1, h2, h3⟩
        exact hh ⟨by unfold hitD; simp [h2, h3], h1⟩
set_option maxRecDepth 100000 in
set_option maxHeartbeats 3200000 in
theorem refround_c (A : Option Addr) (c : Nat) (l : List Ev) (k : Nat) (w : World) (hr : Rd w NoBlk A (flat encEv l)) (hn : l.length ≤ 10000) (hk : k < l.length) :
    Calls Tryz.prog 80 #[.slice A l.length c, .int .i64 k] w fun e w' => e = .returned (.int .i64 (roundD l k)) ∧ Below w.heap.size w w' := by
  have HEv := hide (fun (w' : World) (k : Below w.heap.size w w') (i : Nat) (hi : i < l.length) => ev_cells (hr.below k) i hi)
  have HCt := hide (fun i hi => cnt_of l i hi)
  have HCl := hide (fun q => cnt_le (l.take q))
  have HQ := hide (roundD_cnt l k)
  obtain ⟨n, hnl⟩ : ∃ n, n = l.length := ⟨_, rfl⟩
  rw [← hnl] at HEv HCt hn hk ⊢
  obtain ⟨T, hT⟩ : ∃ T, T = roundD l k := ⟨_, rfl⟩
  rw [← hT] at HQ ⊢
  have HCl2 := hide (show ∀ q, q ≤ n → (clocksL (l.take q)).length ≤ 10000 from fun q hq => by have := HCl.out q; rw [List.length_take] at this; omega)
  clear hr hnl hT HCl
  go_enter Tryz.func80, Tryz.ntmps80
  go_wp2_with fail
  go_loopw [5, 6] (fun m i wr => ∃ q : Nat, q ≤ k + 1 ∧ i = .int .i64 q ∧ m = .int .i64 ((clocksL (l.take q)).length : Int) ∧ Hid (Below w.heap.size w wr)) (fun _ i _ => k + 1 - (intOf i).toNat)
  case atStart => exact ⟨0, by omega, rfl, by simp [clocksL], hide (Below.refl _ _)⟩
  case round =>
    obtain ⟨q, hq, rfl, rfl, HB⟩ := hrel
    have hcq := HCl2.out q (by omega)
    have w1 : IntKind.i64.wrap ((q : Int) + 1) = (q : Int) + 1 := IntWalk.i64_in _ (by omega)
    by_cases hlt : q < k + 1
    · obtain ⟨eb, eo, rfl, _, heb, y0, y1, y2, y3, y4, y5, y6, y7, y8, y9, y10, y11⟩ := HEv.out wr HB.out q (by omega)
      have HC1 := hide (HCt.out q (by omega))
      obtain ⟨ek, hek⟩ : ∃ ek, ek = (evAt l q).k := ⟨_, rfl⟩
      rw [← hek] at y0 HC1
      obtain ⟨m0, hm0⟩ : ∃ m0, m0 = (clocksL (l.take q)).length := ⟨_, rfl⟩
      rw [← hm0] at HC1 hcq ⊢
      have d1 : decide ((q : Int) ≤ (k : Int)) = true := by simp; omega
      have j1 : (0 : Int) ≤ (q : Int) := by omega
      have j2 : (q : Int) < (n : Int) := by omega
      have w2 : IntKind.i64.wrap ((m0 : Int) + 1) = (m0 : Int) + 1 := IntWalk.i64_in _ (by omega)
      clear y1 y2 y3 y4 y5 y6 y7 y8 y9 y10 y11 hek hm0
      by_cases h1 : ek = 1
      · have b1 : (ek == 1) = true := by simp [h1]
        have HC2 := hide (show (clocksL (l.take (q + 1))).length = m0 + 1 by rw [HC1.out, if_pos h1])
        clear h1
        go_wp2_with fail
        go_roundw
        case rel => exact ⟨q + 1, by omega, by go_num, by rw [HC2.out]; simp, HB⟩
        case measure => simp [intOf]; omega
      · have b1 : (ek == 1) = false := by simp [h1]
        have HC2 := hide (show (clocksL (l.take (q + 1))).length = m0 by rw [HC1.out, if_neg h1]; rfl)
        clear h1
        go_wp2_with fail
        go_roundw
        case rel => exact ⟨q + 1, by omega, by go_num, by rw [HC2.out], HB⟩
        case measure => simp [intOf]; omega
    · obtain rfl : q = k + 1 := by omega
      have d1 : decide (((k + 1 : Nat) : Int) ≤ (k : Int)) = false := by simp; omega
      have d1' : decide ((k : Int) + 1 ≤ (k : Int)) = false := by simp; omega
      obtain ⟨m0, hm0⟩ : ∃ m0, m0 = (clocksL (l.take (k + 1))).length := ⟨_, rfl⟩
      rw [← hm0] at HQ hcq ⊢
      clear hm0
      by_cases h0 : m0 = 0
      · subst h0
        have HQ2 := hide (show T = 0 by rw [HQ.out]; rfl)
        go_wp2_with fail
        go_ret
        exact ⟨by rw [HQ2.out]; rfl, HB.out⟩
      · have b0 : ((m0 : Int) == 0) = false := by simp; omega
        have b0' : (m0 == 0) = false := by simp; omega
        have HQ2 := hide (show T = (m0 : Int) - 1 by rw [HQ.out, if_neg (by omega)])
        have w3 : IntKind.i64.wrap ((m0 : Int) - 1) = (m0 : Int) - 1 := IntWalk.i64_in _ (by omega)
        have HN0 := hide h0
        clear h0
        go_wp2_with fail
        all_goals first
          | (exfalso; have := HN0.out; omega)
          | (go_ret
             exact ⟨by rw [HQ2.out]; rfl, HB.out⟩)
set_option maxRecDepth 100000 in
set_option maxHeartbeats 6400000 in
theorem refread_c (A : Option Addr) (c : Nat) (l : List Ev) (id : Int) (o t : Nat) (m : Int) (w : World) (hr : Rd w NoBlk A (flat encEv l)) (hn : l.length ≤ 10000) (hx : ∀ x ∈ l, x.s.size ≤ 100) (hot : o ≤ t) (ht : t ≤ l.length) (hm0 : 0 ≤ m) :
    Calls Tryz.prog 82 #[.slice A l.length c, .int .i64 id, .int .i64 o, .int .i64 t, .int .i64 m] w fun e w' => e = .returned (.int .i64 (readM (cameD id l o t) m)) ∧ Below w.heap.size w w' := by
  have HEv := hide (fun (w' : World) (k : Below w.heap.size w w') (i : Nat) (hi : i < l.length) => ev_cells (hr.below k) i hi)
  have HRo := hide (fun (w' : World) (hb : Below w.heap.size w w') (k : Nat) (hk : k < l.length) => refround_c A c l k w' (hr.below hb) hn hk)
  have HSum := hide (fun k hk => came_sum (id := id) (o := o) hx k hk)
  have HSz := hide (fun (i : Nat) (hi : i < l.length) => hx _ (List.mem_of_getElem? (evAt_some hi)))
  have HPre := hide (fun k hk => came_pre id l o t k hk)
  obtain ⟨n, hnl⟩ : ∃ n, n = l.length := ⟨_, rfl⟩
  rw [← hnl] at HEv HRo HSum HSz hn ht
  rw [← hnl]
  obtain ⟨T, hT⟩ : ∃ T, T = readM (cameD id l o t) m := ⟨_, rfl⟩
  have HQ := hide hT
  rw [← hT]
  clear hr hx hnl hT
  go_enter Tryz.func82, Tryz.ntmps82
  go_wp2_with fail
  go_loopw [11, 12] (fun sm i wr => ∃ q : Nat, o ≤ q ∧ q ≤ t ∧ i = .int .i64 q ∧ sm = .int .i64 (lastSum (cameD id l o q)) ∧ Hid (0 < m → ∀ y ∈ cameD id l o q, decide (m ≤ y.1) = false) ∧ Hid (Below w.heap.size w wr)) (fun _ i _ => t - (intOf i).toNat)
  case atStart => exact ⟨o, Nat.le_refl _, hot, rfl, by rw [came_low id l o o (Nat.le_refl _)]; rfl, hide (fun _ y hy => by rw [came_low id l o o (Nat.le_refl _)] at hy; cases hy), hide (Below.refl _ _)⟩
  case round =>
    obtain ⟨q, hoq, hqt, rfl, rfl, HNo, HB⟩ := hrel
    have w1 : IntKind.i64.wrap ((q : Int) + 1) = (q : Int) + 1 := IntWalk.i64_in _ (by omega)
    by_cases hlt : q < t
    · obtain ⟨eb, eo, rfl, _, heb, y0, y1, y2, y3, y4, y5, y6, y7, y8, y9, y10, y11⟩ := HEv.out wr HB.out q (by omega)
      have hsm := HSum.out q (by omega)
      have hsz := HSz.out q (by omega)
      have HHit := hide (fun (h : hitD id l q = true) => came_hit h hoq)
      have HMiss := hide (fun (h : hitD id l q = false) => came_miss (o := o) h)
      have HHd := hide (show hitD id l q = (decide ((evAt l q).id = id) && decide ((evAt l q).k = 4)) from rfl)
      have HRq := hide (fun (w' : World) (hb : Below w.heap.size w w') => HRo.out w' hb q (by omega))
      obtain ⟨x, hx⟩ : ∃ x, x = evAt l q := ⟨_, rfl⟩
      rw [← hx] at y0 y1 y4 hsz HHit HHd
      clear hx y2 y3 y5 y6 y7 y8 y9 y10 y11
      obtain ⟨ek, ei, en, et, es, ee, ⟨est, esa, esw, esr, esn, ess⟩⟩ := x
      simp only at y0 y1 y4 hsz HHd
      have HHit2 := hide (show hitD id l q = true → cameD id l o (q + 1) = cameD id l o q ++ [((es.size : Int) + lastSum (cameD id l o q), roundD l q)] from fun h => HHit.out h)
      obtain ⟨CQ, hCQ⟩ : ∃ CQ, CQ = cameD id l o q := ⟨_, rfl⟩
      rw [← hCQ] at HNo hsm HHit2 HMiss ⊢
      obtain ⟨S0, hS0⟩ : ∃ S0, S0 = lastSum CQ := ⟨_, rfl⟩
      rw [← hS0] at hsm HHit2 ⊢
      have d1 : decide ((q : Int) < (t : Int)) = true := by simp; exact hlt
      have d1' : decide (q < t) = true := by simp; exact hlt
      have j1 : (0 : Int) ≤ (q : Int) := by omega
      have j2 : (q : Int) < (n : Int) := by omega
      have hes : es.size ≤ 9223372036854775807 := by omega
      have w2 : IntKind.i64.wrap (S0 + (es.size : Int)) = S0 + (es.size : Int) := IntWalk.i64_in _ (by omega)
      have HS0 := hide hS0
      clear hCQ HHit hS0
      by_cases hi : ei = id
      · have b1 : (ei == id) = true := by simp [hi]
        by_cases h4 : ek = 4
        · have b4 : (ek == 4) = true := by simp [h4]
          have HC2 := hide (HHit2.out (by rw [HHd.out]; simp [hi, h4]))
          have HS2 := hide (show lastSum (cameD id l o (q + 1)) = S0 + (es.size : Int) by rw [HC2.out, lastSum_app]; simp only; omega)
          clear hi h4 HMiss HHit2 HHd
          by_cases hp : 0 < m
          · have bp : decide (0 < m) = true := by simp [hp]
            by_cases hge : m ≤ S0 + (es.size : Int)
            · have bg : decide (m ≤ S0 + (es.size : Int)) = true := by simp [hge]
              have HF := hide (show T = roundD l q by
                obtain ⟨r, hr⟩ := HPre.out (q + 1) (by omega)
                rw [HQ.out, hr, HC2.out, List.append_assoc]
                show readM (CQ ++ ((es.size : Int) + S0, roundD l q) :: r) m = _
                rw [readM_hit hp (HNo.out hp) (by simp only; omega)])
              clear hp hge
              go_wp2_with fail
              refine (HRq.out _ HB.out).mono ?_
              rintro e w3 ⟨rfl, hb3⟩
              have HB3 := hide (HB.out.trans (hb3.mono HB.out.size))
              clear hb3
              go_wp2_with fail
              go_ret
              exact ⟨by rw [HF.out]; rfl, HB3.out⟩
            · have bg : decide (m ≤ S0 + (es.size : Int)) = false := by simp; omega
              have HNn := hide (show 0 < m → ∀ y ∈ cameD id l o (q + 1), decide (m ≤ y.1) = false from by
                intro hp y hy
                rw [HC2.out] at hy
                rcases List.mem_append.1 hy with hy | hy
                · exact HNo.out hp y hy
                · rw [List.mem_singleton.1 hy]; simp only; simp; omega)
              clear hp hge
              go_wp2_with fail
              go_roundw
              case rel => exact ⟨q + 1, by omega, by omega, by go_num, by rw [HS2.out], HNn, HB⟩
              case measure => simp [intOf]; omega
          · have bp : decide (0 < m) = false := by simp; omega
            have HNn := hide (show 0 < m → ∀ y ∈ cameD id l o (q + 1), decide (m ≤ y.1) = false from fun h => absurd h hp)
            clear hp
            go_wp2_with fail
            go_roundw
            case rel => exact ⟨q + 1, by omega, by omega, by go_num, by rw [HS2.out], HNn, HB⟩
            case measure => simp [intOf]; omega
        · have b4 : (ek == 4) = false := by simp [h4]
          have HC2 := hide (HMiss.out (by rw [HHd.out]; simp [h4]))
          have HS2 := hide (show lastSum (cameD id l o (q + 1)) = S0 by rw [HC2.out, HS0.out])
          have HNn := hide (show 0 < m → ∀ y ∈ cameD id l o (q + 1), decide (m ≤ y.1) = false from fun hp y hy => HNo.out hp y (by rw [HC2.out] at hy; exact hy))
          clear hi h4 HMiss HHit2 HHd
          go_wp2_with fail
          go_roundw
          case rel => exact ⟨q + 1, by omega, by omega, by go_num, by rw [HS2.out], HNn, HB⟩
          case measure => simp [intOf]; omega
      · have b1 : (ei == id) = false := by simp [hi]
        have HC2 := hide (HMiss.out (by rw [HHd.out]; simp [hi]))
        have HS2 := hide (show lastSum (cameD id l o (q + 1)) = S0 by rw [HC2.out, HS0.out])
        have HNn := hide (show 0 < m → ∀ y ∈ cameD id l o (q + 1), decide (m ≤ y.1) = false from fun hp y hy => HNo.out hp y (by rw [HC2.out] at hy; exact hy))
        clear hi HMiss HHit2 HHd
        go_wp2_with fail
        go_roundw
        case rel => exact ⟨q + 1, by omega, by omega, by go_num, by rw [HS2.out], HNn, HB⟩
        case measure => simp [intOf]; omega
    · obtain rfl : q = t := by omega
      have d1 : decide ((q : Int) < (q : Int)) = false := by simp
      have d2 : decide (q < q) = false := by simp
      by_cases h0 : m = 0
      · have b0 : (m == 0) = true := by simp [h0]
        have HF := hide (show T = 0 by rw [HQ.out]; unfold readM; rw [if_pos h0])
        clear h0
        go_wp2_with fail
        go_ret
        exact ⟨by rw [HF.out]; rfl, HB.out⟩
      · have b0 : (m == 0) = false := by simp [h0]
        have HF := hide (show T = -1 by rw [HQ.out]; exact readM_none (by omega) (HNo.out (by omega)))
        clear h0
        go_wp2_with fail
        go_ret
        exact ⟨by rw [HF.out]; rfl, HB.out⟩
end Go.Proofs.YtdmdohjdmnmabaaGreat
