/- The lines of a text that begin no script, by the law. Conditions: those of each theorem. -/
import Derived.Test.YtaioaojfdngfdaaGreatDoorLApP
import Derived.BigRegion
namespace Go.Proofs.YtaioaojfdngfdaaGreatDoor
open Go.RowKit
set_option linter.unusedVariables false
set_option linter.unusedSimpArgs false
theorem encL_len (l : List (List UInt8)) : (encL l).length = szP l := by
  induction l with
  | nil => rfl
  | cons s r ih =>
    have e : encL (s :: r) = (s ++ [10]) ++ encL r := by unfold encL; simp
    have e2 : szP (s :: r) = (s.length + 1) + szP r := by unfold szP; simp
    rw [e, e2, List.length_append, ih]
    simp
theorem szP_filter (p : List UInt8 → Bool) : ∀ l : List (List UInt8), szP (l.filter p) ≤ szP l
  | [] => Nat.le_refl _
  | s :: r => by
    have ih := szP_filter p r
    have e2 : szP (s :: r) = (s.length + 1) + szP r := by unfold szP; simp
    rw [List.filter_cons]
    split
    · have e3 : szP (s :: r.filter p) = (s.length + 1) + szP (r.filter p) := by unfold szP; simp
      omega
    · omega
theorem szP_cons (s : List UInt8) (r : List (List UInt8)) : szP (s :: r) = (s.length + 1) + szP r := by unfold szP; simp
theorem szP_take (l : List (List UInt8)) (k : Nat) : szP (l.take k) ≤ szP l := by
  have := szP_app (l.take k) (l.drop k)
  rw [List.take_append_drop] at this
  omega
theorem bs_toL (l : List UInt8) : (bs l).toList = l := by rw [ByteArray.toList_eq]
theorem cut7 (x : List UInt8) : ((cutS (bs x) 7).toList == [115, 99, 114, 105, 112, 116, 32]) = decide (x.take 7 = [115, 99, 114, 105, 112, 116, 32]) := by
  have e : (cutS (bs x) 7).toList = x.take 7 := by
    unfold cutS
    split
    · rw [sub_bs', bs_toL]
      rfl
    · rename_i h
      rw [bs_size] at h
      rw [bs_toL, List.take_of_length_le (by omega)]
  rw [e, Bool.eq_iff_iff, beq_iff_eq, decide_eq_true_eq]
theorem kS6 (x : List UInt8) : (x == [115, 99, 114, 105, 112, 116]) = decide (x = kScript) := by rw [Bool.eq_iff_iff, beq_iff_eq, decide_eq_true_eq]; exact Iff.rfl
def notH (l : List UInt8) : Bool := !headB l
theorem few_snoc (l : List (List UInt8)) (k : Nat) (hk : k < l.length) : (l.take (k + 1)).filter notH = if headB (l.getD k []) = true then (l.take k).filter notH else (l.take k).filter notH ++ [l.getD k []] := by
  have e : l.getD k [] = l[k] := by simp [List.getD, hk]
  rw [List.take_succ_eq_append_getElem hk, List.filter_append, e]
  unfold notH
  cases h : headB l[k] <;> simp [h]
theorem encL_snoc (l : List (List UInt8)) (s : List UInt8) : encL (l ++ [s]) = encL l ++ s ++ [10] := by unfold encL; simp
set_option maxRecDepth 100000 in
set_option maxHeartbeats 12800000 in
theorem lessS_c (s : ByteArray) (w : World) (hs : s.size ≤ 9223372036854775807) : Calls Tryz.prog 20 #[.string s] w fun e w' => (∃ l : List (List UInt8), FewOk l ∧ (encL l).length ≤ 200 ∧ e = .returned (.string (bs (encL l)))) ∧ Only NoBlk w w' := by
  have HCt := hide (cutS_c s 150 w (by omega))
  have hcs := cutS_size s 150
  obtain ⟨t, ht⟩ : ∃ t, t = cutS s 150 := ⟨_, rfl⟩
  rw [← ht] at HCt hcs
  have ht2 : t.size ≤ 150 := by omega
  have HLn := hide (refLines_q t w (by omega))
  have HFw := hide (show FewOk ((linesM t.data.toList).filter notH) from few_ok t.data.toList)
  have HSz := hide (show szP (linesM t.data.toList) ≤ 151 by
    have := lines_szP t.data.toList []
    have e : t.data.toList.length = t.size := by rw [Array.length_toList]; rfl
    rw [e] at this
    show szP (linesGo t.data.toList []) ≤ 151
    rw [this]
    show 0 + t.size + 1 ≤ 151
    omega)
  clear hs hcs ht ht2
  go_enter Tryz.func20, Tryz.ntmps20
  go_wp2_with fail
  refine HCt.out.mono ?_
  rintro e wz ⟨rfl, hwz⟩
  obtain rfl := hwz.symm
  clear HCt
  go_wp2_with fail
  refine HLn.out.mono ?_
  rintro e w1 ⟨⟨A1, c1, rfl, ho1⟩, hb1⟩
  obtain ⟨L, hL⟩ : ∃ L, L = linesM t.data.toList := ⟨_, rfl⟩
  rw [← hL] at HFw HSz ho1 ⊢
  have HB := hide (Only.of_below hb1 NoBlk)
  have HLc := hide (fun (j : Nat) (hj : j < L.length) => line_cell ho1 j hj)
  have hlen : L.length ≤ 151 := Nat.le_trans (szP_len L) HSz.out
  obtain ⟨n, hn⟩ : ∃ n, n = L.length := ⟨_, rfl⟩
  rw [← hn] at hlen ⊢
  have Hn := hide hn
  clear hL ho1 hb1 HLn hn
  go_wp2_with fail
  go_loopw [4, 5] (fun v i wr => ∃ (k : Nat) (T : List UInt8), k ≤ n ∧ v = .string (bs T) ∧ i = .int .i64 k ∧ Hid (T = encL ((L.take k).filter notH)) ∧ Hid (wr = w1)) (fun _ i _ => n - (intOf i).toNat)
  case atStart => exact ⟨0, [], Nat.zero_le _, rfl, rfl, hide (by rfl), hide rfl⟩
  case round =>
    obtain ⟨k, T, hk, rfl, rfl, HT, HW⟩ := hrel
    rw [HW.out]
    have wk : IntKind.i64.wrap ((k : Int) + 1) = (k : Int) + 1 := IntWalk.i64_in _ (by omega)
    have hTl : T.length ≤ 151 := by
      rw [HT.out, encL_len]
      exact Nat.le_trans (szP_filter _ _) (Nat.le_trans (szP_take _ _) HSz.out)
    by_cases hlt : k < n
    case pos =>
      have hkL : k < L.length := by rw [← Hn.out]; exact hlt
      obtain ⟨b, o, rfl, hb, hc⟩ := HLc.out k hkL
      have g := hc k hkL
      have HSn := hide (few_snoc L k hkL)
      have hxl : (L.getD k []).length ≤ 151 := by
        have e : L.getD k [] = L[k] := by simp [List.getD, hkL]
        have h1 := szP_app (L.take k) (L.drop k)
        rw [List.take_append_drop, List.drop_eq_getElem_cons hkL] at h1
        have h2 := szP_cons L[k] (L.drop (k + 1))
        have := HSz.out
        rw [e]
        omega
      obtain ⟨x, hx⟩ : ∃ x, x = L.getD k [] := ⟨_, rfl⟩
      rw [← hx] at g HSn hxl
      have d1 : decide ((k : Int) < (n : Int)) = true := by simp; exact hlt
      have d2 : decide (k < n) = true := by simp; exact hlt
      have j1 : (0 : Int) ≤ (k : Int) := by omega
      have j2 : (k : Int) < (n : Int) := by omega
      have q1 := kS6 x
      have q2 := cut7 x
      have HCx := hide (fun (X : World) => cutS_c (bs x) 7 X (by omega))
      obtain ⟨y, hy⟩ : ∃ y, y = cutS (bs x) 7 := ⟨_, rfl⟩
      rw [← hy] at q2 HCx
      have HH := hide (show headB x = (decide (x = kScript) || decide (x.take 7 = [115, 99, 114, 105, 112, 116, 32])) from rfl)
      obtain ⟨B1, hB1⟩ : ∃ B, B = decide (x = kScript) := ⟨_, rfl⟩
      obtain ⟨B2, hB2⟩ : ∃ B, B = decide (x.take 7 = [115, 99, 114, 105, 112, 116, 32]) := ⟨_, rfl⟩
      rw [← hB1] at q1 HH
      rw [← hB2] at q2 HH
      clear hB1 hB2 hc hx hy
      cases B1 with
      | true =>
        have HR := hide (show T = encL ((L.take (k + 1)).filter notH) by rw [HSn.out, HH.out, Bool.true_or, if_pos rfl, HT.out])
        clear HSn HH HCx q2
        go_wp2_with fail
        go_roundw
        case rel => exact ⟨k + 1, T, by omega, rfl, by go_num, HR, hide trivial⟩
        case measure => simp [intOf] <;> omega
      | false =>
        cases B2 with
        | true =>
          have HR := hide (show T = encL ((L.take (k + 1)).filter notH) by rw [HSn.out, HH.out, Bool.or_true, if_pos rfl, HT.out])
          clear HSn HH
          go_wp2_with fail
          refine (HCx.out _).mono ?_
          rintro e wz ⟨rfl, hwz⟩
          obtain rfl := hwz.symm
          go_wp2_with fail
          go_roundw
          case rel => exact ⟨k + 1, T, by omega, rfl, by go_num, HR, hide trivial⟩
          case measure => simp [intOf] <;> omega
        | false =>
          have HR := hide (show T ++ x ++ [10] = encL ((L.take (k + 1)).filter notH) by rw [HSn.out, HH.out, if_neg (by simp), encL_snoc, HT.out])
          have z0 : (bs T).size + (bs x).size ≤ 9223372036854775807 := by simp only [bs_size]; omega
          have z1 : (bs T ++ bs x).size + (⟨#[10]⟩ : ByteArray).size ≤ 9223372036854775807 := by simp only [ByteArray.size_append, bs_size, (show (⟨#[10]⟩ : ByteArray).size = 1 from rfl)]; omega
          have HS := hide (show bs T ++ bs x ++ (⟨#[10]⟩ : ByteArray) = bs (T ++ x ++ [10]) by show bs T ++ bs x ++ bs [10] = _; simp only [bs_append])
          clear HSn HH
          go_wp2_with fail
          refine (HCx.out _).mono ?_
          rintro e wz ⟨rfl, hwz⟩
          obtain rfl := hwz.symm
          go_wp2_with fail
          go_roundw
          case rel => exact ⟨k + 1, T ++ x ++ [10], by omega, by rw [HS.out], by go_num, HR, hide trivial⟩
          case measure => simp [intOf] <;> omega
    case neg =>
      have e1 : decide ((k : Int) < (n : Int)) = false := by simp; omega
      have e2 : decide (k < n) = false := by simp; omega
      have HR := hide (show T = encL (L.filter notH) by rw [HT.out, show k = L.length by have := Hn.out; omega, List.take_length])
      have HB2 := hide HB.out
      clear HT HW
      go_wp2_with fail
      go_ret
      exact ⟨⟨_, HFw.out, by rw [← HR.out]; omega, by rw [HR.out]; rfl⟩, HB2.out⟩
end Go.Proofs.YtaioaojfdngfdaaGreatDoor
