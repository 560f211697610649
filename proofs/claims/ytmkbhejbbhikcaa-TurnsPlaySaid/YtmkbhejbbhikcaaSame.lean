/- Same of two lists; told of a row. Conditions: those of each theorem. -/
import Derived.Test.YtmkbhejbbhikcaaInts
import Derived.Test.YtmkbhejbbhikcaaFifo5
namespace Go.Proofs.Ytmkbhejbbhikcaa
open Go.RowKit
set_option linter.unusedVariables false

theorem take_eq_succ {L1 L2 : List Int} {k : Nat} (h : L1.take k = L2.take k) (h1 : k < L1.length) (h2 : k < L2.length) (he : nth L1 k = nth L2 k) : L1.take (k + 1) = L2.take (k + 1) := by
  rw [List.take_succ_eq_append_getElem h1, List.take_succ_eq_append_getElem h2, h, ← nth_of_lt h1, ← nth_of_lt h2, he]

section
variable (M1 M2 : Nat → Prop) (A1 A2 : Option Addr) (c1 c2 : Nat) (L1 L2 : List Int) (w : World) (hr1 : Rd w M1 A1 (ints L1)) (hr2 : Rd w M2 A2 (ints L2)) (hn : L1.length ≤ 100000) (hn2 : L2.length ≤ 100000)
include hr1 hr2 hn hn2
omit hn2 in
set_option maxHeartbeats 800000 in
theorem Same_c : Calls Try.prog 53 #[.slice A1 L1.length c1, .slice A2 L2.length c2] w fun e w' => e = .returned (.bool (decide (L1 = L2))) ∧ Below w.heap.size w w' := by
  have Hc1 := hide (rd_ints hr1)
  have Hc2 := hide (rd_ints hr2)
  clear hr1 hr2
  by_cases hl : L1.length = L2.length
  · obtain ⟨n, hnl⟩ : ∃ n, n = L1.length := ⟨_, rfl⟩
    have hnl2 : n = L2.length := hnl.trans hl
    rw [← hnl, ← hnl2]
    rw [← hnl] at hn
    have Hn := hide hnl
    have Hn2 := hide hnl2
    clear hnl hnl2 hl
    go_enter Try.func53, Try.ntmps53
    go_wp2
    go_loopw [5] (fun i wr => ∃ k : Nat, k ≤ n ∧ i = .int .i64 k ∧ Hid (L1.take k = L2.take k) ∧ Below w.heap.size w wr) (fun i _ => n - (intOf i).toNat)
    case atStart => exact ⟨0, Nat.zero_le _, rfl, hide rfl, Below.refl _ _⟩
    case round =>
      obtain ⟨k, hk, rfl, hh, hbel⟩ := hrel
      by_cases hlt : k < n
      · obtain ⟨b, o, rfl, hb, h1⟩ := Hc1.out k (by rw [← Hn.out]; exact hlt)
        obtain ⟨b2, o2, rfl, hb2, h2⟩ := Hc2.out k (by rw [← Hn2.out]; exact hlt)
        replace h1 := (hbel.cell (p := ⟨b, o + k, none⟩) hb).trans h1
        replace h2 := (hbel.cell (p := ⟨b2, o2 + k, none⟩) hb2).trans h2
        have k1 : (0 : Int) ≤ (k : Int) := by omega
        have k2 : (k : Int) < (n : Int) := by omega
        by_cases he : nth L1 k = nth L2 k
        · have hb3 : (nth L1 k != nth L2 k) = false := by simp [he]
          have HE := hide he
          clear he
          go_wp2
          go_quiet (fail)
          go_wp2
          go_roundw
          case rel => exact ⟨k + 1, by omega, by go_num, hide (take_eq_succ hh.out (by rw [← Hn.out]; exact hlt) (by rw [← Hn2.out]; exact hlt) HE.out), ⟨hbel.os, hbel.tape, hbel.output, hbel.size, hbel.block⟩⟩
          case measure => simp [intOf]; omega
        · have hb3 : (nth L1 k != nth L2 k) = true := by simp [he]
          have HE := hide he
          clear he
          go_wp2
          go_quiet (fail)
          go_wp2
          go_ret
          refine ⟨ret_bool ?_, ⟨hbel.os, hbel.tape, hbel.output, hbel.size, hbel.block⟩⟩
          symm
          rw [decide_eq_false_iff_not]
          intro e
          exact HE.out (by rw [e])
      · have hd_ : decide ((k : Int) < n) = false := by simp; omega
        go_wp2
        go_ret
        refine ⟨ret_bool ?_, hbel⟩
        symm
        rw [decide_eq_true_iff]
        have := hh.out
        rwa [List.take_of_length_le (by rw [← Hn.out]; omega), List.take_of_length_le (by rw [← Hn2.out]; omega)] at this
  · have hlb : ((L1.length : Int) != L2.length) = true := by simp; omega
    have hne := hide (show decide (L1 = L2) = false by rw [decide_eq_false_iff_not]; intro e; exact hl (by rw [e]))
    clear hl
    go_enter Try.func53, Try.ntmps53
    go_wp2
    go_ret
    exact ⟨ret_bool hne.out.symm, Below.refl _ _⟩
end

section
variable {b nb pb ib N : Nat}
set_option maxHeartbeats 1600000 in
/-- a row tells what it should of its own list -/
theorem told_c (ask : Int) (A : Option Addr) (c : Nat) (L : List Int) (w : World) (h : FifoAt w b nb pb ib N L) (hr : Rd w (FS b nb pb ib) A (ints L)) :
    Calls Try.prog 57 #[.pointer (some ⟨b, 0, none⟩), .slice A L.length c, .int .i64 ask] w fun e w' => e = .returned (.bool true) ∧ Only NoBlk w w' := by
  have hfew := h.few
  have hn : L.length ≤ 100000 := by omega
  have hlt := h.lt
  have H := hide h
  have Hr := hide hr
  have Hlt := hide hlt
  have Hf := hide (show decide (0 ≤ findI L ask) = decide (ask ∈ L) by
    by_cases hi : ask ∈ L
    · rw [decide_eq_true hi, decide_eq_true (findI_hi hi)]
    · rw [decide_eq_false hi, findI_lo hi]; rfl)
  clear h hr hfew hlt
  cases L with
  | nil =>
    go_enter Try.func57, Try.ntmps57
    go_wp2_with fail
    refine (Front_c H.out).mono ?_
    rintro e w1 ⟨he, rfl⟩
    have he' : e = .returned (.tuple #[.int .i64 0, .bool false]) := he
    clear he
    subst he'
    go_wp2_with fail
    refine (List_c (FS b nb pb ib) Hlt.out H.out).mono ?_
    rintro e w1 ⟨A1, c1, rfl, hr1, hb1, _⟩
    go_wp2_with fail
    refine (Same_c (FS b nb pb ib) (FS b nb pb ib) A1 A c1 c [] [] w1 hr1 (Hr.out.below hb1) hn).mono ?_
    rintro e w2 ⟨he, hb2⟩
    have he' : e = .returned (.bool true) := he
    clear he
    subst he'
    have H2 := hide ((H.out.below hb1).below hb2)
    have R2 := hide ((Hr.out.below hb1).below hb2)
    go_wp2_with fail
    refine (Len_f H2.out).mono ?_
    rintro e w3 ⟨rfl, rfl⟩
    go_wp2_with fail
    refine (Place_c ask H2.out).mono ?_
    rintro e w3 ⟨rfl, rfl⟩
    go_wp2_with fail
    refine (Find_c (FS b nb pb ib) ask A c [] _ R2.out hn).mono ?_
    rintro e w3 ⟨rfl, rfl⟩
    go_wp2_with fail
    refine (Has_f ask H2.out).mono ?_
    rintro e w3 ⟨he, rfl⟩
    rw [← Hf.out] at he
    subst he
    go_wp2_with fail
    refine (Find_c (FS b nb pb ib) ask A c [] _ R2.out hn).mono ?_
    rintro e w3 ⟨rfl, rfl⟩
    go_wp2_with fail
    go_ret
    exact ⟨rfl, (Only.of_below hb1 NoBlk).trans (Only.of_below hb2 NoBlk)⟩
  | cons x r =>
    obtain ⟨L, hL⟩ : ∃ L, L = x :: r := ⟨_, rfl⟩
    rw [← hL] at hn H Hr Hf ⊢
    have ho : fout L = .returned (.tuple #[.int .i64 x, .bool true]) := by rw [hL]; rfl
    have hx : nth L 0 = x := by rw [hL]; rfl
    obtain ⟨n, hnl⟩ : ∃ n, n = L.length := ⟨_, rfl⟩
    have hn0 : (0 : Int) < (n : Int) := by rw [hnl, hL]; simp
    obtain ⟨b0, o0, hA, _, hcell⟩ := rd_ints Hr.out 0 (by rw [hL]; simp)
    have HA := hide hA
    have hc0 : w.cell? ⟨b0, o0, none⟩ = some (.int .i64 x) := by rw [← hx]; exact hcell
    subst hA
    have Ho := hide ho
    have Hn := hide hnl
    rw [← hnl] at hn ⊢
    clear ho hx hnl hL hcell
    go_enter Try.func57, Try.ntmps57
    go_wp2_with fail
    refine (Front_c H.out).mono ?_
    rintro e w1 ⟨he, rfl⟩
    rw [Ho.out] at he
    subst he
    go_wp2_with fail
    refine (List_c (FS b nb pb ib) Hlt.out H.out).mono ?_
    rintro e w1 ⟨A1, c1, rfl, hr1, hb1, _⟩
    clear hc0
    go_wp2_with fail
    rw [Hn.out]
    refine (Same_c (FS b nb pb ib) (FS b nb pb ib) A1 _ c1 c L L w1 hr1 (Hr.out.below hb1) (by rw [← Hn.out]; exact hn)).mono ?_
    rintro e w2 ⟨he, hb2⟩
    have he' : e = .returned (.bool true) := by rw [he, decide_eq_true rfl]
    clear he
    subst he'
    have H2 := hide ((H.out.below hb1).below hb2)
    have R2 := hide ((Hr.out.below hb1).below hb2)
    go_wp2_with fail
    refine (Len_f H2.out).mono ?_
    rintro e w3 ⟨rfl, rfl⟩
    go_wp2_with fail
    refine (Place_c ask H2.out).mono ?_
    rintro e w3 ⟨rfl, rfl⟩
    go_wp2_with fail
    refine (Find_c (FS b nb pb ib) ask _ c L _ R2.out (by rw [← Hn.out]; exact hn)).mono ?_
    rintro e w3 ⟨rfl, rfl⟩
    go_wp2_with fail
    refine (Has_f ask H2.out).mono ?_
    rintro e w3 ⟨he, rfl⟩
    rw [← Hf.out] at he
    subst he
    go_wp2_with fail
    refine (Find_c (FS b nb pb ib) ask _ c L _ R2.out (by rw [← Hn.out]; exact hn)).mono ?_
    rintro e w3 ⟨rfl, rfl⟩
    go_wp2_with fail
    go_ret
    exact ⟨rfl, (Only.of_below hb1 NoBlk).trans (Only.of_below hb2 NoBlk)⟩
end
end Go.Proofs.Ytmkbhejbbhikcaa
