/- The walk through events that notes one's matches: what it is, now, read. Conditions: those of each theorem. -/
import Derived.Test.YtgfogoplmokilaaNext
namespace Go.Proofs.Ytgfogoplmokilaa
open Go.RowKit
set_option linter.unusedVariables false
set_option linter.unusedSimpArgs false

/-- how an answer was found -/
structure LagM where
  id : Int
  step : Int
  gone : Int
  read : Int
  from_ : Int
  match_ : Int
def encLag (x : LagM) : List Value := [.int .i64 x.id, .int .i64 x.step, .int .i64 x.gone, .int .i64 x.read, .int .i64 x.from_, .int .i64 x.match_]
theorem encLag_len (x : LagM) : (encLag x).length = 6 := rfl
theorem encLag_one (x : LagM) : ∀ u ∈ encLag x, u.oneCell' = true := by intro u hu; simp [encLag] at hu; rcases hu with rfl | rfl | rfl | rfl | rfl | rfl <;> rfl
def encPc (x : Int × Int) : List Value := [.int .i64 x.1, .int .i64 x.2]
theorem encPc_len (x : Int × Int) : (encPc x).length = 2 := rfl
theorem encPc_one (x : Int × Int) : ∀ u ∈ encPc x, u.oneCell' = true := by intro u hu; simp [encPc] at hu; rcases hu with rfl | rfl <;> rfl
/-- one's walk -/
structure PwM where
  round : Int
  begun : Bool
  from_ : Int
  steps : Int
  gone : Int
  came : List (Int × Int)
  out : List LagM
def nowM (f : PwM) : Int := max f.round 0
def pcAt (l : List (Int × Int)) (k : Nat) : Int × Int := l.getD k (0, 0)
theorem pcAt_some {l : List (Int × Int)} {k : Nat} (hk : k < l.length) : l[k]? = some (pcAt l k) := by simp [pcAt, List.getD, hk]
theorem pc_cells {w : World} {M : Nat → Prop} {A : Option Addr} {l : List (Int × Int)} (hr : Rd w M A (flat encPc l)) (k : Nat) (hk : k < l.length) : ∃ b o, A = some ⟨b, o, none⟩ ∧ b < w.heap.size ∧ ¬ M b ∧
    w.cell? ⟨b, o + k * 2, none⟩ = some (.int .i64 (pcAt l k).1) ∧ w.cell? ⟨b, o + k * 2 + 1, none⟩ = some (.int .i64 (pcAt l k).2) := by
  obtain ⟨b, o, hA, hm, hb, hc⟩ := flat_cells encPc_len hr k _ (pcAt_some hk) (by omega)
  exact ⟨b, o, hA, hb, hm, hc 0 (by omega), hc 1 (by omega)⟩
/-- the place of the first piece by which so many bytes had come -/
def idxC (n : Int) (l : List (Int × Int)) : Int := if l.any (fun x => decide (n ≤ x.1)) then (l.findIdx (fun x => decide (n ≤ x.1)) : Int) else -1
def readM (l : List (Int × Int)) (n : Int) : Int := if n = 0 then 0 else if idxC n l < 0 then -1 else (pcAt l (idxC n l).toNat).2
theorem idxC_at (n : Int) (l : List (Int × Int)) (k : Nat) (hk : k < l.length) (h : ∀ y ∈ l.take k, decide (n ≤ y.1) = false) (hx : decide (n ≤ (pcAt l k).1) = true) : idxC n l = k := by
  have e : pcAt l k = l[k] := by simp [pcAt, List.getD, hk]
  rw [e] at hx
  unfold idxC
  have ha : l.any (fun x => decide (n ≤ x.1)) = true := List.any_eq_true.2 ⟨l[k], List.getElem_mem hk, hx⟩
  rw [if_pos ha]
  have : l.findIdx (fun x => decide (n ≤ x.1)) = k := by
    rw [List.findIdx_eq hk]
    refine ⟨hx, fun j hj => ?_⟩
    exact h _ (by rw [List.mem_take_iff_getElem]; exact ⟨j, by omega, rfl⟩)
  rw [this]
theorem idxC_none (n : Int) (l : List (Int × Int)) (h : ∀ y ∈ l, decide (n ≤ y.1) = false) : idxC n l = -1 := by
  unfold idxC
  have ha : ¬ l.any (fun x => decide (n ≤ x.1)) = true := by
    rw [List.any_eq_true]
    rintro ⟨x, hx, ho⟩
    rw [h x hx] at ho
    cases ho
  rw [if_neg ha]
theorem idxC_lt (n : Int) (l : List (Int × Int)) : idxC n l < l.length ∧ -1 ≤ idxC n l := by
  unfold idxC
  split
  · rename_i h
    have : l.findIdx (fun x => decide (n ≤ x.1)) < l.length := List.findIdx_lt_length.2 (by simpa using List.any_eq_true.1 h)
    omega
  · omega
set_option maxRecDepth 100000 in
set_option maxHeartbeats 1600000 in
theorem now_c (g : Nat) (r : Int) (w : World) (h : w.cell? ⟨g, 5, none⟩ = some (.int .i64 r)) : Calls Try.prog 96 #[.pointer (some ⟨g, 0, none⟩)] w fun e w' => e = .returned (.int .i64 (max r 0)) ∧ w' = w := by
  go_enter Try.func96, Try.ntmps96
  go_wp2_with fail
  go_ret
  exact ⟨rfl, rfl⟩
set_option maxRecDepth 100000 in
set_option maxHeartbeats 1600000 in
theorem pcp_c (x y n : Int) (b : Nat) (w : World) (hb : w.cell? ⟨b, 0, none⟩ = some (.int .i64 n)) (hlt : b < w.heap.size) :
    Calls Try.prog 122 #[.agg #[.int .i64 x, .int .i64 y], .pointer (some ⟨b, 0, none⟩)] w fun e w' => e = .returned (.bool (decide (n ≤ x))) ∧ Below w.heap.size w w' := by
  have hne : ¬ b = w.heap.size := by omega
  have hne2 : ¬ w.heap.size = b := by omega
  go_enter Try.func122, Try.ntmps122
  go_wp2_with fail
  go_ret
  exact ⟨rfl, below_alloc _ _⟩
set_option maxRecDepth 100000 in
set_option maxHeartbeats 1600000 in
theorem IndexPc_c (M : Nat → Prop) (A : Option Addr) (c : Nat) (l : List (Int × Int)) (m : Int) (b : Nat) (w : World) (hr : Rd w M A (flat encPc l)) (hn0 : l.length ≤ maxLen) (hb : w.cell? ⟨b, 0, none⟩ = some (.int .i64 m)) (hlt : b < w.heap.size) :
    Calls Try.prog 121 #[.slice A l.length c, .func (.func 122) #[] #[.pointer (some ⟨b, 0, none⟩)]] w fun e w' => e = .returned (.int .i64 (idxC m l)) ∧ Below w.heap.size w w' := by
  have hn : l.length ≤ 9223372036854775807 := hn0
  have Hc := hide (fun k hk => pc_cells hr k hk)
  obtain ⟨n, hnl⟩ : ∃ n, n = l.length := ⟨_, rfl⟩
  rw [← hnl] at hn ⊢
  have Hn := hide hnl
  have Hb := hide hb
  clear hr hn0 hnl hb
  go_enter Try.func121, Try.ntmps121
  go_wp2_with fail
  go_loopw [8] (fun i wr => ∃ k : Nat, k ≤ n ∧ i = .int .i64 k ∧ Hid (∀ y ∈ l.take k, decide (m ≤ y.1) = false) ∧ Below w.heap.size w wr) (fun i _ => n - (intOf i).toNat)
  case atStart => exact ⟨0, Nat.zero_le _, rfl, hide (by simp), Below.refl _ _⟩
  case round =>
    obtain ⟨k, hk, rfl, hnone, hbel⟩ := hrel
    by_cases hlt2 : k < n
    · obtain ⟨b2, o, rfl, hb2, _, g0, g1⟩ := Hc.out k (by rw [← Hn.out]; exact hlt2)
      replace g0 := bkeepL hbel hb2 g0
      replace g1 := bkeepL hbel hb2 g1
      have hpred := pcp_c (pcAt l k).1 (pcAt l k).2 m b wr (bkeepL hbel hlt Hb.out) (Nat.lt_of_lt_of_le hlt hbel.size)
      cases ho : decide (m ≤ (pcAt l k).1) with
      | true =>
        rw [ho] at hpred
        have HP := hide hpred
        have HI := hide (idxC_at m l k (by rw [← Hn.out]; exact hlt2) hnone.out ho)
        clear hpred ho
        go_wp2_with (go_at_call 122; refine HP.out.mono ?_; rintro e w2 ⟨rfl, hb2⟩)
        go_ret
        exact ⟨ret_int HI.out.symm, hbel.trans (hb2.mono hbel.size)⟩
      | false =>
        rw [ho] at hpred
        have HP := hide hpred
        have HI : Hid (∀ y ∈ l.take (k + 1), decide (m ≤ y.1) = false) := by
          intro y hy
          rw [List.take_succ_eq_append_getElem (by rw [← Hn.out]; exact hlt2)] at hy
          rcases List.mem_append.1 hy with hy | hy
          · exact hnone.out y hy
          · simp only [List.mem_singleton] at hy
            subst hy
            rw [← ho]
            have e : pcAt l k = l[k]'(by rw [← Hn.out]; exact hlt2) := by simp [pcAt, List.getD, show k < l.length by rw [← Hn.out]; exact hlt2]
            rw [e]
        clear hpred ho hnone
        go_wp2_with (go_at_call 122; refine HP.out.mono ?_; rintro e w2 ⟨rfl, hb2⟩)
        go_roundw
        case rel => exact ⟨k + 1, by omega, by go_num, HI, hbel.trans (hb2.mono hbel.size)⟩
        case measure => simp [intOf]; omega
    · have hd : decide ((k : Int) < n) = false := by simp; omega
      have hd2 : decide (k < n) = false := by simp; omega
      have HI := hide (idxC_none m l (fun y hy => hnone.out y (by rw [List.take_of_length_le (by rw [← Hn.out]; omega)]; exact hy)))
      go_wp2_with fail
      go_ret
      exact ⟨ret_int HI.out.symm, hbel⟩
set_option maxRecDepth 100000 in
set_option maxHeartbeats 3200000 in
theorem pwread_c (g : Nat) (A : Option Addr) (c : Nat) (l : List (Int × Int)) (n : Int) (w : World) (hg : w.cell? ⟨g, 10, none⟩ = some (.slice A l.length c)) (hgl : g < w.heap.size) (hr : Rd w NoBlk A (flat encPc l)) (hn0 : l.length ≤ maxLen) :
    Calls Try.prog 111 #[.pointer (some ⟨g, 0, none⟩), .int .i64 n] w fun e w' => e = .returned (.int .i64 (readM l n)) ∧ Below w.heap.size w w' := by
  have hn : l.length ≤ 9223372036854775807 := hn0
  have hne : ¬ g = w.heap.size := by omega
  have hne2 : ¬ w.heap.size = g := by omega
  by_cases h0 : n = 0
  · subst h0
    have HQ := hide (show readM l 0 = 0 from rfl)
    go_enter Try.func111, Try.ntmps111
    go_wp2_with fail
    go_ret
    exact ⟨by rw [HQ.out]; rfl, below_alloc _ _⟩
  · have b0 : (n == 0) = false := by simp [h0]
    have HQ := hide (show readM l n = if idxC n l < 0 then -1 else (pcAt l (idxC n l).toNat).2 from if_neg h0)
    have HI := hide (IndexPc_c NoBlk A c l n w.heap.size (w.alloc (.cells #[.int .i64 n] 3)) (hr.alloc _) hn0 (by rw [(Blk.new w 3 #[.int .i64 n]).cell]; rfl) (by simp))
    have HC := hide (fun k hk => pc_cells hr k hk)
    have HLt := hide (idxC_lt n l)
    obtain ⟨i, hi⟩ : ∃ i, i = idxC n l := ⟨_, rfl⟩
    obtain ⟨m, hm⟩ : ∃ m, m = l.length := ⟨_, rfl⟩
    rw [← hi] at HQ HI HLt
    rw [← hm] at HI hg HC HLt hn
    clear hr hn0 hi hm h0
    have hl := HLt.out
    by_cases hi0 : i < 0
    · have d1 : decide (i < 0) = true := by simp [hi0]
      replace HQ := hide (HQ.out.trans (if_pos hi0))
      clear hi0 hl
      go_enter Try.func111, Try.ntmps111
      go_wp2_with fail
      refine HI.out.mono ?_
      rintro e w2 ⟨rfl, hb2⟩
      go_wp2_with fail
      go_ret
      exact ⟨by rw [HQ.out]; rfl, (below_alloc _ _).trans (hb2.mono (by simp))⟩
    · have d1 : decide (i < 0) = false := by simp; omega
      replace HQ := hide (HQ.out.trans (if_neg hi0))
      obtain ⟨q, hq⟩ : ∃ q : Nat, i = q := ⟨i.toNat, by omega⟩
      subst hq
      have hqm : q < m := by omega
      obtain ⟨b, o, rfl, hb, _, r0, r1⟩ := HC.out q hqm
      rw [show ((q : Int).toNat) = q by omega] at HQ
      have j1 : (0 : Int) ≤ (q : Int) := by omega
      have j2 : (q : Int) < (m : Int) := by omega
      have hne3 : ¬ b = w.heap.size := by omega
      clear hi0 hl
      go_enter Try.func111, Try.ntmps111
      go_wp2_with fail
      refine HI.out.mono ?_
      rintro e w2 ⟨rfl, hb2⟩
      have HB := hide ((below_alloc w _).trans (hb2.mono (by simp)))
      replace r1 := bkeepL HB.out hb r1
      replace hg := bkeepL HB.out hgl hg
      clear hb2 r0
      go_wp2_with fail
      go_ret
      exact ⟨by rw [HQ.out]; rfl, HB.out⟩
end Go.Proofs.Ytgfogoplmokilaa
