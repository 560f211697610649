/- Parts of a chain of lemmas: Grace22, Grace23, Grace24, Grace25. Conditions: those of each theorem. -/
import Derived.Test.YthnjebpbokmemaaGraceD
namespace Go.Proofs.Ythnjebpbokmemaa
open Go.RowKit
set_option linter.unusedVariables false

/-- the place of the first event with a property -/
def idxP (p : Ev → Bool) (l : List Ev) : Int := if l.any p = true then (l.findIdx p : Int) else -1
theorem idxP_at (p : Ev → Bool) (l : List Ev) (k : Nat) (hk : k < l.length) (h : ∀ y ∈ l.take k, p y = false) (hx : p (evAt l k) = true) : idxP p l = k := by
  have e : evAt l k = l[k] := by simp [evAt, List.getD, hk]
  rw [e] at hx
  unfold idxP
  have ha : l.any p = true := List.any_eq_true.2 ⟨l[k], List.getElem_mem hk, hx⟩
  rw [if_pos ha]
  have : l.findIdx p = k := by
    rw [List.findIdx_eq hk]
    refine ⟨hx, fun j hj => ?_⟩
    exact h _ (by rw [List.mem_take_iff_getElem]; exact ⟨j, by omega, rfl⟩)
  rw [this]
theorem idxP_none (p : Ev → Bool) (l : List Ev) (h : ∀ y ∈ l, p y = false) : idxP p l = -1 := by
  unfold idxP
  have ha : ¬ l.any p = true := by
    rw [List.any_eq_true]
    rintro ⟨x, hx, ho⟩
    rw [h x hx] at ho
    cases ho
  rw [if_neg ha]
theorem idxP_any (p : Ev → Bool) (l : List Ev) : decide (0 ≤ idxP p l) = l.any p := by
  unfold idxP
  cases h : l.any p <;> simp
theorem idxK_any (kd : Int) (l : List Ev) : decide (0 ≤ idxK kd l) = l.any (isK kd) := idxP_any (isK kd) l
/-- neither a round nor a refusal -/
def otherB (x : Ev) : Bool := (x.k != 1) && (x.k != 3)
set_option maxRecDepth 100000 in
theorem predO_c (x : Ev) (w : World) :
    Calls Try.prog 46 #[.agg #[.int .i64 x.k, .int .i64 x.id, .int .i64 x.n, .int .i64 x.tick, .string x.s, .int .i64 x.err, .int .i64 x.st.tick, .int .i64 x.st.at_, .int .i64 x.st.what, .int .i64 x.st.arm, .int .i64 x.st.n, .int .i64 x.st.status]] w fun e w' => e = .returned (.bool (otherB x)) ∧ Below w.heap.size w w' := by
  unfold otherB
  cases h1 : (x.k != 1) with
  | false =>
    go_enter Try.func46, Try.ntmps46
    go_wp2_with fail
    go_ret
    exact ⟨rfl, below_alloc _ _⟩
  | true =>
    cases h2 : (x.k != 3) with
    | false =>
      go_enter Try.func46, Try.ntmps46
      go_wp2_with fail
      go_ret
      exact ⟨rfl, below_alloc _ _⟩
    | true =>
      go_enter Try.func46, Try.ntmps46
      go_wp2_with fail
      go_ret
      exact ⟨rfl, below_alloc _ _⟩
set_option maxRecDepth 100000 in
set_option maxHeartbeats 1600000 in
theorem IndexQ_c (M : Nat → Prop) (A : Option Addr) (c : Nat) (l : List Ev) (w : World) (hr : Rd w M A (flat encEv l)) (hn0 : l.length ≤ maxLen) :
    Calls Try.prog 50 #[.slice A l.length c, .func (.func 46) #[] #[]] w fun e w' => e = .returned (.int .i64 (idxP otherB l)) ∧ Below w.heap.size w w' := by
  have hn : l.length ≤ 9223372036854775807 := hn0
  have Hc := hide (fun k hk => ev_cells hr k hk)
  obtain ⟨n, hnl⟩ : ∃ n, n = l.length := ⟨_, rfl⟩
  rw [← hnl] at hn ⊢
  have Hn := hide hnl
  clear hr hn0 hnl
  go_enter Try.func50, Try.ntmps50
  go_wp2_with fail
  go_loopw [8] (fun i wr => ∃ k : Nat, k ≤ n ∧ i = .int .i64 k ∧ Hid (∀ y ∈ l.take k, otherB y = false) ∧ Below w.heap.size w wr) (fun i _ => n - (intOf i).toNat)
  case atStart => exact ⟨0, Nat.zero_le _, rfl, hide (by simp), Below.refl _ _⟩
  case round =>
    obtain ⟨k, hk, rfl, hnone, hbel⟩ := hrel
    by_cases hlt2 : k < n
    · obtain ⟨b2, o, rfl, _, hb2, g0, g1, g2, g3, g4, g5, g6, g7, g8, g9, g10, g11⟩ := Hc.out k (by rw [← Hn.out]; exact hlt2)
      replace g0 := bkeepL hbel hb2 g0
      replace g1 := bkeepL hbel hb2 g1
      replace g2 := bkeepL hbel hb2 g2
      replace g3 := bkeepL hbel hb2 g3
      replace g4 := bkeepL hbel hb2 g4
      replace g5 := bkeepL hbel hb2 g5
      replace g6 := bkeepL hbel hb2 g6
      replace g7 := bkeepL hbel hb2 g7
      replace g8 := bkeepL hbel hb2 g8
      replace g9 := bkeepL hbel hb2 g9
      replace g10 := bkeepL hbel hb2 g10
      replace g11 := bkeepL hbel hb2 g11
      have hpred := predO_c (evAt l k) wr
      cases ho : otherB (evAt l k) with
      | true =>
        rw [ho] at hpred
        have HP := hide hpred
        have HI := hide (idxP_at otherB l k (by rw [← Hn.out]; exact hlt2) hnone.out ho)
        clear hpred ho
        go_wp2_with (go_at_call 46; refine HP.out.mono ?_; rintro e w2 ⟨rfl, hb2⟩)
        go_ret
        exact ⟨ret_int HI.out.symm, hbel.trans (hb2.mono hbel.size)⟩
      | false =>
        rw [ho] at hpred
        have HP := hide hpred
        have HI : Hid (∀ y ∈ l.take (k + 1), otherB y = false) := by
          intro y hy
          rw [List.take_succ_eq_append_getElem (by rw [← Hn.out]; exact hlt2)] at hy
          rcases List.mem_append.1 hy with hy | hy
          · exact hnone.out y hy
          · simp at hy
            subst hy
            rw [← ho]
            have e : evAt l k = l[k]'(by rw [← Hn.out]; exact hlt2) := by simp [evAt, List.getD, show k < l.length by rw [← Hn.out]; exact hlt2]
            rw [e]
        clear hpred ho hnone
        go_wp2_with (go_at_call 46; refine HP.out.mono ?_; rintro e w2 ⟨rfl, hb2⟩)
        go_roundw
        case rel => exact ⟨k + 1, by omega, by go_num, HI, hbel.trans (hb2.mono hbel.size)⟩
        case measure => simp [intOf]; omega
    · have hd : decide ((k : Int) < n) = false := by simp; omega
      have hd2 : decide (k < n) = false := by simp; omega
      have HI := hide (idxP_none otherB l (fun y hy => hnone.out y (by rw [List.take_of_length_le (by rw [← Hn.out]; omega)]; exact hy)))
      go_wp2_with fail
      go_ret
      exact ⟨ret_int HI.out.symm, hbel⟩
set_option maxRecDepth 100000 in
set_option maxHeartbeats 1600000 in
theorem ContainsO_c (M : Nat → Prop) (A : Option Addr) (c : Nat) (l : List Ev) (w : World) (hr : Rd w M A (flat encEv l)) (hn0 : l.length ≤ maxLen) :
    Calls Try.prog 47 #[.slice A l.length c, .func (.func 46) #[] #[]] w fun e w' => e = .returned (.bool (l.any otherB)) ∧ Below w.heap.size w w' := by
  have HC := hide (IndexQ_c M A c l w hr hn0)
  have HD := hide (idxP_any otherB l)
  clear hr
  obtain ⟨q, hq⟩ : ∃ q, q = idxP otherB l := ⟨_, rfl⟩
  rw [← hq] at HC HD
  clear hq
  go_enter Try.func47, Try.ntmps47
  go_wp2_with fail
  refine HC.out.mono ?_
  rintro e w1 ⟨rfl, hb1⟩
  go_wp2_with fail
  go_ret
  exact ⟨ret_bool HD.out, hb1⟩
/-- somebody comes behind a drain, or something behind a stop -/
def badAt (l : List Ev) (i : Nat) : Bool := ((l.take i).any (isK 7) && ((evAt l i).k == 2)) || ((l.take i).any (isK 9) && (((evAt l i).k != 1) && ((evAt l i).k != 3)))
def closedB (l : List Ev) : Bool := !(List.range l.length).any (badAt l)
theorem closed_not {l : List Ev} (k : Nat) (hk : k < l.length) (h : badAt l k = true) : closedB l = false := by
  unfold closedB
  rw [show (List.range l.length).any (badAt l) = true from List.any_eq_true.2 ⟨k, List.mem_range.2 hk, h⟩]
  rfl
theorem closed_yes {l : List Ev} (h : ∀ i, i < l.length → badAt l i = false) : closedB l = true := by
  unfold closedB
  rw [show (List.range l.length).any (badAt l) = false from by
    rw [List.any_eq_false]
    intro i hi
    rw [h i (List.mem_range.1 hi)]
    decide]
  rfl
theorem anyK_succ (kd : Int) (l : List Ev) (k : Nat) (h : k < l.length) : (l.take (k + 1)).any (isK kd) = ((l.take k).any (isK kd) || ((evAt l k).k == kd)) := by
  have e : evAt l k = l[k] := by simp [evAt, List.getD, h]
  rw [List.take_succ_eq_append_getElem h, List.any_append, e]
  simp [isK]
  rfl
set_option maxRecDepth 100000 in
set_option maxHeartbeats 3200000 in
theorem refClosed_c (A : Option Addr) (c : Nat) (l : List Ev) (w : World) (hr : Rd w NoBlk A (flat encEv l)) (hn : l.length ≤ 10000) :
    Calls Try.prog 31 #[.slice A l.length c] w fun e w' => e = .returned (.bool (closedB l)) ∧ Below w.heap.size w w' := by
  have HE := hide (fun (k : Nat) (hk : k < l.length) => ev_cells hr k hk)
  obtain ⟨n, hnl⟩ : ∃ n, n = l.length := ⟨_, rfl⟩
  rw [← hnl] at hn ⊢
  have Hn := hide hnl
  clear hr hnl
  go_enter Try.func31, Try.ntmps31
  go_wp2_with fail
  go_loopw [3, 4, 5] (fun d t i wr => ∃ k : Nat, k ≤ n ∧ i = .int .i64 k ∧ d = .bool ((l.take k).any (isK 7)) ∧ t = .bool ((l.take k).any (isK 9)) ∧ Hid (∀ i, i < k → badAt l i = false) ∧ Hid (Below w.heap.size w wr)) (fun _ _ i _ => n - (intOf i).toNat)
  case atStart => exact ⟨0, Nat.zero_le _, rfl, rfl, rfl, hide (fun i hi => absurd hi (by omega)), Below.refl _ _⟩
  case round =>
    obtain ⟨k, hk, rfl, rfl, rfl, hlow, hbel⟩ := hrel
    by_cases hlt : k < n
    · obtain ⟨b, o, rfl, _, hb, g0, _⟩ := HE.out k (by rw [← Hn.out]; exact hlt)
      replace g0 := bkeepL hbel.out hb g0
      have H7 := hide (anyK_succ 7 l k (by rw [← Hn.out]; exact hlt))
      have H9 := hide (anyK_succ 9 l k (by rw [← Hn.out]; exact hlt))
      have HS := hide (show badAt l k = (((l.take k).any (isK 7) && ((evAt l k).k == 2)) || ((l.take k).any (isK 9) && (((evAt l k).k != 1) && ((evAt l k).k != 3)))) from rfl)
      obtain ⟨x, hx⟩ : ∃ x, x = evAt l k := ⟨_, rfl⟩
      rw [← hx] at g0 H7 H9 HS
      obtain ⟨dv, hdv⟩ : ∃ dv, dv = (l.take k).any (isK 7) := ⟨_, rfl⟩
      obtain ⟨sv, hsv⟩ : ∃ sv, sv = (l.take k).any (isK 9) := ⟨_, rfl⟩
      rw [← hdv] at H7 HS ⊢
      rw [← hsv] at H9 HS ⊢
      clear hx hdv hsv
      have j1 : (0 : Int) ≤ (k : Int) := by omega
      have j2 : (k : Int) < (n : Int) := by omega
      have j3 := nn_lt hlt
      cases dv with
      | false =>
        cases sv with
        | false =>
          have HF := hide (low_succ hlow.out (by rw [HS.out]; rfl))
          clear HS hlow
          go_wp2_with fail
          go_quiet (fail)
          go_wp2_with fail
          go_roundw
          case rel => exact ⟨k + 1, by omega, by go_num, by rw [H7.out]; rfl, by rw [H9.out]; rfl, HF, hide (below_drewN' hbel.out _)⟩
          case measure => simp [intOf]; omega
        | true =>
          cases n1 : (x.k != 1) with
          | false =>
            have HF := hide (low_succ hlow.out (by rw [HS.out, n1]; rfl))
            clear HS hlow
            go_wp2_with fail
            go_quiet (fail)
            go_wp2_with fail
            go_roundw
            case rel => exact ⟨k + 1, by omega, by go_num, by rw [H7.out]; rfl, by rw [H9.out]; rfl, HF, hide (below_drewN' hbel.out _)⟩
            case measure => simp [intOf]; omega
          | true =>
            cases n3 : (x.k != 3) with
            | false =>
              have HF := hide (low_succ hlow.out (by rw [HS.out, n1, n3]; rfl))
              clear HS hlow
              go_wp2_with fail
              go_quiet (fail)
              go_wp2_with fail
              go_roundw
              case rel => exact ⟨k + 1, by omega, by go_num, by rw [H7.out]; rfl, by rw [H9.out]; rfl, HF, hide (below_drewN' hbel.out _)⟩
              case measure => simp [intOf]; omega
            | true =>
              have HN := hide (closed_not k (by rw [← Hn.out]; exact hlt) (show badAt l k = true by rw [HS.out, n1, n3]; rfl))
              clear HS hlow
              go_wp2_with fail
              go_ret
              exact ⟨ret_bool HN.out.symm, hbel.out⟩
      | true =>
        cases sv with
        | false =>
          cases k2 : (x.k == 2) with
          | true =>
            have HN := hide (closed_not k (by rw [← Hn.out]; exact hlt) (show badAt l k = true by rw [HS.out, k2]; rfl))
            clear HS hlow
            go_wp2_with fail
            go_ret
            exact ⟨ret_bool HN.out.symm, hbel.out⟩
          | false =>
            have HF := hide (low_succ hlow.out (by rw [HS.out, k2]; rfl))
            clear HS hlow
            go_wp2_with fail
            go_quiet (fail)
            go_wp2_with fail
            go_roundw
            case rel => exact ⟨k + 1, by omega, by go_num, by rw [H7.out]; rfl, by rw [H9.out]; rfl, HF, hide (below_drewN' hbel.out _)⟩
            case measure => simp [intOf]; omega
        | true =>
          cases k2 : (x.k == 2) with
          | true =>
            have HN := hide (closed_not k (by rw [← Hn.out]; exact hlt) (show badAt l k = true by rw [HS.out, k2]; rfl))
            clear HS hlow
            go_wp2_with fail
            go_ret
            exact ⟨ret_bool HN.out.symm, hbel.out⟩
          | false =>
            cases n1 : (x.k != 1) with
            | false =>
              have HF := hide (low_succ hlow.out (by rw [HS.out, k2, n1]; rfl))
              clear HS hlow
              go_wp2_with fail
              go_quiet (fail)
              go_wp2_with fail
              go_roundw
              case rel => exact ⟨k + 1, by omega, by go_num, by rw [H7.out]; rfl, by rw [H9.out]; rfl, HF, hide (below_drewN' hbel.out _)⟩
              case measure => simp [intOf]; omega
            | true =>
              cases n3 : (x.k != 3) with
              | false =>
                have HF := hide (low_succ hlow.out (by rw [HS.out, k2, n1, n3]; rfl))
                clear HS hlow
                go_wp2_with fail
                go_quiet (fail)
                go_wp2_with fail
                go_roundw
                case rel => exact ⟨k + 1, by omega, by go_num, by rw [H7.out]; rfl, by rw [H9.out]; rfl, HF, hide (below_drewN' hbel.out _)⟩
                case measure => simp [intOf]; omega
              | true =>
                have HN := hide (closed_not k (by rw [← Hn.out]; exact hlt) (show badAt l k = true by rw [HS.out, k2, n1, n3]; rfl))
                clear HS hlow
                go_wp2_with fail
                go_ret
                exact ⟨ret_bool HN.out.symm, hbel.out⟩
    · have hke : k = n := by omega
      subst hke
      have hd : decide ((k : Int) < (k : Int)) = false := by simp
      have hd2 : decide (k < k) = false := by simp
      have HN := hide (closed_yes (l := l) (by rw [← Hn.out]; exact hlow.out))
      go_wp2_with fail
      go_ret
      exact ⟨ret_bool HN.out.symm, hbel.out⟩
end Go.Proofs.Ythnjebpbokmemaa
namespace Go.Proofs.Ythnjebpbokmemaa
open Go.RowKit
set_option linter.unusedVariables false

theorem idxK_or2 (kd : Int) (l : List Ev) : (idxK kd l = -1 ∧ ∀ y ∈ l, isK kd y = false) ∨ ∃ k, k < l.length ∧ idxK kd l = k ∧ (evAt l k).k = kd ∧ ∀ y ∈ l.take k, isK kd y = false := by
  by_cases h : ∀ y ∈ l, isK kd y = false
  · exact Or.inl ⟨idxK_none kd l h, h⟩
  · right
    have hk : l.findIdx (isK kd) < l.length := by
      rw [List.findIdx_lt_length]
      simp only [Classical.not_forall] at h
      obtain ⟨y, hy, ho⟩ := h
      exact ⟨y, hy, by simpa using ho⟩
    have e : evAt l (l.findIdx (isK kd)) = l[l.findIdx (isK kd)] := by simp [evAt, List.getD, hk]
    have hx : isK kd (evAt l (l.findIdx (isK kd))) = true := by rw [e]; exact List.findIdx_getElem
    have hp : ∀ y ∈ l.take (l.findIdx (isK kd)), isK kd y = false := by
      intro y hy
      rw [List.mem_take_iff_getElem] at hy
      obtain ⟨j, hj, rfl⟩ := hy
      have := List.not_of_lt_findIdx (p := isK kd) (xs := l) (i := j) (by omega)
      simpa using this
    exact ⟨_, hk, idxK_at kd l _ hk hp hx, by simpa [isK] using hx, hp⟩
theorem take_any_no {kd : Int} {l : List Ev} (h : ∀ y ∈ l, isK kd y = false) (i : Nat) : (l.take i).any (isK kd) = false := by
  rw [List.any_eq_false]
  intro y hy
  rw [h y (List.mem_of_mem_take hy)]
  decide
theorem take_any_low {kd : Int} {l : List Ev} {k : Nat} (h : ∀ y ∈ l.take k, isK kd y = false) {i : Nat} (hi : i ≤ k) : (l.take i).any (isK kd) = false := by
  rw [List.any_eq_false]
  intro y hy
  have : y ∈ l.take k := by
    have e : l.take i = (l.take k).take i := by rw [List.take_take, Nat.min_eq_left hi]
    rw [e] at hy
    exact List.mem_of_mem_take hy
  rw [h y this]
  decide
theorem take_any_high {kd : Int} {l : List Ev} {k : Nat} (hk : k < l.length) (h : (evAt l k).k = kd) {i : Nat} (hi : k < i) : (l.take i).any (isK kd) = true := by
  rw [List.any_eq_true]
  have e : evAt l k = l[k] := by simp [evAt, List.getD, hk]
  refine ⟨l[k], ?_, by rw [← e]; simp [isK, h]⟩
  rw [List.mem_take_iff_getElem]
  exact ⟨k, by omega, rfl⟩
theorem drop_any {p : Ev → Bool} {l : List Ev} {k : Nat} : (l.drop k).any p = true ↔ ∃ i, k ≤ i ∧ i < l.length ∧ p (evAt l i) = true := by
  rw [List.any_eq_true]
  constructor
  · rintro ⟨x, hx, ho⟩
    rw [List.mem_drop_iff_getElem] at hx
    obtain ⟨j, hj, rfl⟩ := hx
    refine ⟨k + j, by omega, by omega, ?_⟩
    have e : evAt l (k + j) = l[k + j] := by simp [evAt, List.getD, show k + j < l.length by omega]
    rw [e]; exact ho
  · rintro ⟨i, hki, hi, ho⟩
    have e : evAt l i = l[i] := by simp [evAt, List.getD, hi]
    refine ⟨l[i], ?_, by rw [← e]; exact ho⟩
    rw [List.mem_drop_iff_getElem]
    exact ⟨i - k, by omega, by congr 1; omega⟩
/-- behind the first drain nobody came, where there is one -/
def Fair7 (l : List Ev) : Prop := ∀ i, i < l.length → (l.take i).any (isK 7) = true → (evAt l i).k ≠ 2
def Fair9 (l : List Ev) : Prop := ∀ i, i < l.length → (l.take i).any (isK 9) = true → (evAt l i).k = 1 ∨ (evAt l i).k = 3
theorem fair7_no {l : List Ev} (h : ∀ y ∈ l, isK 7 y = false) : Fair7 l := by
  intro i hi ha
  rw [take_any_no h] at ha
  cases ha
theorem fair9_no {l : List Ev} (h : ∀ y ∈ l, isK 9 y = false) : Fair9 l := by
  intro i hi ha
  rw [take_any_no h] at ha
  cases ha
theorem fair7_first {l : List Ev} {k : Nat} (hk : k < l.length) (h7 : (evAt l k).k = 7) (hl : ∀ y ∈ l.take k, isK 7 y = false) (hd : (l.drop k).any (isK 2) = false) : Fair7 l := by
  intro i hi ha h2
  by_cases hik : i ≤ k
  · rw [take_any_low hl hik] at ha; cases ha
  · have := (drop_any (p := isK 2) (l := l) (k := k)).2 ⟨i, by omega, hi, by simp [isK, h2]⟩
    rw [hd] at this
    cases this
theorem bad7_first {l : List Ev} {k : Nat} (hk : k < l.length) (h7 : (evAt l k).k = 7) (hd : (l.drop k).any (isK 2) = true) : closedB l = false := by
  obtain ⟨i, hki, hi, ho⟩ := drop_any.1 hd
  have h2 : (evAt l i).k = 2 := by simpa [isK] using ho
  have hne : k ≠ i := by
    intro e
    rw [← e, h7] at h2
    cases h2
  refine closed_not i hi ?_
  unfold badAt
  rw [take_any_high hk h7 (by omega)]
  simp [h2]
theorem fair9_first {l : List Ev} {k : Nat} (hk : k < l.length) (hl : ∀ y ∈ l.take k, isK 9 y = false) (hd : (l.drop (k + 1)).any otherB = false) : Fair9 l := by
  intro i hi ha
  by_cases hik : i ≤ k
  · rw [take_any_low hl hik] at ha; cases ha
  · apply Classical.byContradiction
    intro hn
    have := (drop_any (p := otherB) (l := l) (k := k + 1)).2 ⟨i, by omega, hi, by simp [otherB]; omega⟩
    rw [hd] at this
    cases this
theorem bad9_first {l : List Ev} {k : Nat} (hk : k < l.length) (h9 : (evAt l k).k = 9) (hd : (l.drop (k + 1)).any otherB = true) : closedB l = false := by
  obtain ⟨i, hki, hi, ho⟩ := drop_any.1 hd
  refine closed_not i hi ?_
  unfold badAt
  rw [take_any_high hk h9 (by omega)]
  unfold otherB at ho
  rw [ho]
  simp
theorem closed_fair {l : List Ev} (h7 : Fair7 l) (h9 : Fair9 l) : closedB l = true := by
  refine closed_yes (fun i hi => ?_)
  unfold badAt
  have a7 := h7 i hi
  have a9 := h9 i hi
  cases e7 : (l.take i).any (isK 7) with
  | false =>
    cases e9 : (l.take i).any (isK 9) with
    | false => rfl
    | true => rcases a9 e9 with h | h <;> simp [h]
  | true =>
    cases e9 : (l.take i).any (isK 9) with
    | false => simp [a7 e7]
    | true => rcases a9 e9 with h | h <;> simp [h]
theorem rd_drp {w : World} {b o : Nat} {l : List Ev} (h : Rd w NoBlk (some ⟨b, o, none⟩) (flat encEv l)) (m : Nat) (hm : m ≤ l.length) : Rd w NoBlk (some ⟨b, o + m * 12, none⟩) (flat encEv (l.drop m)) := by
  by_cases hp : m < l.length
  · have := rd_subL h m (l.length - m) (by omega) (by omega)
    rw [List.take_of_length_le (by rw [List.length_drop]; omega)] at this
    exact this
  · have : l.drop m = [] := List.drop_eq_nil_of_le (by omega)
    rw [this]
    exact Rd.nil
set_option maxRecDepth 100000 in
set_option maxHeartbeats 3200000 in
theorem closed_c (A : Option Addr) (c : Nat) (l : List Ev) (w : World) (hr : Rd w NoBlk A (flat encEv l)) (hn : l.length ≤ 10000) (hlc : l.length ≤ c) :
    Calls Try.prog 30 #[.slice A l.length c] w fun e w' => e = .returned (.bool (closedB l)) ∧ Below w.heap.size w w' := by
  have H7 := hide (first_c NoBlk A c l 7 w hr (by unfold maxLen; omega))
  have H9 := hide (fun (w' : World) (hb : Below w.heap.size w w') => first_c NoBlk A c l 9 w' (hr.below hb) (by unfold maxLen; omega))
  have HR := hide hr
  have HE := hide (fun (k : Nat) (hk : k < l.length) => ev_cells hr k hk)
  obtain ⟨n, hnl⟩ : ∃ n, n = l.length := ⟨_, rfl⟩
  rw [← hnl] at hn hlc H7 H9 ⊢
  have Hn := hide hnl
  clear hr hnl
  rcases idxK_or2 7 l with ⟨hi7, hx7⟩ | ⟨k7, hk7, hi7, he7, hl7⟩
  · have HF7 := hide (fair7_no hx7)
    rw [hi7] at H7
    clear hi7 hx7
    rcases idxK_or2 9 l with ⟨hi9, hx9⟩ | ⟨k9, hk9, hi9, he9, hl9⟩
    · have HN := hide (closed_fair HF7.out (fair9_no hx9))
      rw [hi9] at H9
      clear hi9 hx9
      go_enter Try.func30, Try.ntmps30
      go_wp2_with fail
      refine H7.out.mono ?_
      rintro e w1 ⟨rfl, hb1⟩
      have HB1 := hide hb1
      clear hb1
      go_wp2_with fail
      refine (H9.out _ HB1.out).mono ?_
      rintro e w2 ⟨rfl, hb2⟩
      have HB2 := hide (HB1.out.trans (hb2.mono HB1.out.size))
      clear hb2
      go_wp2_with fail
      go_ret
      exact ⟨ret_bool HN.out.symm, HB2.out⟩
    · rw [hi9] at H9
      have HY := hide (fun (h : (l.drop (k9 + 1)).any otherB = true) => bad9_first hk9 he9 h)
      have HNo := hide (fun (h : (l.drop (k9 + 1)).any otherB = false) => closed_fair HF7.out (fair9_first hk9 hl9 h))
      have HN : Hid ((!(l.drop (k9 + 1)).any otherB) = closedB l) := by
        cases e : (l.drop (k9 + 1)).any otherB with
        | true => rw [HY.out e]; rfl
        | false => rw [HNo.out e]; rfl
      have hdl : (l.drop (k9 + 1)).length = n - (k9 + 1) := by rw [List.length_drop, ← Hn.out]
      have hk9n : k9 < n := by rw [Hn.out]; exact hk9
      clear hi9 hl9 he9 HY HNo
      obtain ⟨b, o, rfl, _, _, _⟩ := HE.out k9 hk9
      have j1 : (0 : Int) ≤ (k9 : Int) := by omega
      have j2 : decide ((k9 : Int) < 0) = false := by simp
      have j3 : IntKind.i64.wrap ((k9 : Int) + 1) = (k9 : Int) + 1 := IntWalk.i64_in _ (by omega)
      have j4 : ((k9 : Int) + 1).toNat = k9 + 1 := by omega
      have j5 : (k9 : Int) + 1 ≤ (n : Int) := by omega
      have j6 : (0 : Int) ≤ (k9 : Int) + 1 := by omega
      clear hk9
      by_cases hc9 : c = k9 + 1
      · have HCt := hide (fun (w' : World) (hb : Below w.heap.size w w') => ContainsO_c NoBlk (some ⟨b, o, none⟩) (c - (k9 + 1)) (l.drop (k9 + 1)) w' (Or.inl (by apply List.eq_nil_of_length_eq_zero; rw [flat_len encEv 12 encEv_len, hdl]; omega)) (by rw [hdl]; unfold maxLen; omega))
        rw [hdl] at HCt
        have j7 : n - (k9 + 1) = 0 := by omega
        have j8 : c - (k9 + 1) = 0 := by omega
        rw [j7, j8] at HCt
        obtain ⟨z, hz⟩ : ∃ z, z = (l.drop (k9 + 1)).any otherB := ⟨_, rfl⟩
        rw [← hz] at HCt HN
        clear hz hdl j7 j8
        have hn9 : n = k9 + 1 := by omega
        subst hc9
        subst hn9
        go_enter Try.func30, Try.ntmps30
        go_wp2_with fail
        refine H7.out.mono ?_
        rintro e w1 ⟨rfl, hb1⟩
        have HB1 := hide hb1
        clear hb1
        go_wp2_with fail
        refine (H9.out _ HB1.out).mono ?_
        rintro e w2 ⟨rfl, hb2⟩
        have HB2 := hide (HB1.out.trans (hb2.mono HB1.out.size))
        clear hb2
        go_wp2_with fail
        refine (HCt.out _ HB2.out).mono ?_
        rintro e w4 ⟨rfl, hb4⟩
        have HB4 := hide (HB2.out.trans (hb4.mono HB2.out.size))
        clear hb4
        go_wp2_with fail
        go_ret
        exact ⟨ret_bool HN.out, HB4.out⟩
      · have HCt := hide (fun (w' : World) (hb : Below w.heap.size w w') => ContainsO_c NoBlk (some ⟨b, o + (k9 + 1) * 12, none⟩) (c - (k9 + 1)) (l.drop (k9 + 1)) w' (rd_drp (HR.out.below hb) (k9 + 1) (by rw [← Hn.out]; omega)) (by rw [hdl]; unfold maxLen; omega))
        rw [hdl] at HCt
        obtain ⟨z, hz⟩ : ∃ z, z = (l.drop (k9 + 1)).any otherB := ⟨_, rfl⟩
        rw [← hz] at HCt HN
        clear hz hdl
        go_enter Try.func30, Try.ntmps30
        go_wp2_with fail
        refine H7.out.mono ?_
        rintro e w1 ⟨rfl, hb1⟩
        have HB1 := hide hb1
        clear hb1
        go_wp2_with fail
        refine (H9.out _ HB1.out).mono ?_
        rintro e w2 ⟨rfl, hb2⟩
        have HB2 := hide (HB1.out.trans (hb2.mono HB1.out.size))
        clear hb2
        go_wp2_with fail
        refine (HCt.out _ HB2.out).mono ?_
        rintro e w4 ⟨rfl, hb4⟩
        have HB4 := hide (HB2.out.trans (hb4.mono HB2.out.size))
        clear hb4
        go_wp2_with fail
        go_ret
        exact ⟨ret_bool HN.out, HB4.out⟩
  · rw [hi7] at H7
    obtain ⟨b, o, rfl, _, _, _⟩ := HE.out k7 hk7
    have hdl7 : (l.drop k7).length = n - k7 := by rw [List.length_drop, ← Hn.out]
    have H2 := hide (fun (w' : World) (hb : Below w.heap.size w w') => first_c NoBlk (some ⟨b, o + k7 * 12, none⟩) (c - k7) (l.drop k7) 2 w' (rd_drp (HR.out.below hb) k7 (by omega)) (by rw [hdl7]; unfold maxLen; omega))
    rw [hdl7] at H2
    have hk7n : k7 < n := by rw [Hn.out]; exact hk7
    have i1 : (0 : Int) ≤ (k7 : Int) := by omega
    have i2 : decide ((0 : Int) ≤ (k7 : Int)) = true := by simp
    have i3 : (k7 : Int) ≤ (n : Int) := by omega
    have i4 : ¬ c = k7 := by omega
    have hany := idxK_any 2 (l.drop k7)
    obtain ⟨q, hq⟩ : ∃ q, q = idxK 2 (l.drop k7) := ⟨_, rfl⟩
    rw [← hq] at hany H2
    clear hq hi7 hdl7
    cases hd : (l.drop k7).any (isK 2) with
    | true =>
      have HN := hide (bad7_first hk7 he7 hd)
      rw [hd] at hany
      clear hd hk7 hl7 he7
      go_enter Try.func30, Try.ntmps30
      go_wp2_with fail
      refine H7.out.mono ?_
      rintro e w1 ⟨rfl, hb1⟩
      have HB1 := hide hb1
      clear hb1
      go_wp2_with fail
      refine (H9.out _ HB1.out).mono ?_
      rintro e w2 ⟨rfl, hb2⟩
      have HB2 := hide (HB1.out.trans (hb2.mono HB1.out.size))
      clear hb2
      go_wp2_with fail
      refine (H2.out _ HB2.out).mono ?_
      rintro e w3 ⟨rfl, hb3⟩
      have HB3 := hide (HB2.out.trans (hb3.mono HB2.out.size))
      clear hb3
      go_wp2_with fail
      go_ret
      exact ⟨ret_bool HN.out.symm, HB3.out⟩
    | false =>
      have HF7 := hide (fair7_first hk7 he7 hl7 hd)
      rw [hd] at hany
      clear hd hk7 hl7 he7
      rcases idxK_or2 9 l with ⟨hi9, hx9⟩ | ⟨k9, hk9, hi9, he9, hl9⟩
      · have HN := hide (closed_fair HF7.out (fair9_no hx9))
        rw [hi9] at H9
        clear hi9 hx9
        go_enter Try.func30, Try.ntmps30
        go_wp2_with fail
        refine H7.out.mono ?_
        rintro e w1 ⟨rfl, hb1⟩
        have HB1 := hide hb1
        clear hb1
        go_wp2_with fail
        refine (H9.out _ HB1.out).mono ?_
        rintro e w2 ⟨rfl, hb2⟩
        have HB2 := hide (HB1.out.trans (hb2.mono HB1.out.size))
        clear hb2
        go_wp2_with fail
        refine (H2.out _ HB2.out).mono ?_
        rintro e w3 ⟨rfl, hb3⟩
        have HB3 := hide (HB2.out.trans (hb3.mono HB2.out.size))
        clear hb3
        go_wp2_with fail
        go_ret
        exact ⟨ret_bool HN.out.symm, HB3.out⟩
      · rw [hi9] at H9
        have HY := hide (fun (h : (l.drop (k9 + 1)).any otherB = true) => bad9_first hk9 he9 h)
        have HNo := hide (fun (h : (l.drop (k9 + 1)).any otherB = false) => closed_fair HF7.out (fair9_first hk9 hl9 h))
        have HN : Hid ((!(l.drop (k9 + 1)).any otherB) = closedB l) := by
          cases e : (l.drop (k9 + 1)).any otherB with
          | true => rw [HY.out e]; rfl
          | false => rw [HNo.out e]; rfl
        have hdl : (l.drop (k9 + 1)).length = n - (k9 + 1) := by rw [List.length_drop, ← Hn.out]
        have hk9n : k9 < n := by rw [Hn.out]; exact hk9
        clear hi9 hl9 he9 HY HNo
        have j1 : (0 : Int) ≤ (k9 : Int) := by omega
        have j2 : decide ((k9 : Int) < 0) = false := by simp
        have j3 : IntKind.i64.wrap ((k9 : Int) + 1) = (k9 : Int) + 1 := IntWalk.i64_in _ (by omega)
        have j4 : ((k9 : Int) + 1).toNat = k9 + 1 := by omega
        have j5 : (k9 : Int) + 1 ≤ (n : Int) := by omega
        have j6 : (0 : Int) ≤ (k9 : Int) + 1 := by omega
        clear hk9
        by_cases hc9 : c = k9 + 1
        · have HCt := hide (fun (w' : World) (hb : Below w.heap.size w w') => ContainsO_c NoBlk (some ⟨b, o, none⟩) (c - (k9 + 1)) (l.drop (k9 + 1)) w' (Or.inl (by apply List.eq_nil_of_length_eq_zero; rw [flat_len encEv 12 encEv_len, hdl]; omega)) (by rw [hdl]; unfold maxLen; omega))
          rw [hdl] at HCt
          have j7 : n - (k9 + 1) = 0 := by omega
          have j8 : c - (k9 + 1) = 0 := by omega
          rw [j7, j8] at HCt
          obtain ⟨z, hz⟩ : ∃ z, z = (l.drop (k9 + 1)).any otherB := ⟨_, rfl⟩
          rw [← hz] at HCt HN
          clear hz hdl j7 j8
          have hn9 : n = k9 + 1 := by omega
          subst hc9
          subst hn9
          go_enter Try.func30, Try.ntmps30
          go_wp2_with fail
          refine H7.out.mono ?_
          rintro e w1 ⟨rfl, hb1⟩
          have HB1 := hide hb1
          clear hb1
          go_wp2_with fail
          refine (H9.out _ HB1.out).mono ?_
          rintro e w2 ⟨rfl, hb2⟩
          have HB2 := hide (HB1.out.trans (hb2.mono HB1.out.size))
          clear hb2
          go_wp2_with fail
          refine (H2.out _ HB2.out).mono ?_
          rintro e w3 ⟨rfl, hb3⟩
          have HB3 := hide (HB2.out.trans (hb3.mono HB2.out.size))
          clear hb3
          go_wp2_with fail
          refine (HCt.out _ HB3.out).mono ?_
          rintro e w4 ⟨rfl, hb4⟩
          have HB4 := hide (HB3.out.trans (hb4.mono HB3.out.size))
          clear hb4
          go_wp2_with fail
          go_ret
          exact ⟨ret_bool HN.out, HB4.out⟩
        · have HCt := hide (fun (w' : World) (hb : Below w.heap.size w w') => ContainsO_c NoBlk (some ⟨b, o + (k9 + 1) * 12, none⟩) (c - (k9 + 1)) (l.drop (k9 + 1)) w' (rd_drp (HR.out.below hb) (k9 + 1) (by rw [← Hn.out]; omega)) (by rw [hdl]; unfold maxLen; omega))
          rw [hdl] at HCt
          obtain ⟨z, hz⟩ : ∃ z, z = (l.drop (k9 + 1)).any otherB := ⟨_, rfl⟩
          rw [← hz] at HCt HN
          clear hz hdl
          go_enter Try.func30, Try.ntmps30
          go_wp2_with fail
          refine H7.out.mono ?_
          rintro e w1 ⟨rfl, hb1⟩
          have HB1 := hide hb1
          clear hb1
          go_wp2_with fail
          refine (H9.out _ HB1.out).mono ?_
          rintro e w2 ⟨rfl, hb2⟩
          have HB2 := hide (HB1.out.trans (hb2.mono HB1.out.size))
          clear hb2
          go_wp2_with fail
          refine (H2.out _ HB2.out).mono ?_
          rintro e w3 ⟨rfl, hb3⟩
          have HB3 := hide (HB2.out.trans (hb3.mono HB2.out.size))
          clear hb3
          go_wp2_with fail
          refine (HCt.out _ HB3.out).mono ?_
          rintro e w4 ⟨rfl, hb4⟩
          have HB4 := hide (HB3.out.trans (hb4.mono HB3.out.size))
          clear hb4
          go_wp2_with fail
          go_ret
          exact ⟨ret_bool HN.out, HB4.out⟩
end Go.Proofs.Ythnjebpbokmemaa
namespace Go.Proofs.Ythnjebpbokmemaa
open Go.RowKit
set_option linter.unusedVariables false

def ownStep (id : Int) (x : Ev) : Bool := (x.k == 8) && (x.id == id)
def endStep (id : Int) (x : Ev) : Bool := ownStep id x && (x.st.status != 0)
/-- one that had ended has one more step -/
def badO (id : Int) (l : List Ev) (i : Nat) : Bool := ownStep id (evAt l i) && (l.take i).any (endStep id)
def onceB (id : Int) (l : List Ev) : Bool := !(List.range l.length).any (badO id l)
theorem once_not {id : Int} {l : List Ev} (k : Nat) (hk : k < l.length) (h : badO id l k = true) : onceB id l = false := by
  unfold onceB
  rw [show (List.range l.length).any (badO id l) = true from List.any_eq_true.2 ⟨k, List.mem_range.2 hk, h⟩]
  rfl
theorem once_yes {id : Int} {l : List Ev} (h : ∀ i, i < l.length → badO id l i = false) : onceB id l = true := by
  unfold onceB
  rw [show (List.range l.length).any (badO id l) = false from by
    rw [List.any_eq_false]
    intro i hi
    rw [h i (List.mem_range.1 hi)]
    decide]
  rfl
theorem anyE_succ (id : Int) (l : List Ev) (k : Nat) (h : k < l.length) : (l.take (k + 1)).any (endStep id) = ((l.take k).any (endStep id) || endStep id (evAt l k)) := by
  have e : evAt l k = l[k] := by simp [evAt, List.getD, h]
  rw [List.take_succ_eq_append_getElem h, List.any_append, e]
  simp
theorem bad_hit {id : Int} {l : List Ev} {k j : Nat} (hk : k < l.length) (hj : j < k) (ho : ownStep id (evAt l k) = true) (he : endStep id (evAt l j) = true) : badO id l k = true := by
  have e : evAt l j = l[j] := by simp [evAt, List.getD, show j < l.length by omega]
  unfold badO
  rw [ho, List.any_eq_true.2 ⟨l[j], by rw [List.mem_take_iff_getElem]; exact ⟨j, by omega, rfl⟩, by rw [← e]; exact he⟩]
  rfl
theorem bad_miss {id : Int} {l : List Ev} {k : Nat} (hk : k < l.length) (h : ∀ j, j < k → (ownStep id (evAt l k) && endStep id (evAt l j)) = false) : badO id l k = false := by
  unfold badO
  cases ho : ownStep id (evAt l k) with
  | false => rfl
  | true =>
    rw [Bool.true_and, List.any_eq_false]
    intro y hy
    rw [List.mem_take_iff_getElem] at hy
    obtain ⟨j, hj, rfl⟩ := hy
    have e : evAt l j = l[j]'(by omega) := by simp [evAt, List.getD, show j < l.length by omega]
    have := h j (by omega)
    rw [ho, Bool.true_and, e] at this
    rw [this]
    decide
set_option maxRecDepth 100000 in
set_option maxHeartbeats 3200000 in
theorem once_c (A : Option Addr) (c : Nat) (l : List Ev) (id : Int) (w : World) (hr : Rd w NoBlk A (flat encEv l)) (hn : l.length ≤ 10000) :
    Calls Try.prog 32 #[.slice A l.length c, .int .i64 id] w fun e w' => e = .returned (.bool (onceB id l)) ∧ Below w.heap.size w w' := by
  have HE := hide (fun (k : Nat) (hk : k < l.length) => ev_cells hr k hk)
  obtain ⟨n, hnl⟩ : ∃ n, n = l.length := ⟨_, rfl⟩
  rw [← hnl] at hn ⊢
  have Hn := hide hnl
  clear hr hnl
  go_enter Try.func32, Try.ntmps32
  go_wp2_with fail
  go_loopw [5, 10] (fun d i wr => ∃ k : Nat, k ≤ n ∧ i = .int .i64 k ∧ d = .bool ((l.take k).any (endStep id)) ∧ Hid (∀ i, i < k → badO id l i = false) ∧ Hid (Below w.heap.size w wr)) (fun _ i _ => n - (intOf i).toNat)
  case atStart => exact ⟨0, Nat.zero_le _, rfl, rfl, hide (fun i hi => absurd hi (by omega)), Below.refl _ _⟩
  case round =>
    obtain ⟨k, hk, rfl, rfl, hlow, hbel⟩ := hrel
    by_cases hlt : k < n
    · obtain ⟨b, o, rfl, _, hb, g0, g1, g2, g3, g4, g5, g6, g7, g8, g9, g10, g11⟩ := HE.out k (by rw [← Hn.out]; exact hlt)
      replace g0 := bkeepL hbel.out hb g0
      replace g1 := bkeepL hbel.out hb g1
      replace g2 := bkeepL hbel.out hb g2
      replace g3 := bkeepL hbel.out hb g3
      replace g4 := bkeepL hbel.out hb g4
      replace g5 := bkeepL hbel.out hb g5
      replace g6 := bkeepL hbel.out hb g6
      replace g7 := bkeepL hbel.out hb g7
      replace g8 := bkeepL hbel.out hb g8
      replace g9 := bkeepL hbel.out hb g9
      replace g10 := bkeepL hbel.out hb g10
      replace g11 := bkeepL hbel.out hb g11
      have HA := hide (anyE_succ id l k (by rw [← Hn.out]; exact hlt))
      have HS := hide (show badO id l k = (((evAt l k).k == 8 && (evAt l k).id == id) && (l.take k).any (endStep id)) from rfl)
      have HO := hide (show endStep id (evAt l k) = (((evAt l k).k == 8 && (evAt l k).id == id) && ((evAt l k).st.status != 0)) from rfl)
      obtain ⟨x, hx⟩ : ∃ x, x = evAt l k := ⟨_, rfl⟩
      rw [← hx] at g0 g1 g2 g3 g4 g5 g6 g7 g8 g9 g10 g11 HA HS HO
      obtain ⟨ov, hov⟩ : ∃ ov, ov = (l.take k).any (endStep id) := ⟨_, rfl⟩
      rw [← hov] at HA HS ⊢
      clear hx hov
      have Hhb := hide hb
      clear hb
      have w2 : Hid (Below w.heap.size w (wr.alloc (.cells (evV x) 28))) := hide (hbel.out.alloc hbel.out.size _)
      cases q1 : (x.k != 8) with
      | true =>
        have e8 : (x.k == 8) = false := by simpa using q1
        have HF := hide (low_succ hlow.out (by rw [HS.out, e8]; rfl))
        have HV := hide (show ov = (l.take (k + 1)).any (endStep id) by rw [HA.out, HO.out, e8]; simp)
        clear HS hlow HA HO
        go_wp2_with fail
        go_roundw
        case rel => exact ⟨k + 1, by omega, by go_num, by rw [HV.out], HF, w2⟩
        case measure => simp [intOf]; omega
      | false =>
        have e8 : (x.k == 8) = true := by simpa using q1
        cases q2 : (x.id != id) with
        | true =>
          have eid : (x.id == id) = false := by simpa using q2
          have HF := hide (low_succ hlow.out (by rw [HS.out, eid]; simp))
          have HV := hide (show ov = (l.take (k + 1)).any (endStep id) by rw [HA.out, HO.out, eid]; simp)
          clear HS hlow HA HO
          go_wp2_with fail
          go_roundw
          case rel => exact ⟨k + 1, by omega, by go_num, by rw [HV.out], HF, w2⟩
          case measure => simp [intOf]; omega
        | false =>
          have eid : (x.id == id) = true := by simpa using q2
          cases ov with
          | true =>
            have HN := hide (once_not k (by rw [← Hn.out]; exact hlt) (show badO id l k = true by rw [HS.out, e8, eid]; rfl))
            clear HS hlow HA HO
            go_wp2_with fail
            go_ret
            exact ⟨ret_bool HN.out.symm, w2.out⟩
          | false =>
            have HF := hide (low_succ hlow.out (by rw [HS.out]; simp))
            have HV := hide (show (x.st.status != 0) = (l.take (k + 1)).any (endStep id) by rw [HA.out, HO.out, e8, eid]; simp)
            clear HS hlow HA HO
            go_wp2_with fail
            go_roundw
            case rel => exact ⟨k + 1, by omega, by go_num, by rw [← HV.out], HF, w2⟩
            case measure => simp [intOf]; omega
    · have hke : k = n := by omega
      subst hke
      have hd : decide ((k : Int) < (k : Int)) = false := by simp
      have hd2 : decide (k < k) = false := by simp
      have HN := hide (once_yes (id := id) (l := l) (by rw [← Hn.out]; exact hlow.out))
      go_wp2_with fail
      go_ret
      exact ⟨ret_bool HN.out.symm, hbel.out⟩
set_option maxRecDepth 100000 in
set_option maxHeartbeats 3200000 in
theorem refOnce_c (A : Option Addr) (c : Nat) (l : List Ev) (id : Int) (w : World) (hr : Rd w NoBlk A (flat encEv l)) (hn : l.length ≤ 10000) :
    Calls Try.prog 33 #[.slice A l.length c, .int .i64 id] w fun e w' => e = .returned (.bool (onceB id l)) ∧ Below w.heap.size w w' := by
  have HE := hide (fun (k : Nat) (hk : k < l.length) => ev_cells hr k hk)
  obtain ⟨n, hnl⟩ : ∃ n, n = l.length := ⟨_, rfl⟩
  rw [← hnl] at hn ⊢
  have Hn := hide hnl
  clear hr hnl
  go_enter Try.func33, Try.ntmps33
  go_wp2_with fail
  go_loopw [5] (fun i wr => ∃ k : Nat, k ≤ n ∧ i = .int .i64 k ∧ Hid (∀ i, i < k → badO id l i = false) ∧ wr = w) (fun i _ => n - (intOf i).toNat)
  case atStart => exact ⟨0, Nat.zero_le _, rfl, hide (fun i hi => absurd hi (by omega)), rfl⟩
  case round =>
    obtain ⟨k, hk, rfl, hlow, rfl⟩ := hrel
    by_cases hlt : k < n
    · obtain ⟨b, o, rfl, _, hb, g0, g1, _⟩ := HE.out k (by rw [← Hn.out]; exact hlt)
      have HO := hide (show ownStep id (evAt l k) = ((evAt l k).k == 8 && (evAt l k).id == id) from rfl)
      have HM := hide (fun h => bad_miss (id := id) (l := l) (k := k) (by rw [← Hn.out]; exact hlt) h)
      have HY := hide (fun (j : Nat) (hj : j < k) h h2 => once_not k (by rw [← Hn.out]; exact hlt) (bad_hit (id := id) (l := l) (k := k) (by rw [← Hn.out]; exact hlt) hj h h2))
      obtain ⟨x, hx⟩ : ∃ x, x = evAt l k := ⟨_, rfl⟩
      rw [← hx] at g0 g1 HO HM HY
      clear hx
      have j1 : (0 : Int) ≤ (k : Int) := by omega
      have j2 : (k : Int) < (n : Int) := by omega
      have j3 := nn_lt hlt
      go_wp2_with fail
      go_loopw [6] (fun i w2 => ∃ j : Nat, j ≤ k ∧ i = .int .i64 j ∧ Hid (∀ i, i < j → (ownStep id x && endStep id (evAt l i)) = false) ∧ w2 = wr) (fun i _ => k - (intOf i).toNat)
      case atStart => exact ⟨0, Nat.zero_le _, rfl, hide (fun i hi => absurd hi (by omega)), rfl⟩
      case round =>
        obtain ⟨j, hj, rfl, hlo2, rfl⟩ := hrel
        by_cases hlt2 : j < k
        · obtain ⟨b', o', hbo, _, _, f0, f1, f2, f3, f4, f5, f6, f7, f8, f9, f10, f11⟩ := HE.out j (by rw [← Hn.out]; omega)
          injection hbo with hbo
          injection hbo with e1 e2 _
          subst e1; subst e2
          clear f2 f3 f4 f5 f6 f7 f8 f9 f10
          have HE2 := hide (show endStep id (evAt l j) = (((evAt l j).k == 8 && (evAt l j).id == id) && ((evAt l j).st.status != 0)) from rfl)
          have HYj := hide (HY.out j hlt2)
          obtain ⟨y, hy⟩ : ∃ y, y = evAt l j := ⟨_, rfl⟩
          rw [← hy] at f0 f1 f11 HE2 HYj
          have Hy := hide hy
          clear hy
          have i1 : (0 : Int) ≤ (j : Int) := by omega
          have i2 : (j : Int) < (n : Int) := by omega
          have i3 : decide ((j : Int) < (k : Int)) = true := nn_lt hlt2
          have HL : Hid ((ownStep id x && endStep id y) = false → ∀ i, i < j + 1 → (ownStep id x && endStep id (evAt l i)) = false) := fun h => low_succ hlo2.out (by rw [← Hy.out]; exact h)
          clear hlo2
          cases q1 : (x.k == 8) with
          | false =>
            have HF := hide (HL.out (by rw [HO.out, q1]; rfl))
            go_wp2_with fail
            go_roundw
            case rel => exact ⟨j + 1, by omega, by go_num, HF, by first | trivial | rfl⟩
            case measure => simp [intOf]; omega
          | true =>
            cases q2 : (x.id == id) with
            | false =>
              have HF := hide (HL.out (by rw [HO.out, q2]; simp))
              go_wp2_with fail
              go_roundw
              case rel => exact ⟨j + 1, by omega, by go_num, HF, by first | trivial | rfl⟩
              case measure => simp [intOf]; omega
            | true =>
              cases q3 : (y.k == 8) with
              | false =>
                have HF := hide (HL.out (by rw [HE2.out, q3]; simp))
                go_wp2_with fail
                go_roundw
                case rel => exact ⟨j + 1, by omega, by go_num, HF, by first | trivial | rfl⟩
                case measure => simp [intOf]; omega
              | true =>
                cases q4 : (y.id == id) with
                | false =>
                  have HF := hide (HL.out (by rw [HE2.out, q4]; simp))
                  go_wp2_with fail
                  go_roundw
                  case rel => exact ⟨j + 1, by omega, by go_num, HF, by first | trivial | rfl⟩
                  case measure => simp [intOf]; omega
                | true =>
                  cases q5 : (y.st.status != 0) with
                  | false =>
                    have HF := hide (HL.out (by rw [HE2.out, q5]; simp))
                    go_wp2_with fail
                    go_roundw
                    case rel => exact ⟨j + 1, by omega, by go_num, HF, by first | trivial | rfl⟩
                    case measure => simp [intOf]; omega
                  | true =>
                    have HN := hide (HYj.out (by rw [HO.out, q1, q2]; rfl) (by rw [HE2.out, q3, q4, q5]; rfl))
                    go_wp2_with fail
                    go_ret
                    exact ⟨ret_bool HN.out.symm, Below.refl _ _⟩
        · have hje : j = k := by omega
          subst hje
          have hd3 : decide ((j : Int) < (j : Int)) = false := by simp
          have hd4 : decide (j < j) = false := by simp
          have HF := hide (low_succ hlow.out (HM.out hlo2.out))
          go_wp2_with fail
          go_roundw
          case rel => exact ⟨j + 1, by omega, by go_num, HF, by first | trivial | rfl⟩
          case measure => simp [intOf]; omega
    · have hke : k = n := by omega
      subst hke
      have hd : decide ((k : Int) < (k : Int)) = false := by simp
      have hd2 : decide (k < k) = false := by simp
      have HN := hide (once_yes (id := id) (l := l) (by rw [← Hn.out]; exact hlow.out))
      go_wp2_with fail
      go_ret
      exact ⟨ret_bool HN.out.symm, Below.refl _ _⟩
end Go.Proofs.Ythnjebpbokmemaa
namespace Go.Proofs.Ythnjebpbokmemaa
open Go.RowKit
set_option linter.unusedVariables false

def set37 : SetM := ⟨2, 4, 4, 4, 9, 1⟩
def litG : List Ev := [⟨1, 0, 0, 8, ⟨#[]⟩, 0, st0⟩, ⟨2, 0, 0, 0, ⟨#[]⟩, 0, st0⟩, ⟨7, 0, 0, 10, ⟨#[]⟩, 0, st0⟩, ⟨1, 0, 0, 13, ⟨#[]⟩, 0, st0⟩]
theorem litG_b1 : boundB set37 litG 1 = true := by decide
theorem litG_t1 : boundT set37 litG 1 = 13 := by decide
theorem litG_b2 : boundB set37 litG 2 = false := by decide
theorem litG_late : lateS set37 litG 1 = [0] := by decide
theorem litG_stops : stopsS set37 litG 1 = false := by decide
theorem litG_closed : closedB litG = true := by decide
set_option maxHeartbeats 1600000 in
theorem setup37_c (w : World) : Calls Try.prog 45 #[] w fun e w' => e = .returned (.agg (setV set37)) ∧ Below w.heap.size w w' := by
  obtain ⟨W, hW⟩ : ∃ W, W = w.alloc (.cells (setV set37) 54) := ⟨_, rfl⟩
  have hL : Below w.heap.size w W := by rw [hW]; exact below_alloc _ _
  have hb : Blk W w.heap.size 54 (setV set37) := by rw [hW]; exact Blk.new _ _ _
  obtain ⟨y0, y1, y2, y3, y4, y5⟩ := hb.six
  have HW := hide hW
  have HL := hide hL
  clear hW hL hb
  go_enter Try.func45, Try.ntmps45
  go_wp2_with fail
  change bodyPost _ _ _ _ _ (w.alloc (.cells (setV set37) 54))
  rw [← HW.out]
  refine bodyPost_ret (v := .agg (setV set37)) (by simp [results, Try.results45, go_sem, y0, y1, y2, y3, y4, y5]) rfl ?_
  exact ⟨rfl, HL.out⟩
set_option maxRecDepth 100000 in
set_option maxHeartbeats 1600000 in
theorem lives37_c (w : World) : Calls Try.prog 29 #[] w fun e w' => e = .returned (.bool true) ∧ Below w.heap.size w w' := by
  obtain ⟨W, hW⟩ : ∃ W, W = w.alloc (.cells (flat encEv litG).toArray 28) := ⟨_, rfl⟩
  have hL : Below w.heap.size w W := by rw [hW]; exact below_alloc _ _
  have hr : Rd W NoBlk (some ⟨w.heap.size, 0, none⟩) (flat encEv litG) := by rw [hW]; exact rd_blkN (Blk.new' rfl) (fun h => h)
  have hx : ∀ x ∈ litG, x.s.size ≤ 100 := by
    intro x hx
    simp [litG] at hx
    rcases hx with rfl | rfl | rfl | rfl <;> decide
  have ht : beginT litG ≤ 9223372036854775807 := by decide
  have b1 := fun (w' : World) (hb : Below W.heap.size W w') => Bound_c NoBlk set37 (some ⟨w.heap.size, 0, none⟩) 4 litG 1 w' (hr.below hb) (by decide) ht (by decide)
  have b2 := fun (w' : World) (hb : Below W.heap.size W w') => Bound_c NoBlk set37 (some ⟨w.heap.size, 0, none⟩) 4 litG 2 w' (hr.below hb) (by decide) ht (by decide)
  have b3 := fun (w' : World) (hb : Below W.heap.size W w') => late_c set37 (some ⟨w.heap.size, 0, none⟩) 4 litG 1 w' (hr.below hb) (by decide) hx (by decide) ht (by decide)
  have b4 := fun (w' : World) (hb : Below W.heap.size W w') => stops_c set37 (some ⟨w.heap.size, 0, none⟩) 4 litG 1 w' (hr.below hb) (by decide) ht (by decide)
  have b5 := fun (w' : World) (hb : Below W.heap.size W w') => closed_c (some ⟨w.heap.size, 0, none⟩) 4 litG w' (hr.below hb) (by decide) (by decide)
  rw [litG_b1, litG_t1] at b1
  rw [litG_b2, boundT_no litG_b2] at b2
  rw [litG_late] at b3
  rw [litG_stops] at b4
  rw [litG_closed] at b5
  have B1 := hide b1
  have B2 := hide b2
  have B3 := hide b3
  have B4 := hide b4
  have B5 := hide b5
  have HW := hide hW
  have HL := hide hL
  clear hW hL hr hx ht b1 b2 b3 b4 b5
  go_enter Try.func29, Try.ntmps29
  go_wp2_with fail
  change Calls _ _ _ (w.alloc (.cells (flat encEv litG).toArray 28)) _
  rw [← HW.out]
  refine (setup37_c _).mono ?_
  rintro e w1 ⟨rfl, hb1⟩
  have HB1 := hide hb1
  clear hb1
  go_wp2_with fail
  refine (B1.out _ HB1.out).mono ?_
  rintro e w2 ⟨rfl, hb2⟩
  have HB2 := hide (HB1.out.trans (hb2.mono HB1.out.size))
  clear hb2
  go_wp2_with fail
  refine (setup37_c _).mono ?_
  rintro e w3 ⟨rfl, hb3⟩
  have HB3 := hide (HB2.out.trans (hb3.mono HB2.out.size))
  clear hb3
  go_wp2_with fail
  refine (B2.out _ HB3.out).mono ?_
  rintro e w4 ⟨rfl, hb4⟩
  have HB4 := hide (HB3.out.trans (hb4.mono HB3.out.size))
  clear hb4
  go_wp2_with fail
  refine (setup37_c _).mono ?_
  rintro e w5 ⟨rfl, hb5⟩
  have HB5 := hide (HB4.out.trans (hb5.mono HB4.out.size))
  clear hb5
  go_wp2_with fail
  refine (B3.out _ HB5.out).mono ?_
  rintro e w6 ⟨hb6, A6, c6, rfl, hr6⟩
  have HB6 := hide (HB5.out.trans (hb6.mono HB5.out.size))
  have hr6' : Rd (w6.alloc (.cells (encI 0).toArray 3)) NoBlk A6 (flat encI [0]) := hr6.below (below_alloc _ _)
  have hr7 : Rd (w6.alloc (.cells (encI 0).toArray 3)) NoBlk (some ⟨w6.heap.size, 0, none⟩) (flat encI [0]) := rd_blkN (Blk.new' rfl) (fun h => h)
  have HS := hide (same04_c NoBlk NoBlk A6 (some ⟨w6.heap.size, 0, none⟩) c6 1 [0] _ hr6' hr7 (by decide))
  have HL6 := hide (below_alloc w6 (.cells (encI 0).toArray 3))
  clear hb6 hr6 hr6' hr7
  go_wp2_with fail
  refine HS.out.mono ?_
  rintro e w7 ⟨rfl, hb7⟩
  have HB7 := hide (HB6.out.trans ((HL6.out.trans (hb7.mono HL6.out.size)).mono HB6.out.size))
  clear hb7
  go_wp2_with fail
  refine (setup37_c _).mono ?_
  rintro e w8 ⟨rfl, hb8⟩
  have HB8 := hide (HB7.out.trans (hb8.mono HB7.out.size))
  clear hb8
  go_wp2_with fail
  refine (B4.out _ HB8.out).mono ?_
  rintro e w9 ⟨rfl, hb9⟩
  have HB9 := hide (HB8.out.trans (hb9.mono HB8.out.size))
  clear hb9
  go_wp2_with fail
  refine (B5.out _ HB9.out).mono ?_
  rintro e w10 ⟨rfl, hb10⟩
  have HB10 := hide (HB9.out.trans (hb10.mono HB9.out.size))
  clear hb10
  go_wp2_with fail
  go_ret
  exact ⟨rfl, HL.out.trans (HB10.out.mono HL.out.size)⟩
end Go.Proofs.Ythnjebpbokmemaa
