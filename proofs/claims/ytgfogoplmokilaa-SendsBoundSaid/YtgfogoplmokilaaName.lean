/- Names: lex.Name, and the document's. Conditions: those of each theorem. -/
import Derived.Test.YtgfogoplmokilaaStr
import Derived.Test.YtgfogoplmokilaaFew
namespace Go.Proofs.Ytgfogoplmokilaa
open Go.RowKit
set_option linter.unusedVariables false

theorem ba_nil {s : ByteArray} (h : s.size = 0) : s.toList = [] := by
  rw [ByteArray.toList_eq]
  exact List.eq_nil_of_length_eq_zero (by rw [ba_size]; exact h)
theorem ba_some {s : ByteArray} (h : s.size ≠ 0) : s.toList.isEmpty = false := by
  rw [ByteArray.toList_eq]
  cases hq : s.data.toList with
  | nil => exact absurd (by rw [← ba_size, hq]; rfl) h
  | cons a r => rfl
theorem ba_get (s : ByteArray) (k : Nat) (h : k < s.size) : s.data.toList[k]? = some s[k] := by
  rw [List.getElem?_eq_getElem (by rw [ba_size]; exact h)]
  rfl
theorem name_no {s : ByteArray} {k : Nat} (h : k < s.size) (hc : okC s[k] = false) : nameB s = false := by
  unfold nameB nameL
  have hm : s[k] ∈ s.data.toList := List.mem_of_getElem? (ba_get s k h)
  have : s.data.toList.all okC = false := by
    cases hq : s.data.toList.all okC with
    | false => rfl
    | true => rw [List.all_eq_true] at hq; rw [hq _ hm] at hc; cases hc
  rw [this]; simp
theorem name_first {s : ByteArray} (h : 0 < s.size) (hc : s[0].toNat < 97) : nameB s = false := by
  unfold nameB nameL
  have e : s.data.toList.getD 0 0 = s[0] := by rw [List.getD_eq_getElem?_getD, ba_get s 0 h]; rfl
  rw [e]
  have : decide (97 ≤ s[0].toNat) = false := by simp; omega
  rw [this]; simp
theorem name_size {s : ByteArray} (h : s.size = 0 ∨ 16 < s.size) : nameB s = false := by
  unfold nameB nameL
  rcases h with h | h
  · have e : s.data.toList = [] := List.eq_nil_of_length_eq_zero (by rw [ba_size]; exact h)
    rw [e]; rfl
  · have : decide (s.data.toList.length ≤ 16) = false := by rw [ba_size]; simp; omega
    rw [this]; simp
theorem name_yes {s : ByteArray} (h0 : 0 < s.size) (h16 : s.size ≤ 16) (hf : 97 ≤ s[0].toNat) (h : ∀ k, (hk : k < s.size) → okC s[k] = true) : nameB s = true := by
  unfold nameB nameL
  have e : s.data.toList.getD 0 0 = s[0] := by rw [List.getD_eq_getElem?_getD, ba_get s 0 h0]; rfl
  have hne : s.data.toList ≠ [] := fun e => by have := ba_size s; rw [e] at this; simp at this; omega
  have hall : s.data.toList.all okC = true := by
    rw [List.all_eq_true]
    intro x hx
    obtain ⟨k, hk, rfl⟩ := List.mem_iff_getElem.1 hx
    exact h k (by rw [← ba_size]; exact hk)
  rw [e, hall]
  simp [hne, hf, h16]
theorem okC_t {c : UInt8} (h : 97 ≤ c.toNat ∧ c.toNat ≤ 122 ∨ 48 ≤ c.toNat ∧ c.toNat ≤ 57) : okC c = true := by
  unfold okC; rcases h with ⟨a, b⟩ | ⟨a, b⟩ <;> simp [a, b]
theorem okC_f {c : UInt8} (h : ¬ (97 ≤ c.toNat ∧ c.toNat ≤ 122 ∨ 48 ≤ c.toNat ∧ c.toNat ≤ 57)) : okC c = false := by
  cases hq : okC c with
  | false => rfl
  | true =>
    exfalso
    apply h
    unfold okC at hq
    simp at hq
    omega

set_option maxRecDepth 100000 in
set_option maxHeartbeats 1600000 in
theorem Name_c (s : ByteArray) (w : World) (hs : s.size ≤ 9223372036854775807) :
    Calls Try.prog 107 #[.string s] w fun e w' => e = .returned (.bool (nameB s)) ∧ w = w' := by
  by_cases h0 : s.size = 0
  · have H := hide (name_size (Or.inl h0))
    have e1 := ba_nil h0
    have e2 : s.toList.isEmpty = true := by rw [e1]; rfl
    clear h0
    go_enter Try.func107, Try.ntmps107
    go_wp2
    go_ret
    exact ⟨by rw [H.out]; rfl, rfl⟩
  · have e2 := ba_some h0
    by_cases h16 : 16 < s.size
    · have H := hide (name_size (Or.inr h16))
      have d1 : decide ((16 : Int) < (s.size : Int)) = true := by simp; omega
      have d2 : decide (16 < s.size) = true := by simp; omega
      go_enter Try.func107, Try.ntmps107
      go_wp2
      go_ret
      exact ⟨by rw [H.out]; rfl, rfl⟩
    · have d1 : decide ((16 : Int) < (s.size : Int)) = false := by simp; omega
      have d2 : decide (16 < s.size) = false := by simp; omega
      have hp : 0 < s.size := by omega
      have hp2 : (0 : Int) < (s.size : Int) := by omega
      by_cases hf : s[0].toNat < 97
      · have H := hide (name_first hp hf)
        have d3 : decide ((s[0].toNat : Int) < 97) = true := by simp; omega
        have d4 : decide (s[0].toNat < 97) = true := by simp; omega
        go_enter Try.func107, Try.ntmps107
        go_wp2
        go_ret
        exact ⟨by rw [H.out]; rfl, rfl⟩
      · have H := hide (fun h => name_yes hp (by omega) (by omega) h)
        have d3 : decide ((s[0].toNat : Int) < 97) = false := by simp; omega
        have d4 : decide (s[0].toNat < 97) = false := by simp; omega
        go_enter Try.func107, Try.ntmps107
        go_wp2
        go_loop [3, 18] (fun _ i => ∃ k : Nat, k ≤ s.size ∧ i = .int .i64 k ∧ Hid (∀ j, (hj : j < s.size) → j < k → okC s[j] = true)) (fun _ i => s.size - (intOf i).toNat)
        case atStart => exact ⟨0, Nat.zero_le _, rfl, hide (fun j hj h => by omega)⟩
        case round =>
          obtain ⟨k, hk, rfl, hall⟩ := hrel
          by_cases hlt : k < s.size
          · have HF := hide (fun h => name_no hlt (okC_f h))
            have HT := hide (show (97 ≤ s[k].toNat ∧ s[k].toNat ≤ 122 ∨ 48 ≤ s[k].toNat ∧ s[k].toNat ≤ 57) → okC s[k] = true from okC_t)
            have hb : s[k].toNat < 256 := UInt8.toNat_lt _
            go_wp2
            all_goals first
              | (go_ret
                 exact ⟨by rw [HF.out (by omega)]; rfl, rfl⟩)
              | (go_round
                 case rel => exact ⟨k + 1, by omega, by go_num, hide (fun j hj h => by
                   rcases Nat.lt_or_ge j k with hjk | hjk
                   · exact hall.out j hj hjk
                   · obtain rfl : j = k := by omega
                     exact HT.out (by omega))⟩
                 case measure => simp [intOf]; omega)
          · go_wp2
            go_ret
            exact ⟨by rw [H.out (fun j hj => hall.out j hj (by omega))]; rfl, rfl⟩
end Go.Proofs.Ytgfogoplmokilaa
