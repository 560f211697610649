/- Parts of a chain of lemmas: Quo2, Name. Conditions: those of each theorem. -/
import Derived.Test.YtdmdohjdmnmabaaGreatDoorQh11
import Derived.Test.YtdmdohjdmnmabaaGreatDoorQh07
import Derived.Test.YtdmdohjdmnmabaaGreatDoorQh05
namespace Go.Proofs.YtdmdohjdmnmabaaGreatDoor
open Go.RowKit
set_option linter.unusedVariables false
set_option linter.unusedSimpArgs false

set_option maxRecDepth 100000 in
set_option maxHeartbeats 6400000 in
theorem Quote_c (s : ByteArray) (w : World) (hlen : 4 * s.size + 8 ≤ 140737488355328) :
 Calls Tryz.prog 63 #[.string s] w fun e w' => e = .returned (.string ⟨(quoteT s.data.toList).toArray⟩) ∧ Below w.heap.size w w' := by
 obtain ⟨W1, hW1⟩ : ∃ W1, W1 = w.alloc (.cells #[.pointer none, .slice none 0 0] 55) := ⟨_, rfl⟩
 obtain ⟨b, hb⟩ : ∃ b, b = w.heap.size := ⟨_, rfl⟩
 have HB1 := hide (show Below b w W1 by rw [hW1, hb]; exact below_alloc _ _)
 have HD1 := hide (show BlAt b b [] W1 by rw [hW1, hb]; exact BldAt.new)
 have HWB := hide (fun (l : List UInt8) (c : UInt8) (n : Int) (w : World) (h : BlAt b b l w) (hn : n = c.toNat) (hlen : l.length + 1 ≤ 140737488355328) => WB_c b b l c n w h hn hlen)
 have HSg := hide (fun (l : List UInt8) (c : UInt8) (w : World) (h : BlAt b b l w) (hlen : l.length + 4 ≤ 140737488355328) => sign_c' b b l c w h hlen)
 have HOut := hide (fun (l : List UInt8) (w : World) (h : BlAt b b l w) => Out_c b b l w h)
 obtain ⟨L, hL⟩ : ∃ L, L = s.data.toList := ⟨_, rfl⟩
 have hLn : L.length = s.size := by rw [hL]; simp
 have HSc := hide (signs_succ L)
 have HSl := hide (show ∀ k, k ≤ s.size → (signsT (L.take k)).length ≤ 4 * s.size from fun k hk => by have := signs_len (L.take k); rw [List.length_take] at this; omega)
 have HAt := hide (show ∀ k (h : k < s.size) (h2 : k < L.length), s[k]'h = L[k]'h2 from fun k h h2 => by subst hL; rfl)
 have HLn := hide hLn
 rw [← hb, ← hL]
 have HW := hide hW1
 have Hb := hide hb
 clear hW1 hb hL hLn
 go_enter Tryz.func63, Tryz.ntmps63
 go_upto_region 2 with fail
 rw [← HW.out, ← Hb.out]
 go_wp2_with fail
 refine (HWB.out [] 34 _ _ HD1.out rfl (by simp)).mono ?_
 rintro e w2 ⟨rfl, hq2⟩
 have HQ2 := hide (show Bo b b (34 :: signsT (L.take 0)) W1 w2 from hq2)
 clear hq2
 go_wp2_with fail
 go_loopw [8] (fun i wr => ∃ k : Nat, k ≤ s.size ∧ i = .int .i64 k ∧ Hid (Bo b b (34 :: signsT (L.take k)) W1 wr)) (fun i _ => s.size - (intOf i).toNat)
 case atStart => exact ⟨0, Nat.zero_le _, rfl, HQ2⟩
 case round =>
  clear HQ2
  obtain ⟨k, hk, rfl, HQ⟩ := hrel
  have hsl := HSl.out k hk
  have w0 : IntKind.i64.wrap ((k : Int) + 1) = (k : Int) + 1 := IntWalk.i64_in _ (by omega)
  by_cases hlt : k < s.size
  case neg =>
   obtain rfl : k = s.size := by omega
   have d1 : decide ((s.size : Int) < (s.size : Int)) = false := by simp
   have d2 : decide (s.size < s.size) = false := by simp
   have e0 : L.take s.size = L := by rw [← HLn.out, List.take_length]
   rw [e0] at HQ hsl
   go_wp2_with fail
   refine (HWB.out _ 34 _ _ HQ.out.1 rfl (by simp; omega)).mono ?_
   rintro e w3 ⟨rfl, hq3⟩
   have HQ3 := hide (HQ.out.trans hq3)
   clear hq3
   go_wp2_with fail
   refine (HOut.out _ _ HQ3.out.1).mono ?_
   rintro e w4 ⟨rfl, hb4, _⟩
   have HB4 := hide (HB1.out.trans (HQ3.out.2.1.trans hb4))
   clear hb4
   go_wp2_with fail
   go_ret
   exact ⟨rfl, HB4.out⟩
  case pos =>
   have d1 : decide ((k : Int) < (s.size : Int)) = true := by simp; exact hlt
   have d2 : decide (k < s.size) = true := by simp; exact hlt
   have j1 : (0 : Int) ≤ (k : Int) := by omega
   have j2 : (k : Int) < (s.size : Int) := by omega
   have HC := hide (HSc.out k (by rw [HLn.out]; exact hlt))
   have HA := hide (HAt.out k hlt (by rw [HLn.out]; exact hlt))
   go_wp2_with fail
   refine (HSg.out _ _ _ HQ.out.1 (by simp; omega)).mono ?_
   rintro e w3 ⟨rfl, hq3⟩
   have HQ3 := hide (HQ.out.trans hq3)
   clear hq3
   go_wp2_with fail
   go_roundw
   case rel => exact ⟨k + 1, by omega, by go_num, by rw [HC.out, ← HA.out]; exact HQ3⟩
   case measure => simp [intOf]; omega
end Go.Proofs.YtdmdohjdmnmabaaGreatDoor
namespace Go.Proofs.YtdmdohjdmnmabaaGreatDoor
open Go.RowKit
set_option linter.unusedVariables false

theorem ba_nil {s : ByteArray} (h : s.size = 0) : s.toList = [] := by
 rw [ByteArray.toList_eq]
 exact List.eq_nil_of_length_eq_zero (by rw [ba_size]; exact h)
theorem ba_some {s : ByteArray} (h : s.size ≠ 0) : s.toList.isEmpty = false := by
 rw [ByteArray.toList_eq]
 cases hq : s.data.toList with
 | nil => exact absurd (by rw [← ba_size, hq]; rfl) h
 | cons a r => rfl
theorem ba_get (s : ByteArray) (k : Nat) (h : k < s.size) : s.data.toList[k]? = some s[k] := by
 rw [List.getElem?_eq_getElem (by rw [ba_size]; exact h)]
 rfl
theorem name_no {s : ByteArray} {k : Nat} (h : k < s.size) (hc : okC s[k] = false) : nameB s = false := by
 unfold nameB nameL
 have hm : s[k] ∈ s.data.toList := List.mem_of_getElem? (ba_get s k h)
 have : s.data.toList.all okC = false := by
  cases hq : s.data.toList.all okC with
  | false => rfl
  | true => rw [List.all_eq_true] at hq; rw [hq _ hm] at hc; cases hc
 rw [this]; simp
theorem name_first {s : ByteArray} (h : 0 < s.size) (hc : s[0].toNat < 97) : nameB s = false := by
 unfold nameB nameL
 have e : s.data.toList.getD 0 0 = s[0] := by rw [List.getD_eq_getElem?_getD, ba_get s 0 h]; rfl
 rw [e]
 have : decide (97 ≤ s[0].toNat) = false := by simp; omega
 rw [this]; simp
theorem name_size {s : ByteArray} (h : s.size = 0 ∨ 16 < s.size) : nameB s = false := by
 unfold nameB nameL
 rcases h with h | h
 ·have e : s.data.toList = [] := List.eq_nil_of_length_eq_zero (by rw [ba_size]; exact h)
  rw [e]; rfl
 ·have : decide (s.data.toList.length ≤ 16) = false := by rw [ba_size]; simp; omega
  rw [this]; simp
theorem name_yes {s : ByteArray} (h0 : 0 < s.size) (h16 : s.size ≤ 16) (hf : 97 ≤ s[0].toNat) (h : ∀ k, (hk : k < s.size) → okC s[k] = true) : nameB s = true := by
 unfold nameB nameL
 have e : s.data.toList.getD 0 0 = s[0] := by rw [List.getD_eq_getElem?_getD, ba_get s 0 h0]; rfl
 have hne : s.data.toList ≠ [] := fun e => by have := ba_size s; rw [e] at this; simp at this; omega
 have hall : s.data.toList.all okC = true := by
  rw [List.all_eq_true]
  intro x hx
  obtain ⟨k, hk, rfl⟩ := List.mem_iff_getElem.1 hx
  exact h k (by rw [← ba_size]; exact hk)
 rw [e, hall]
 simp [hne, hf, h16]
theorem okC_t {c : UInt8} (h : 97 ≤ c.toNat ∧ c.toNat ≤ 122 ∨ 48 ≤ c.toNat ∧ c.toNat ≤ 57) : okC c = true := by
 unfold okC; rcases h with ⟨a, b⟩ | ⟨a, b⟩ <;> simp [a, b]
theorem okC_f {c : UInt8} (h : ¬ (97 ≤ c.toNat ∧ c.toNat ≤ 122 ∨ 48 ≤ c.toNat ∧ c.toNat ≤ 57)) : okC c = false := by
 cases hq : okC c with
 | false => rfl
 | true =>
  exfalso
  apply h
  unfold okC at hq
  simp at hq
  omega

set_option maxRecDepth 100000 in
set_option maxHeartbeats 1600000 in
theorem Name_c (s : ByteArray) (w : World) (hs : s.size ≤ 9223372036854775807) :
 Calls Tryz.prog 82 #[.string s] w fun e w' => e = .returned (.bool (nameB s)) ∧ w = w' := by
 by_cases h0 : s.size = 0
 ·have H := hide (name_size (Or.inl h0))
  have e1 := ba_nil h0
  have e2 : s.toList.isEmpty = true := by rw [e1]; rfl
  clear h0
  go_enter Tryz.func82, Tryz.ntmps82
  go_wp2
  go_ret
  exact ⟨by rw [H.out]; rfl, rfl⟩
 ·have e2 := ba_some h0
  by_cases h16 : 16 < s.size
  ·have H := hide (name_size (Or.inr h16))
   have d1 : decide ((16 : Int) < (s.size : Int)) = true := by simp; omega
   have d2 : decide (16 < s.size) = true := by simp; omega
   go_enter Tryz.func82, Tryz.ntmps82
   go_wp2
   go_ret
   exact ⟨by rw [H.out]; rfl, rfl⟩
  ·have d1 : decide ((16 : Int) < (s.size : Int)) = false := by simp; omega
   have d2 : decide (16 < s.size) = false := by simp; omega
   have hp : 0 < s.size := by omega
   have hp2 : (0 : Int) < (s.size : Int) := by omega
   by_cases hf : s[0].toNat < 97
   ·have H := hide (name_first hp hf)
    have d3 : decide ((s[0].toNat : Int) < 97) = true := by simp; omega
    have d4 : decide (s[0].toNat < 97) = true := by simp; omega
    go_enter Tryz.func82, Tryz.ntmps82
    go_wp2
    go_ret
    exact ⟨by rw [H.out]; rfl, rfl⟩
   ·have H := hide (fun h => name_yes hp (by omega) (by omega) h)
    have d3 : decide ((s[0].toNat : Int) < 97) = false := by simp; omega
    have d4 : decide (s[0].toNat < 97) = false := by simp; omega
    go_enter Tryz.func82, Tryz.ntmps82
    go_wp2
    go_loop [3, 18] (fun _ i => ∃ k : Nat, k ≤ s.size ∧ i = .int .i64 k ∧ Hid (∀ j, (hj : j < s.size) → j < k → okC s[j] = true)) (fun _ i => s.size - (intOf i).toNat)
    case atStart => exact ⟨0, Nat.zero_le _, rfl, hide (fun j hj h => by omega)⟩
    case round =>
     obtain ⟨k, hk, rfl, hall⟩ := hrel
     by_cases hlt : k < s.size
     ·have HF := hide (fun h => name_no hlt (okC_f h))
      have HT := hide (show (97 ≤ s[k].toNat ∧ s[k].toNat ≤ 122 ∨ 48 ≤ s[k].toNat ∧ s[k].toNat ≤ 57) → okC s[k] = true from okC_t)
      have hb : s[k].toNat < 256 := UInt8.toNat_lt _
      go_wp2
      all_goals first
       | (go_ret
          exact ⟨by rw [HF.out (by omega)]; rfl, rfl⟩)
       | (go_round
          case rel => exact ⟨k + 1, by omega, by go_num, hide (fun j hj h => by
           rcases Nat.lt_or_ge j k with hjk | hjk
           ·exact hall.out j hj hjk
           ·obtain rfl : j = k := by omega
            exact HT.out (by omega))⟩
          case measure => simp [intOf]; omega)
     ·go_wp2
      go_ret
      exact ⟨by rw [H.out (fun j hj => hall.out j hj (by omega))]; rfl, rfl⟩
end Go.Proofs.YtdmdohjdmnmabaaGreatDoor
