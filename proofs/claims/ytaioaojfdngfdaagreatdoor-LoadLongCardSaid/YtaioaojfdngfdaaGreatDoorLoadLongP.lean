/- The long texts of LoadLong, loaded: plain, by the kernel. No program. Conditions: those of each theorem. -/
import Derived.Test.YtaioaojfdngfdaaGreatDoorNb47
namespace Go.Proofs.YtaioaojfdngfdaaGreatDoor
open Go.RowKit
set_option maxRecDepth 100000
def scrT (i : Nat) : List UInt8 := [115, 99, 114, 105, 112, 116, 32] ++ [if i % 2 = 0 then 97 else 98] ++ [32, 57, 32, 48, 10]
def manyT : Nat → List UInt8
  | 0 => []
  | n + 1 => manyT n ++ scrT n
theorem manyT_len : ∀ n, (manyT n).length = n * 13
  | 0 => rfl
  | n + 1 => by
    show (manyT n ++ scrT n).length = _
    rw [List.length_append, manyT_len n]
    show n * 13 + 13 = _
    omega
def manyB (k : Nat) : Bool :=
  if 4 < k then decide ((loadM (manyT (60 + k))).2 = 4) && decide ((loadM (manyT (60 + k))).1.length = 0)
  else decide ((loadM (manyT (60 + k))).2 = 0) && decide (rightM (loadM (manyT (60 + k))).1 = 2)
theorem many_0 : manyB 0 = true := by decide +kernel
theorem many_1 : manyB 1 = true := by decide +kernel
theorem many_2 : manyB 2 = true := by decide +kernel
theorem many_3 : manyB 3 = true := by decide +kernel
theorem many_4 : manyB 4 = true := by decide +kernel
theorem many_5 : manyB 5 = true := by decide +kernel
theorem many_6 : manyB 6 = true := by decide +kernel
theorem many_7 : manyB 7 = true := by decide +kernel
theorem many_8 : manyB 8 = true := by decide +kernel
theorem many_9 : manyB 9 = true := by decide +kernel
theorem many_10 : manyB 10 = true := by decide +kernel
theorem many_11 : manyB 11 = true := by decide +kernel
theorem many_all : ∀ k, k < 12 → manyB k = true
  | 0, _ => many_0
  | 1, _ => many_1
  | 2, _ => many_2
  | 3, _ => many_3
  | 4, _ => many_4
  | 5, _ => many_5
  | 6, _ => many_6
  | 7, _ => many_7
  | 8, _ => many_8
  | 9, _ => many_9
  | 10, _ => many_10
  | 11, _ => many_11
  | k + 12, h => absurd h (by omega)
def hashT (n : Nat) : List UInt8 := 35 :: List.replicate n 120
theorem lines_one : ∀ (r cur : List UInt8), (∀ b ∈ r, b ≠ 10) → linesGo r cur = [cur ++ r]
  | [], cur, _ => by unfold linesGo; simp
  | b :: r, cur, h => by
    unfold linesGo
    rw [if_neg (h b (List.mem_cons_self ..)), lines_one r _ (fun x hx => h x (List.mem_cons_of_mem _ hx)), List.append_assoc]
    rfl
theorem load_hash (n : Nat) : loadM (hashT n) = if 40000 < n + 1 then ([], 4) else ([], 0) := by
  have hl : (hashT n).length = n + 1 := by simp [hashT]
  have h1 : linesM (hashT n) = [hashT n] := by
    unfold linesM
    rw [lines_one]
    · rfl
    · intro b hb
      rcases List.mem_cons.1 hb with rfl | hb
      · decide
      · rw [List.mem_replicate] at hb
        rw [hb.2]; decide
  have h2 : headB (hashT n) = false := by
    unfold headB hashT
    rw [Bool.or_eq_false_iff, decide_eq_false_iff_not, decide_eq_false_iff_not]
    constructor
    · intro h; injection h with h; exact absurd h (by decide)
    · rw [List.take_succ_cons]; intro h; injection h with h; exact absurd h (by decide)
  have h3 : idleB (hashT n) = true := by simp [idleB, hashT, atB]
  have h4 : cutM (hashT n) = [] := by
    unfold cutM
    rw [h1]
    show dropP (if headB (hashT n) = true then _ else cutGo [] 1 ⟨1, [] ++ [hashT n]⟩) = []
    rw [if_neg (by rw [h2]; decide)]
    show dropP [⟨1, [hashT n]⟩] = []
    rw [drop_neg]
    show ¬ saysL [hashT n] = true
    unfold saysL
    simp [h3]
  unfold loadM
  rw [hl, h4]
  rfl
theorem hash_next (n : Nat) : hashT n ++ [120] = hashT (n + 1) := by
  unfold hashT
  rw [List.cons_append, List.replicate_succ']
theorem hash_len (n : Nat) : (hashT n).length = n + 1 := by simp [hashT]
theorem long17_q (k : Nat) (hk : k < 12) :
    (4 < k → (loadM (manyT (60 + k))).2 = 4 ∧ (loadM (manyT (60 + k))).1.length = 0) ∧ (¬ 4 < k → (loadM (manyT (60 + k))).2 = 0 ∧ rightM (loadM (manyT (60 + k))).1 = 2) ∧
    (loadM (hashT (39993 + k))).1.length = 0 ∧ (k < 7 → (loadM (hashT (39993 + k))).2 = 0) ∧ (¬ k < 7 → (loadM (hashT (39993 + k))).2 = 4) := by
  have h := many_all k hk
  unfold manyB at h
  rw [load_hash]
  refine ⟨fun h4 => ?_, fun h4 => ?_, ?_, fun h7 => ?_, fun h7 => ?_⟩
  · rw [if_pos h4, Bool.and_eq_true, decide_eq_true_eq, decide_eq_true_eq] at h; exact h
  · rw [if_neg h4, Bool.and_eq_true, decide_eq_true_eq, decide_eq_true_eq] at h; exact h
  · split <;> rfl
  · rw [if_neg (by omega)]
  · rw [if_pos (by omega)]
end Go.Proofs.YtaioaojfdngfdaaGreatDoor
