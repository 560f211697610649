/- The long scripts of ParseLong, read: plain, by the kernel. No program. Conditions: those of each theorem. -/
import Derived.Test.YtaioaojfdngfdaaGreatDoorPb48
namespace Go.Proofs.YtaioaojfdngfdaaGreatDoor
open Go.RowKit
set_option maxRecDepth 100000
def hd14 : List UInt8 := [115, 99, 114, 105, 112, 116, 32, 97, 32, 110, 101, 118, 101, 114, 32, 51, 10]
def lb14 : List UInt8 := [108, 97, 98, 101, 108, 32, 97, 10, 101, 120, 112, 101, 99, 116, 32, 53, 10]
def doneL : List UInt8 := [100, 111, 110, 101, 10]
def onL : List UInt8 := [111, 110, 32, 34, 120, 34, 32, 97, 10]
def times (n : Nat) (l : List UInt8) : List UInt8 := (List.replicate n l).flatten
theorem times_succ (n : Nat) (l : List UInt8) : times (n + 1) l = times n l ++ l := by
  unfold times
  rw [List.replicate_succ', List.flatten_append]
  simp
theorem times_len (n : Nat) (l : List UInt8) : (times n l).length = n * l.length := by
  unfold times; simp
def opsT (k : Nat) : List UInt8 := hd14 ++ times (190 + k) doneL
def armsT (k : Nat) : List UInt8 := hd14 ++ lb14 ++ times k onL
def sendT (k : Nat) : List UInt8 := hd14 ++ [115, 101, 110, 100, 32, 34] ++ times (246 + k) [120] ++ [34]
def patT (k : Nat) : List UInt8 := hd14 ++ (lb14 ++ [111, 110, 32, 34]) ++ (times (54 + k) [37, 120]).take (54 + k) ++ [34, 32, 97]
def okB (r : ProgM × (Int × Int) × Int) : Bool := decide (r.2.2 = 0)
def isB (r : ProgM × (Int × Int) × Int) (x y e : Int) : Bool := decide (r.2.2 = e) && (decide (r.2.1.1 = x) && decide (r.2.1.2 = y))
theorem opsT_len (k : Nat) : (opsT k).length = 17 + (190 + k) * 5 := by unfold opsT; rw [List.length_append, times_len]; rfl
theorem armsT_len (k : Nat) : (armsT k).length = 34 + k * 9 := by unfold armsT; rw [List.length_append, times_len]; rfl
theorem sendT_len (k : Nat) : (sendT k).length = 24 + (246 + k) := by unfold sendT; simp [times_len, hd14]; omega
theorem patT_len (k : Nat) : (patT k).length = 41 + (54 + k) := by unfold patT; simp [times_len, hd14, lb14]; omega
def opsB (k : Nat) : Bool := if 10 < k then isB (parseM (opsT k)) 202 1 4 else okB (parseM (opsT k))
def sendB (k : Nat) : Bool := if 10 < k then isB (parseM (sendT k)) 2 6 4 else okB (parseM (sendT k))
def patB (k : Nat) : Bool := if 10 < k then isB (parseM (patT k)) 4 4 4 else (okB (parseM (patT k)) == decide (k % 2 = 0))
def armsB (k : Nat) : Bool := if k < 9 then okB (parseM (armsT k)) else isB (parseM (armsT k)) 12 1 4
theorem ops_0 : opsB 0 = true := by decide +kernel
theorem ops_1 : opsB 1 = true := by decide +kernel
theorem ops_2 : opsB 2 = true := by decide +kernel
theorem ops_3 : opsB 3 = true := by decide +kernel
theorem ops_4 : opsB 4 = true := by decide +kernel
theorem ops_5 : opsB 5 = true := by decide +kernel
theorem ops_6 : opsB 6 = true := by decide +kernel
theorem ops_7 : opsB 7 = true := by decide +kernel
theorem ops_8 : opsB 8 = true := by decide +kernel
theorem ops_9 : opsB 9 = true := by decide +kernel
theorem ops_10 : opsB 10 = true := by decide +kernel
theorem ops_11 : opsB 11 = true := by decide +kernel
theorem ops_12 : opsB 12 = true := by decide +kernel
theorem ops_13 : opsB 13 = true := by decide +kernel
theorem ops_14 : opsB 14 = true := by decide +kernel
theorem ops_15 : opsB 15 = true := by decide +kernel
theorem ops_16 : opsB 16 = true := by decide +kernel
theorem ops_17 : opsB 17 = true := by decide +kernel
theorem ops_18 : opsB 18 = true := by decide +kernel
theorem ops_19 : opsB 19 = true := by decide +kernel
theorem ops_20 : opsB 20 = true := by decide +kernel
theorem ops_21 : opsB 21 = true := by decide +kernel
theorem ops_22 : opsB 22 = true := by decide +kernel
theorem ops_23 : opsB 23 = true := by decide +kernel
theorem send_0 : sendB 0 = true := by decide +kernel
theorem send_1 : sendB 1 = true := by decide +kernel
theorem send_2 : sendB 2 = true := by decide +kernel
theorem send_3 : sendB 3 = true := by decide +kernel
theorem send_4 : sendB 4 = true := by decide +kernel
theorem send_5 : sendB 5 = true := by decide +kernel
theorem send_6 : sendB 6 = true := by decide +kernel
theorem send_7 : sendB 7 = true := by decide +kernel
theorem send_8 : sendB 8 = true := by decide +kernel
theorem send_9 : sendB 9 = true := by decide +kernel
theorem send_10 : sendB 10 = true := by decide +kernel
theorem send_11 : sendB 11 = true := by decide +kernel
theorem send_12 : sendB 12 = true := by decide +kernel
theorem send_13 : sendB 13 = true := by decide +kernel
theorem send_14 : sendB 14 = true := by decide +kernel
theorem send_15 : sendB 15 = true := by decide +kernel
theorem send_16 : sendB 16 = true := by decide +kernel
theorem send_17 : sendB 17 = true := by decide +kernel
theorem send_18 : sendB 18 = true := by decide +kernel
theorem send_19 : sendB 19 = true := by decide +kernel
theorem send_20 : sendB 20 = true := by decide +kernel
theorem send_21 : sendB 21 = true := by decide +kernel
theorem send_22 : sendB 22 = true := by decide +kernel
theorem send_23 : sendB 23 = true := by decide +kernel
theorem pat_all : (List.range 24).all patB = true := by decide +kernel
theorem arms_all : (List.range 24).all armsB = true := by decide +kernel
theorem ops_all : ∀ k, k < 24 → opsB k = true
  | 0, _ => ops_0
  | 1, _ => ops_1
  | 2, _ => ops_2
  | 3, _ => ops_3
  | 4, _ => ops_4
  | 5, _ => ops_5
  | 6, _ => ops_6
  | 7, _ => ops_7
  | 8, _ => ops_8
  | 9, _ => ops_9
  | 10, _ => ops_10
  | 11, _ => ops_11
  | 12, _ => ops_12
  | 13, _ => ops_13
  | 14, _ => ops_14
  | 15, _ => ops_15
  | 16, _ => ops_16
  | 17, _ => ops_17
  | 18, _ => ops_18
  | 19, _ => ops_19
  | 20, _ => ops_20
  | 21, _ => ops_21
  | 22, _ => ops_22
  | 23, _ => ops_23
  | k + 24, h => absurd h (by omega)
theorem send_all : ∀ k, k < 24 → sendB k = true
  | 0, _ => send_0
  | 1, _ => send_1
  | 2, _ => send_2
  | 3, _ => send_3
  | 4, _ => send_4
  | 5, _ => send_5
  | 6, _ => send_6
  | 7, _ => send_7
  | 8, _ => send_8
  | 9, _ => send_9
  | 10, _ => send_10
  | 11, _ => send_11
  | 12, _ => send_12
  | 13, _ => send_13
  | 14, _ => send_14
  | 15, _ => send_15
  | 16, _ => send_16
  | 17, _ => send_17
  | 18, _ => send_18
  | 19, _ => send_19
  | 20, _ => send_20
  | 21, _ => send_21
  | 22, _ => send_22
  | 23, _ => send_23
  | k + 24, h => absurd h (by omega)
theorem long_all (k : Nat) (hk : k < 24) : opsB k = true ∧ sendB k = true ∧ patB k = true ∧ armsB k = true :=
  ⟨ops_all k hk, send_all k hk, List.all_eq_true.1 pat_all k (List.mem_range.2 hk), List.all_eq_true.1 arms_all k (List.mem_range.2 hk)⟩
end Go.Proofs.YtaioaojfdngfdaaGreatDoor
