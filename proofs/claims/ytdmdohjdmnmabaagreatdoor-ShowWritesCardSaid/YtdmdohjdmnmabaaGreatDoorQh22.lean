/- Parts of a chain of lemmas: Prg2, ExpP. Conditions: those of each theorem. -/
import Derived.Test.YtdmdohjdmnmabaaGreatDoorQh21
import Derived.Laws.StructEq
import Derived.Test.YtdmdohjdmnmabaaGreatDoorQh10
import Derived.Test.YtdmdohjdmnmabaaGreatDoorQh12
namespace Go.Proofs.YtdmdohjdmnmabaaGreatDoor
open Go.RowKit
set_option linter.unusedVariables false
set_option linter.unusedSimpArgs false

def armAt (l : List ArmM) (k : Nat) : ArmM := l.getD k ⟨⟨#[]⟩, 0⟩
theorem armAt_some {l : List ArmM} {k : Nat} (hk : k < l.length) : l[k]? = some (armAt l k) := by simp [armAt, List.getD, hk]
theorem arm_cells {w : World} {M : Nat → Prop} {A : Option Addr} {l : List ArmM} (hr : Rd w M A (flat encArm l)) (k : Nat) (hk : k < l.length) : ∃ b o, A = some ⟨b, o, none⟩ ∧ b < w.heap.size ∧
 w.cell? ⟨b, o + k * 2, none⟩ = some (.string (armAt l k).pat) ∧ w.cell? ⟨b, o + k * 2 + 1, none⟩ = some (.int .i64 (armAt l k).to) := by
 obtain ⟨b, o, hA, _, hb, hc⟩ := flat_cells encArm_len hr k _ (armAt_some hk) (by omega)
 exact ⟨b, o, hA, hb, hc 0 (by omega), hc 1 (by omega)⟩
theorem below_drN {B : Nat} {w0 w : World} (h : Below B w0 w) (n : Nat) : Below B w0 (w.drewN n) := ⟨h.os, h.tape, h.output, h.size, h.block⟩
set_option maxRecDepth 100000 in
theorem eq_arm (s : ByteArray) (g : Int) (w : World) : Sem.run Tryz.prog (Op.equalIn 10000 65 (.agg #[.string s, .int .i64 g]) (.agg #[.string s, .int .i64 g])) w = .ok true w := by
 refine (run_equalIn_struct (P := Tryz.prog) w 9999 65 _ _ (by kernel_rfl) (by kernel_rfl)).trans ?_
 simp [go_sem, Op.eqFields]
set_option maxRecDepth 100000 in
set_option maxHeartbeats 1600000 in
theorem Equal_self (A : Option Addr) (c : Nat) (l : List ArmM) (w : World) (hr : Rd w NoBlk A (flat encArm l)) (hn : l.length ≤ maxLen) :
 Calls Tryz.prog 142 #[.slice A l.length c, .slice A l.length c] w fun e w' => e = .returned (.bool true) ∧ Below w.heap.size w w' := by
 have hn' : l.length ≤ 9223372036854775807 := hn
 have Hc := hide (fun k hk => arm_cells hr k hk)
 obtain ⟨n, hnl⟩ : ∃ n, n = l.length := ⟨_, rfl⟩
 rw [← hnl] at hn' ⊢
 have Hn := hide hnl
 have HE := @eq_arm
 have r1 : (n != n) = false := by simp
 have r2 : ((n : Int) != (n : Int)) = false := by simp
 clear hr hn hnl
 go_enter Tryz.func142, Tryz.ntmps142
 go_wp2_with fail
 go_loopw [13] (fun i wr => ∃ k : Nat, k ≤ n ∧ i = .int .i64 k ∧ Hid (Below w.heap.size w wr)) (fun i _ => n - (intOf i).toNat)
 case atStart => exact ⟨0, Nat.zero_le _, rfl, hide (Below.refl _ _)⟩
 case round =>
  obtain ⟨k, hk, rfl, hbel⟩ := hrel
  by_cases hlt : k < n
  ·obtain ⟨b, o, rfl, hb, g0, g1⟩ := Hc.out k (by rw [← Hn.out]; exact hlt)
   replace g0 := bkeepL hbel.out hb g0
   replace g1 := bkeepL hbel.out hb g1
   obtain ⟨x, hx⟩ : ∃ x, x = armAt l k := ⟨_, rfl⟩
   rw [← hx] at g0 g1
   clear hx
   obtain ⟨xp, xt⟩ := x
   have j1 : (0 : Int) ≤ (k : Int) := by omega
   have j2 : (k : Int) < (n : Int) := by omega
   have d1 : decide ((k : Int) < (n : Int)) = true := by simp; exact hlt
   have d2 : decide (k < n) = true := by simp; exact hlt
   have w1 : IntKind.i64.wrap ((k : Int) + 1) = (k : Int) + 1 := IntWalk.i64_in _ (by omega)
   go_upto_region 6 with fail
   go_quiet (fail)
   go_wp2_with fail
   go_roundw
   case rel => exact ⟨k + 1, by omega, by go_num, hide (below_drN hbel.out _)⟩
   case measure => simp [intOf]; omega
  ·obtain rfl : k = n := by omega
   have d1 : decide ((k : Int) < (k : Int)) = false := by simp
   have d2 : decide (k < k) = false := by simp
   go_wp2_with fail
   go_ret
   exact ⟨rfl, hbel.out⟩
set_option maxRecDepth 100000 in
set_option maxHeartbeats 1600000 in
theorem Equal_none (A : Option Addr) (n c : Nat) (w : World) :
 Calls Tryz.prog 142 #[.slice A n c, .slice none 0 0] w fun e w' => e = .returned (.bool (decide (n = 0))) ∧ Below w.heap.size w w' := by
 by_cases h : n = 0
 ·subst h
  go_enter Tryz.func142, Tryz.ntmps142
  go_wp2_with fail
  go_loopw [13] (fun i wr => i = .int .i64 0 ∧ wr = w) (fun _ _ => 0)
  case atStart => exact ⟨rfl, rfl⟩
  case round =>
   obtain ⟨rfl, rfl⟩ := hrel
   go_wp2_with fail
   go_ret
   exact ⟨rfl, Below.refl _ _⟩
 ·have r1 : ((n : Int) != 0) = true := by simp; exact h
  have r2 : ¬ n = 0 := h
  go_enter Tryz.func142, Tryz.ntmps142
  go_wp2_with fail
  go_ret
  exact ⟨by rw [decide_eq_false r2]; rfl, Below.refl _ _⟩

theorem str_nil {t : ByteArray} (h : t.size = 0) : t = ⟨#[]⟩ := by
 obtain ⟨⟨l⟩⟩ := t
 have : l.length = 0 := h
 rw [List.eq_nil_of_length_eq_zero this]
theorem str_some {t : ByteArray} (h : ¬ t.size = 0) : t.toList.isEmpty = false := by
 rw [ByteArray.toList_eq]
 cases hl : t.data.toList with
 | nil => exact absurd (by rw [← ba_size, hl]; rfl) h
 | cons c r => rfl
theorem str_e : (⟨#[]⟩ : ByteArray) = ByteArray.empty := rfl
set_option maxRecDepth 100000 in
set_option maxHeartbeats 6400000 in
theorem sameOp_c (k : Int) (t : ByteArray) (n gt : Int) (A : Option Addr) (l : List ArmM) (c : Nat) (x y : Int) (w : World) (hr : Rd w NoBlk A (flat encArm l)) (hn : l.length ≤ maxLen) :
 Calls Tryz.prog 110 #[.agg #[.int .i64 k, .string t, .int .i64 n, .int .i64 gt, .slice A l.length c, .int .i64 x, .int .i64 y], .agg (bareV k t n gt A l.length c x y)] w fun e w' =>
  e = .returned (.bool (bareB ⟨k, t, n, gt, l, x, y⟩)) ∧ Below w.heap.size w w' := by
 have HS := hide (fun (w' : World) (h : Rd w' NoBlk A (flat encArm l)) => Equal_self A c l w' h hn)
 have HN := hide (fun (w' : World) => Equal_none A l.length c w')
 have HR := hide hr
 unfold bareV opV bareB
 simp only
 obtain ⟨m, hm⟩ : ∃ m, m = l.length := ⟨_, rfl⟩
 rw [← hm] at HS HN ⊢
 clear hr hn hm
 by_cases h1 : k = 1
 ·subst h1
  by_cases hn : n = 0
  ·subst hn
   by_cases hgt : gt = 0
   ·subst hgt
    by_cases hx : x = 0
    ·subst hx
     by_cases hy : y = 0
     ·subst hy
      go_enter Tryz.func110, Tryz.ntmps110
      go_wp2_with fail
      refine (HN.out _).mono ?_
      rintro e w2 ⟨rfl, hb2⟩
      go_wp2_with fail
      go_ret
      exact ⟨by show Ending.returned (.bool (decide (m = 0))) = _; simp [str_e, *], ((below_alloc _ _).alloc (by simp) _).trans (hb2.mono (by simp <;> omega))⟩
     ·have q1 : (y == 0) = false := by simp [hy]
      go_enter Tryz.func110, Tryz.ntmps110
      go_wp2_with fail
      go_ret
      exact ⟨by simp [str_e, *], (below_alloc _ _).alloc (by simp) _⟩
    ·have q1 : (x == 0) = false := by simp [hx]
     go_enter Tryz.func110, Tryz.ntmps110
     go_wp2_with fail
     go_ret
     exact ⟨by simp [str_e, *], (below_alloc _ _).alloc (by simp) _⟩
   ·have q1 : (gt == 0) = false := by simp [hgt]
    go_enter Tryz.func110, Tryz.ntmps110
    go_wp2_with fail
    go_ret
    exact ⟨by simp [str_e, *], (below_alloc _ _).alloc (by simp) _⟩
  ·have q1 : (n == 0) = false := by simp [hn]
   go_enter Tryz.func110, Tryz.ntmps110
   go_wp2_with fail
   go_ret
   exact ⟨by simp [str_e, *], (below_alloc _ _).alloc (by simp) _⟩
 by_cases h2 : k = 2
 ·subst h2
  by_cases ht : t.size = 0
  ·obtain rfl := str_nil ht
   have Hx := hide ht
   clear ht Hx
   by_cases hgt : gt = 0
   ·subst hgt
    go_enter Tryz.func110, Tryz.ntmps110
    go_wp2_with fail
    refine (HS.out _ (HR.out.below ((below_alloc _ _).alloc (by simp) _))).mono ?_
    rintro e w2 ⟨rfl, hb2⟩
    go_wp2_with fail
    go_ret
    exact ⟨by show Ending.returned (.bool (true)) = _; simp [str_e, *], ((below_alloc _ _).alloc (by simp) _).trans (hb2.mono (by simp <;> omega))⟩
   ·have q1 : (gt == 0) = false := by simp [hgt]
    go_enter Tryz.func110, Tryz.ntmps110
    go_wp2_with fail
    go_ret
    exact ⟨by simp [str_e, *], (below_alloc _ _).alloc (by simp) _⟩
  ·have q1 := str_some ht
   go_enter Tryz.func110, Tryz.ntmps110
   go_wp2_with fail
   go_ret
   exact ⟨by simp [str_e, *], (below_alloc _ _).alloc (by simp) _⟩
 by_cases h3 : k = 3
 ·subst h3
  by_cases ht : t.size = 0
  ·obtain rfl := str_nil ht
   have Hx := hide ht
   clear ht Hx
   by_cases hn : n = 0
   ·subst hn
    by_cases hx : x = 0
    ·subst hx
     by_cases hy : y = 0
     ·subst hy
      go_enter Tryz.func110, Tryz.ntmps110
      go_wp2_with fail
      refine (HN.out _).mono ?_
      rintro e w2 ⟨rfl, hb2⟩
      go_wp2_with fail
      go_ret
      exact ⟨by show Ending.returned (.bool (decide (m = 0))) = _; simp [str_e, *], ((below_alloc _ _).alloc (by simp) _).trans (hb2.mono (by simp <;> omega))⟩
     ·have q1 : (y == 0) = false := by simp [hy]
      go_enter Tryz.func110, Tryz.ntmps110
      go_wp2_with fail
      go_ret
      exact ⟨by simp [str_e, *], (below_alloc _ _).alloc (by simp) _⟩
    ·have q1 : (x == 0) = false := by simp [hx]
     go_enter Tryz.func110, Tryz.ntmps110
     go_wp2_with fail
     go_ret
     exact ⟨by simp [str_e, *], (below_alloc _ _).alloc (by simp) _⟩
   ·have q1 : (n == 0) = false := by simp [hn]
    go_enter Tryz.func110, Tryz.ntmps110
    go_wp2_with fail
    go_ret
    exact ⟨by simp [str_e, *], (below_alloc _ _).alloc (by simp) _⟩
  ·have q1 := str_some ht
   go_enter Tryz.func110, Tryz.ntmps110
   go_wp2_with fail
   go_ret
   exact ⟨by simp [str_e, *], (below_alloc _ _).alloc (by simp) _⟩
 by_cases h4 : k = 4
 ·subst h4
  by_cases ht : t.size = 0
  ·obtain rfl := str_nil ht
   have Hx := hide ht
   clear ht Hx
   by_cases hgt : gt = 0
   ·subst hgt
    by_cases hx : x = 0
    ·subst hx
     by_cases hy : y = 0
     ·subst hy
      go_enter Tryz.func110, Tryz.ntmps110
      go_wp2_with fail
      refine (HN.out _).mono ?_
      rintro e w2 ⟨rfl, hb2⟩
      go_wp2_with fail
      go_ret
      exact ⟨by show Ending.returned (.bool (decide (m = 0))) = _; simp [str_e, *], ((below_alloc _ _).alloc (by simp) _).trans (hb2.mono (by simp <;> omega))⟩
     ·have q1 : (y == 0) = false := by simp [hy]
      go_enter Tryz.func110, Tryz.ntmps110
      go_wp2_with fail
      go_ret
      exact ⟨by simp [str_e, *], (below_alloc _ _).alloc (by simp) _⟩
    ·have q1 : (x == 0) = false := by simp [hx]
     go_enter Tryz.func110, Tryz.ntmps110
     go_wp2_with fail
     go_ret
     exact ⟨by simp [str_e, *], (below_alloc _ _).alloc (by simp) _⟩
   ·have q1 : (gt == 0) = false := by simp [hgt]
    go_enter Tryz.func110, Tryz.ntmps110
    go_wp2_with fail
    go_ret
    exact ⟨by simp [str_e, *], (below_alloc _ _).alloc (by simp) _⟩
  ·have q1 := str_some ht
   go_enter Tryz.func110, Tryz.ntmps110
   go_wp2_with fail
   go_ret
   exact ⟨by simp [str_e, *], (below_alloc _ _).alloc (by simp) _⟩
 rw [if_neg h1, if_neg h2, if_neg h3, if_neg h4]
 by_cases ht : t.size = 0
 ·obtain rfl := str_nil ht
  have Hx := hide ht
  clear ht Hx
  by_cases hn : n = 0
  ·subst hn
   by_cases hgt : gt = 0
   ·subst hgt
    by_cases hx : x = 0
    ·subst hx
     by_cases hy : y = 0
     ·subst hy
      go_enter Tryz.func110, Tryz.ntmps110
      go_wp2_with fail
      refine (HN.out _).mono ?_
      rintro e w2 ⟨rfl, hb2⟩
      go_wp2_with fail
      go_ret
      exact ⟨by show Ending.returned (.bool (decide (m = 0))) = _; simp [str_e, *], ((below_alloc _ _).alloc (by simp) _).trans (hb2.mono (by simp <;> omega))⟩
     ·have q1 : (y == 0) = false := by simp [hy]
      go_enter Tryz.func110, Tryz.ntmps110
      go_wp2_with fail
      go_ret
      exact ⟨by simp [str_e, *], (below_alloc _ _).alloc (by simp) _⟩
    ·have q1 : (x == 0) = false := by simp [hx]
     go_enter Tryz.func110, Tryz.ntmps110
     go_wp2_with fail
     go_ret
     exact ⟨by simp [str_e, *], (below_alloc _ _).alloc (by simp) _⟩
   ·have q1 : (gt == 0) = false := by simp [hgt]
    go_enter Tryz.func110, Tryz.ntmps110
    go_wp2_with fail
    go_ret
    exact ⟨by simp [str_e, *], (below_alloc _ _).alloc (by simp) _⟩
  ·have q1 : (n == 0) = false := by simp [hn]
   go_enter Tryz.func110, Tryz.ntmps110
   go_wp2_with fail
   go_ret
   exact ⟨by simp [str_e, *], (below_alloc _ _).alloc (by simp) _⟩
 ·have q1 := str_some ht
  go_enter Tryz.func110, Tryz.ntmps110
  go_wp2_with fail
  go_ret
  exact ⟨by simp [str_e, *], (below_alloc _ _).alloc (by simp) _⟩
end Go.Proofs.YtdmdohjdmnmabaaGreatDoor
namespace Go.Proofs.YtdmdohjdmnmabaaGreatDoor
open Go.RowKit
set_option linter.unusedVariables false
set_option linter.unusedSimpArgs false

theorem Bo.far {B b : Nat} {l : List UInt8} {w w1 w2 : World} (h : Bo B b l w w1) (k : Below w1.heap.size w1 w2) : Bo B b l w w2 := by
 refine ⟨BldAt.only h.1 (Only.of_below k NoBlk), h.2.1.trans (k.mono h.1.le), h.2.2.trans ?_⟩
 intro i x hi _ _
 have hlt : i < w1.heap.size := by
  rcases Nat.lt_or_ge i w1.heap.size with h | h
  ·exact h
  ·rw [Array.getElem?_eq_none h] at hi; cases hi
 rw [k.block i hlt]; exact hi
theorem Bo.drew {B b : Nat} {l : List UInt8} {w w1 : World} (h : Bo B b l w w1) : Bo B b l w w1.drew := ⟨BldAt.drew h.1, h.2.1.drew, h.2.2.drew⟩
theorem Bo.alloc {B b : Nat} {l : List UInt8} {w w1 : World} (h : Bo B b l w w1) (o : Obj) : Bo B b l w (w1.alloc o) := h.far ((Below.refl _ _).alloc (Nat.le_refl _) o)
theorem Bo.blk {B b g : Nat} {l l' : List UInt8} {w w1 w2 : World} {e : TypeId} {cs : Array Value} (h : Bo B b l w w1) (k : Bo B b l' w1 w2) (hx : Blk w1 g e cs) (h1 : e ≠ 5) (h2 : e ≠ 55) : Blk w2 g e cs := BldAt.side h.1 hx k.2.1 k.2.2 h1 h2
theorem tkT_eq (t : Int) : tickT t = tkT t := rfl
theorem word_len (k : Int) : (wordT k).length ≤ 6 := by
 unfold wordT
 repeat' split
 all_goals simp
theorem label_len {n : Int} (h : -9223372036854775808 ≤ n) (h2 : n ≤ 9223372036854775807) : (labelT n).length ≤ 22 := by
 have := itoa_nnT h h2
 unfold labelT
 simp; omega
theorem tk_len {t : Int} (h : t ≤ 9223372036854775807) : (tkT t).length ≤ 21 := tickT_len h
def InI (n : Int) : Prop := -9223372036854775808 ≤ n ∧ n ≤ 9223372036854775807
/-- an arm that may be written -/
def ArmW (a : ArmM) : Prop := a.pat.size ≤ 256 ∧ InI a.to
theorem arm_len {a : ArmM} (h : ArmW a) : (armT a).length ≤ 1060 := by
 have h1 := quote_len a.pat.data.toList
 have h2 := label_len h.2.1 h.2.2
 have h3 : a.pat.data.toList.length = a.pat.size := by simp
 have := h.1
 unfold armT lineT wordsT
 simp
 simp at h1
 omega
theorem line2_len (a b : List UInt8) : (lineT [a, b]).length = a.length + b.length + 2 := by unfold lineT wordsT; simp; omega
theorem armAt_mem {ar : List ArmM} {q : Nat} (h : q < ar.length) : armAt ar q ∈ ar := by
 have e : armAt ar q = ar[q] := by simp [armAt, List.getD, h]
 rw [e]; exact List.getElem_mem h
theorem arms_succ (ar : List ArmM) (q : Nat) (h : q < ar.length) : (ar.take (q + 1)).flatMap armT = (ar.take q).flatMap armT ++ armT (armAt ar q) := by
 have e : armAt ar q = ar[q] := by simp [armAt, List.getD, h]
 rw [List.take_succ_eq_append_getElem h, List.flatMap_append, e]
 simp
theorem arms_len (ar : List ArmM) (h : ∀ a ∈ ar, ArmW a) : ∀ q, q ≤ ar.length → ((ar.take q).flatMap armT).length ≤ 1060 * q
 | 0, _ => by simp
 | q + 1, hq => by
  have h1 := arms_len ar h q (by omega)
  have h2 := arm_len (h _ (armAt_mem (show q < ar.length by omega)))
  rw [arms_succ ar q (by omega), List.length_append]
  omega
/-- an op that may be written -/
structure OpW (o : OpM) : Prop where
 arms : o.arms.length ≤ 100
 arm : ∀ a ∈ o.arms, ArmW a
 text : o.text.size ≤ 100000
 n : InI o.n
 go : InI o.to
 onT : InI o.onT
 onE : InI o.onE
theorem op_len {o : OpM} (h : OpW o) : (opT o).length ≤ 1000000 := by
 have h1 := word_len o.kind
 have h2 := tk_len h.n.2
 have h3 := label_len h.go.1 h.go.2
 have h4 := label_len h.onT.1 h.onT.2
 have h5 := label_len h.onE.1 h.onE.2
 have h6 := quote_len o.text.data.toList
 have h7 : o.text.data.toList.length = o.text.size := by simp
 have h8 := arms_len o.arms h.arm o.arms.length (Nat.le_refl _)
 rw [List.take_length] at h8
 have := h.arms
 have := h.text
 unfold opT
 split
 ·unfold lineT wordsT; simp; simp at h6; omega
 split
 ·have e1 := line2_len [116, 105, 109, 101, 111, 117, 116] (labelT o.onT)
  have e2 := line2_len [101, 111, 102] (labelT o.onE)
  have e3 := line2_len (wordT o.kind) (tkT o.n)
  have f1 : (if 0 ≤ o.onT then lineT [[116, 105, 109, 101, 111, 117, 116], labelT o.onT] else []).length ≤ 31 := by split <;> (simp at e1 ⊢; try omega)
  have f2 : (if 0 ≤ o.onE then lineT [[101, 111, 102], labelT o.onE] else []).length ≤ 31 := by split <;> (simp at e2 ⊢; try omega)
  unfold expectT
  rw [List.length_append, List.length_append, List.length_append, e3]
  omega
 split
 ·unfold lineT wordsT; simp; omega
 split
 ·unfold lineT wordsT; simp; omega
 ·unfold lineT wordsT; simp; omega
end Go.Proofs.YtdmdohjdmnmabaaGreatDoor
