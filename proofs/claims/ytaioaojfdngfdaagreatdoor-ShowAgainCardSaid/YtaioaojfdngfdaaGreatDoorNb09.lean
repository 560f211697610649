/- Parts of a chain of lemmas: Ids31, Name, Put, Cls1, Cls2. Conditions: those of each theorem. -/
import Derived.Test.YtaioaojfdngfdaaGreatDoorNb04
import Derived.Test.YtaioaojfdngfdaaGreatDoorNb03
import Derived.Shelf.Slices.In.SortNone
import Derived.Test.YtaioaojfdngfdaaGreatDoorNb01
set_option linter.unusedVariables false
set_option linter.unusedSimpArgs false
namespace Go.Proofs.YtaioaojfdngfdaaGreatDoor
open Go.RowKit Go.Sort
abbrev encI (t : Int) : List Value := [.int .i64 t]
theorem Tryz.infoI3 : (Tryz.prog.info? 3).map (fun i => (i.zero, i.size, i.bytes)) = some (some (.int .i64 0), 1, 8) := by kernel_rfl
theorem flat_encI (zs : List Int) : flat encI zs = zs.map (Value.int .i64) := by
 induction zs with
 | nil => rfl
 | cons a l ih => rw [flat_cons, ih]; rfl
theorem compact_nil : Lib.compact (([] : List Int).mergeSort fun x y => decide (x ≤ y)) = [] := by
 rw [List.mergeSort_nil]; rfl
theorem compact_le (S : List Int) : (Lib.compact S).length ≤ S.length := by
 unfold Lib.compact Lib.compactUpTo
 rw [List.length_map]
 exact Nat.le_trans (List.length_filter_le _ _) (by simp)
end Go.Proofs.YtaioaojfdngfdaaGreatDoor
namespace Go.Proofs.YtaioaojfdngfdaaGreatDoor
open Go.RowKit
theorem ba_nil {s : ByteArray} (h : s.size = 0) : s.toList = [] := by
 rw [ByteArray.toList_eq]
 exact List.eq_nil_of_length_eq_zero (by rw [ba_size]; exact h)
theorem ba_some {s : ByteArray} (h : s.size ≠ 0) : s.toList.isEmpty = false := by
 rw [ByteArray.toList_eq]
 cases hq : s.data.toList with
 | nil => exact absurd (by rw [← ba_size, hq]; rfl) h
 | cons a r => rfl
theorem ba_get (s : ByteArray) (k : Nat) (h : k < s.size) : s.data.toList[k]? = some s[k] := by
 rw [List.getElem?_eq_getElem (by rw [ba_size]; exact h)]
 rfl
theorem name_no {s : ByteArray} {k : Nat} (h : k < s.size) (hc : okC s[k] = false) : nameB s = false := by
 unfold nameB nameL
 have hm : s[k] ∈ s.data.toList := List.mem_of_getElem? (ba_get s k h)
 have : s.data.toList.all okC = false := by
  cases hq : s.data.toList.all okC with
  | false => rfl
  | true => rw [List.all_eq_true] at hq; rw [hq _ hm] at hc; cases hc
 rw [this]; simp
theorem name_first {s : ByteArray} (h : 0 < s.size) (hc : s[0].toNat < 97) : nameB s = false := by
 unfold nameB nameL
 have e : s.data.toList.getD 0 0 = s[0] := by rw [List.getD_eq_getElem?_getD, ba_get s 0 h]; rfl
 rw [e]
 have : decide (97 ≤ s[0].toNat) = false := by simp; omega
 rw [this]; simp
theorem name_size {s : ByteArray} (h : s.size = 0 ∨ 16 < s.size) : nameB s = false := by
 unfold nameB nameL
 rcases h with h | h
 ·have e : s.data.toList = [] := List.eq_nil_of_length_eq_zero (by rw [ba_size]; exact h)
  rw [e]; rfl
 ·have : decide (s.data.toList.length ≤ 16) = false := by rw [ba_size]; simp; omega
  rw [this]; simp
theorem name_yes {s : ByteArray} (h0 : 0 < s.size) (h16 : s.size ≤ 16) (hf : 97 ≤ s[0].toNat) (h : ∀ k, (hk : k < s.size) → okC s[k] = true) : nameB s = true := by
 unfold nameB nameL
 have e : s.data.toList.getD 0 0 = s[0] := by rw [List.getD_eq_getElem?_getD, ba_get s 0 h0]; rfl
 have hne : s.data.toList ≠ [] := fun e => by have := ba_size s; rw [e] at this; simp at this; omega
 have hall : s.data.toList.all okC = true := by
  rw [List.all_eq_true]
  intro x hx
  obtain ⟨k, hk, rfl⟩ := List.mem_iff_getElem.1 hx
  exact h k (by rw [← ba_size]; exact hk)
 rw [e, hall]
 simp [hne, hf, h16]
theorem okC_t {c : UInt8} (h : 97 ≤ c.toNat ∧ c.toNat ≤ 122 ∨ 48 ≤ c.toNat ∧ c.toNat ≤ 57) : okC c = true := by
 unfold okC; rcases h with ⟨a, b⟩ | ⟨a, b⟩ <;> simp [a, b]
theorem okC_f {c : UInt8} (h : ¬ (97 ≤ c.toNat ∧ c.toNat ≤ 122 ∨ 48 ≤ c.toNat ∧ c.toNat ≤ 57)) : okC c = false := by
 cases hq : okC c with
 | false => rfl
 | true =>
  exfalso
  apply h
  unfold okC at hq
  simp at hq
  omega
set_option maxRecDepth 100000 in
set_option maxHeartbeats 1600000 in
theorem Name_c (s : ByteArray) (w : World) (hs : s.size ≤ 9223372036854775807) :
 Calls Tryz.prog 132 #[.string s] w fun e w' => e = .returned (.bool (nameB s)) ∧ w = w' := by
 by_cases h0 : s.size = 0
 ·have H := hide (name_size (Or.inl h0))
  have e1 := ba_nil h0
  have e2 : s.toList.isEmpty = true := by rw [e1]; rfl
  clear h0
  go_enter Tryz.func132, Tryz.ntmps132
  go_wp2
  go_ret
  exact ⟨by rw [H.out]; rfl, rfl⟩
 ·have e2 := ba_some h0
  by_cases h16 : 16 < s.size
  ·have H := hide (name_size (Or.inr h16))
   have d1 : decide ((16 : Int) < (s.size : Int)) = true := by simp; omega
   have d2 : decide (16 < s.size) = true := by simp; omega
   go_enter Tryz.func132, Tryz.ntmps132
   go_wp2
   go_ret
   exact ⟨by rw [H.out]; rfl, rfl⟩
  ·have d1 : decide ((16 : Int) < (s.size : Int)) = false := by simp; omega
   have d2 : decide (16 < s.size) = false := by simp; omega
   have hp : 0 < s.size := by omega
   have hp2 : (0 : Int) < (s.size : Int) := by omega
   by_cases hf : s[0].toNat < 97
   ·have H := hide (name_first hp hf)
    have d3 : decide ((s[0].toNat : Int) < 97) = true := by simp; omega
    have d4 : decide (s[0].toNat < 97) = true := by simp; omega
    go_enter Tryz.func132, Tryz.ntmps132
    go_wp2
    go_ret
    exact ⟨by rw [H.out]; rfl, rfl⟩
   ·have H := hide (fun h => name_yes hp (by omega) (by omega) h)
    have d3 : decide ((s[0].toNat : Int) < 97) = false := by simp; omega
    have d4 : decide (s[0].toNat < 97) = false := by simp; omega
    go_enter Tryz.func132, Tryz.ntmps132
    go_wp2
    go_loop [3, 18] (fun _ i => ∃ k : Nat, k ≤ s.size ∧ i = .int .i64 k ∧ Hid (∀ j, (hj : j < s.size) → j < k → okC s[j] = true)) (fun _ i => s.size - (intOf i).toNat)
    case atStart => exact ⟨0, Nat.zero_le _, rfl, hide (fun j hj h => by omega)⟩
    case round =>
     obtain ⟨k, hk, rfl, hall⟩ := hrel
     by_cases hlt : k < s.size
     ·have HF := hide (fun h => name_no hlt (okC_f h))
      have HT := hide (show (97 ≤ s[k].toNat ∧ s[k].toNat ≤ 122 ∨ 48 ≤ s[k].toNat ∧ s[k].toNat ≤ 57) → okC s[k] = true from okC_t)
      have hb : s[k].toNat < 256 := UInt8.toNat_lt _
      go_wp2
      all_goals first
       | (go_ret
          exact ⟨by rw [HF.out (by omega)]; rfl, rfl⟩)
       | (go_round
          case rel => exact ⟨k + 1, by omega, by go_num, hide (fun j hj h => by
           rcases Nat.lt_or_ge j k with hjk | hjk
           ·exact hall.out j hj hjk
           ·obtain rfl : j = k := by omega
            exact HT.out (by omega))⟩
          case measure => simp [intOf]; omega)
     ·go_wp2
      go_ret
      exact ⟨by rw [H.out (fun j hj => hall.out j hj (by omega))]; rfl, rfl⟩
def putFrom (w : World) (g : Nat) : Nat → List Value → World
 | _, [] => w
 | i, v :: r => putFrom (w.setCell ⟨g, i, none⟩ v) g (i + 1) r
def setFrom (cs : Array Value) : Nat → List Value → Array Value
 | _, [] => cs
 | i, v :: r => setFrom (cs.setIfInBounds i v) (i + 1) r
theorem setFrom_list : ∀ (vs pre old : List Value), vs.length = old.length → setFrom (pre ++ old).toArray pre.length vs = (pre ++ vs).toArray
 | [], pre, old, h => by
  obtain rfl : old = [] := List.eq_nil_of_length_eq_zero (by simpa using h.symm)
  rfl
 | v :: r, pre, [], h => by simp at h
 | v :: r, pre, o :: q, h => by
  have e : (pre ++ o :: q).toArray.setIfInBounds pre.length v = ((pre ++ [v]) ++ q).toArray := by
   apply Array.toList_inj.1
   simp
  have := setFrom_list r (pre ++ [v]) q (by simpa using h)
  rw [setFrom, e]
  simp at this ⊢
  exact this
section
variable {w w0 : World} {g : Nat} {t : TypeId} {cs : Array Value}
theorem Blk.putFrom_ (vs : List Value) (i : Nat) (h : Blk w g t cs) : Blk (putFrom w g i vs) g t (setFrom cs i vs) := by
 induction vs generalizing w i cs with
 | nil => exact h
 | cons v r ih => exact ih (i + 1) (h.set_ i v)
theorem Blk.put (vs : List Value) (h : Blk w g t cs) (hl : vs.length = cs.size) : Blk (putFrom w g 0 vs) g t vs.toArray := by
 have h1 := h.putFrom_ vs 0
 have e : setFrom cs 0 vs = vs.toArray := by
  have := setFrom_list vs [] cs.toList (by simpa using hl)
  simpa using this
 rw [e] at h1
 exact h1
theorem only_put (vs : List Value) (i : Nat) (w : World) (g : Nat) : Only (· = g) w (putFrom w g i vs) := by
 induction vs generalizing w i with
 | nil => exact Only.refl _ _
 | cons v r ih => exact ((Only.refl (· = g) w).setCell (Or.inl rfl) v).trans (ih (i + 1) _)
theorem below_put {B : Nat} (vs : List Value) (i : Nat) (h : Below B w0 w) (hg : B ≤ g) : Below B w0 (putFrom w g i vs) := by
 induction vs generalizing w i with
 | nil => exact h
 | cons v r ih => exact ih (i + 1) (h.setCell hg v)
theorem put_size (vs : List Value) (i : Nat) : (putFrom w g i vs).heap.size = w.heap.size := by
 induction vs generalizing w i with
 | nil => rfl
 | cons v r ih => rw [putFrom, ih]; simp
end
section
variable (w : World) (g : Nat) (a b c d e f h : Value)
theorem put3 : ((w.setCell ⟨g, 0, none⟩ a).setCell ⟨g, 1, none⟩ b).setCell ⟨g, 2, none⟩ c = putFrom w g 0 [a, b, c] := rfl
theorem put4 : (((w.setCell ⟨g, 0, none⟩ a).setCell ⟨g, 1, none⟩ b).setCell ⟨g, 2, none⟩ c).setCell ⟨g, 3, none⟩ d = putFrom w g 0 [a, b, c, d] := rfl
theorem put5 : ((((w.setCell ⟨g, 0, none⟩ a).setCell ⟨g, 1, none⟩ b).setCell ⟨g, 2, none⟩ c).setCell ⟨g, 3, none⟩ d).setCell ⟨g, 4, none⟩ e = putFrom w g 0 [a, b, c, d, e] := rfl
theorem put6 : (((((w.setCell ⟨g, 0, none⟩ a).setCell ⟨g, 1, none⟩ b).setCell ⟨g, 2, none⟩ c).setCell ⟨g, 3, none⟩ d).setCell ⟨g, 4, none⟩ e).setCell ⟨g, 5, none⟩ f = putFrom w g 0 [a, b, c, d, e, f] := rfl
theorem put7 : ((((((w.setCell ⟨g, 0, none⟩ a).setCell ⟨g, 1, none⟩ b).setCell ⟨g, 2, none⟩ c).setCell ⟨g, 3, none⟩ d).setCell ⟨g, 4, none⟩ e).setCell ⟨g, 5, none⟩ f).setCell ⟨g, 6, none⟩ h = putFrom w g 0 [a, b, c, d, e, f, h] := rfl
end
/-- the cells of a block of four, of seven -/
theorem Blk.four {w : World} {g : Nat} {t : TypeId} {a b c d : Value} (h : Blk w g t #[a, b, c, d]) :
 (w.cell? ⟨g, 0, none⟩ = some a ∧ w.cell? ⟨g, 1, none⟩ = some b ∧ w.cell? ⟨g, 2, none⟩ = some c ∧ w.cell? ⟨g, 3, none⟩ = some d) ∧ w.frozen? ⟨g, 0, none⟩ = false ∧ w.frozen? ⟨g, 1, none⟩ = false ∧ w.frozen? ⟨g, 2, none⟩ = false ∧ w.frozen? ⟨g, 3, none⟩ = false :=
 ⟨⟨by rw [h.cell]; rfl, by rw [h.cell]; rfl, by rw [h.cell]; rfl, by rw [h.cell]; rfl⟩, h.frozen 0, h.frozen 1, h.frozen 2, h.frozen 3⟩
theorem Blk.five {w : World} {g : Nat} {t : TypeId} {a b c d e : Value} (h : Blk w g t #[a, b, c, d, e]) :
 (w.cell? ⟨g, 0, none⟩ = some a ∧ w.cell? ⟨g, 1, none⟩ = some b ∧ w.cell? ⟨g, 2, none⟩ = some c ∧ w.cell? ⟨g, 3, none⟩ = some d ∧ w.cell? ⟨g, 4, none⟩ = some e) ∧ w.frozen? ⟨g, 0, none⟩ = false ∧ w.frozen? ⟨g, 1, none⟩ = false ∧ w.frozen? ⟨g, 2, none⟩ = false ∧ w.frozen? ⟨g, 3, none⟩ = false ∧ w.frozen? ⟨g, 4, none⟩ = false :=
 ⟨⟨by rw [h.cell]; rfl, by rw [h.cell]; rfl, by rw [h.cell]; rfl, by rw [h.cell]; rfl, by rw [h.cell]; rfl⟩, h.frozen 0, h.frozen 1, h.frozen 2, h.frozen 3, h.frozen 4⟩
/-- four numbers: a set, whatever it holds -/
def setA (a b c d : Int) : Array Value := #[.int .u64 a, .int .u64 b, .int .u64 c, .int .u64 d]
/-- a set is returned -/
def RetSet (w : World) (e : Ending) (w' : World) : Prop := ∃ a b c d : Int, e = .returned (.agg (setA a b c d)) ∧ Below w.heap.size w w'
theorem with_c (a b c d : Int) (x : Nat) (w : World) (hx : x < 256) : Calls Tryz.prog 249 #[.agg (setA a b c d), .int .u8 x] w (RetSet w) := by
 unfold setA
 have hr1 : Int.tmod (x : Int) 64 = ((x % 64 : Nat) : Int) := by rw [Int.tmod_eq_emod_of_nonneg (by omega)]; omega
 have hr2 : (x : Int) % 64 = ((x % 64 : Nat) : Int) := by omega
 have hr3 : x % 64 < 64 := Nat.mod_lt _ (by omega)
 have h4 : x / 64 = 0 ∨ x / 64 = 1 ∨ x / 64 = 2 ∨ x / 64 = 3 := by omega
 rcases h4 with h4 | h4 | h4 | h4
 all_goals
  have hq1 : Int.tdiv (x : Int) 64 = ((x / 64 : Nat) : Int) := by rw [Int.tdiv_eq_ediv_of_nonneg (by omega)]; omega
  have hq2 : (x : Int) / 64 = ((x / 64 : Nat) : Int) := by omega
  rw [h4] at hq1 hq2
  clear h4
  obtain ⟨r, hr⟩ : ∃ r, r = x % 64 := ⟨_, rfl⟩
  rw [← hr] at hr1 hr2 hr3
  clear hr
  go_enter Tryz.func249, Tryz.ntmps249
  go_wp2
  refine bodyPost_ret (v := .agg #[_, _, _, _]) (by simp [results, Tryz.results249, go_sem]; exact ⟨rfl, rfl, rfl, rfl⟩) rfl ?_
  exact ⟨_, _, _, _, rfl, (below_alloc _ _).alloc (by simp) _⟩
set_option maxRecDepth 100000 in
set_option maxHeartbeats 1600000 in
theorem span_c (x y : Nat) (w : World) (hx : x < 256) (hy : y < 256) : Calls Tryz.prog 245 #[.int .u8 x, .int .u8 y] w (RetSet w) := by
 have w0 : IntKind.i64.wrap (x : Int) = (x : Int) := IntWalk.i64_in _ (by omega)
 have w1 : IntKind.i64.wrap (y : Int) = (y : Int) := IntWalk.i64_in _ (by omega)
 go_enter Tryz.func245, Tryz.ntmps245
 go_wp2
 go_loopw [6] (fun i wr => ∃ k : Nat, k ≤ 256 ∧ i = .int .i64 k ∧ Hid (∃ a b c d, Blk wr (w.heap.size + 1) 249 (setA a b c d)) ∧ Hid (Blk wr w.heap.size 249 (setA 0 0 0 0)) ∧ Hid (Below w.heap.size w wr)) (fun i _ => 256 - (intOf i).toNat)
 case atStart => exact ⟨x, by omega, by go_num, hide ⟨0, 0, 0, 0, Blk.new' (by simp)⟩, hide ((Blk.new _ _ _).alloc _), hide ((below_alloc _ _).alloc (by simp) _)⟩
 case round =>
  obtain ⟨k, hk, rfl, hb, hz, hbel⟩ := hrel
  obtain ⟨a, b, c, d, hb⟩ := hb.out
  have hlt := hb.lt
  have HB := hide hb
  obtain ⟨⟨g0, g1, g2, g3⟩, f0, f1, f2, f3⟩ := hb.four
  clear hb
  by_cases hle : k ≤ y
  ·have w2 : IntKind.u8.wrap (k : Int) = (k : Int) := by
    have : IntKind.u8.wrap (k : Int) = (k : Int) % 256 := rfl
    omega
   have d1 : decide ((k : Int) ≤ (y : Int)) = true := by simp; omega
   have d2 : decide (k ≤ y) = true := by simp; omega
   have HW := hide (fun (w' : World) => show Calls Tryz.prog 249 #[.agg #[.int .u64 a, .int .u64 b, .int .u64 c, .int .u64 d], .int .u8 k] w' (RetSet w') from with_c a b c d k w' (by omega))
   go_wp2_with fail
   refine (HW.out _).mono ?_
   rintro e w4 ⟨a', b', c', d', rfl, hb4⟩
   unfold setA
   have hzl := hz.out.lt
   have HZ4 := hide (hz.out.below hb4)
   have HB4 := hide (HB.out.below hb4)
   have HL4 := hide (hbel.out.trans (hb4.mono hbel.out.size))
   obtain ⟨⟨g0, g1, g2, g3⟩, f0, f1, f2, f3⟩ := HB4.out.four
   clear hb4
   go_wp2_with fail
   rw [put4]
   have r1 := HB4.out.put [.int .u64 a', .int .u64 b', .int .u64 c', .int .u64 d'] rfl
   have r2 := HZ4.out.only (only_put [.int .u64 a', .int .u64 b', .int .u64 c', .int .u64 d'] 0 w4 (w.heap.size + 1)) (by omega)
   have r3 := below_put [.int .u64 a', .int .u64 b', .int .u64 c', .int .u64 d'] 0 HL4.out (show w.heap.size ≤ w.heap.size + 1 by omega)
   obtain ⟨wz, hz⟩ : ∃ wz, wz = putFrom w4 (w.heap.size + 1) 0 [.int .u64 a', .int .u64 b', .int .u64 c', .int .u64 d'] := ⟨_, rfl⟩
   rw [← hz] at r1 r2 r3 ⊢
   go_roundw
   case rel => exact ⟨k + 1, by omega, by go_num, hide ⟨a', b', c', d', r1⟩, hide r2, hide r3⟩
   case measure => simp [intOf]; omega
  ·have d1 : decide ((k : Int) ≤ (y : Int)) = false := by simp; omega
   have d2 : decide (k ≤ y) = false := by simp; omega
   obtain ⟨⟨z0, z1, z2, z3⟩, e0, e1, e2, e3⟩ := hz.out.four
   go_wp2_with fail
   rw [put4]
   have r2 := hz.out.put [.int .u64 a, .int .u64 b, .int .u64 c, .int .u64 d] rfl
   have r3 := below_put [.int .u64 a, .int .u64 b, .int .u64 c, .int .u64 d] 0 hbel.out (Nat.le_refl _)
   obtain ⟨wz, hz⟩ : ∃ wz, wz = putFrom wr w.heap.size 0 [.int .u64 a, .int .u64 b, .int .u64 c, .int .u64 d] := ⟨_, rfl⟩
   rw [← hz] at r2 r3 ⊢
   obtain ⟨⟨g0, g1, g2, g3⟩, _⟩ := r2.four
   refine bodyPost_ret (v := .agg #[.int .u64 a, .int .u64 b, .int .u64 c, .int .u64 d]) (by simp [results, Tryz.results245, go_sem, g0, g1, g2, g3]) rfl ?_
   exact ⟨a, b, c, d, rfl, r3⟩
theorem spanX_c (x y : Nat) (w : World) (hx : x < 256) (hy : y < 256) : Calls Tryz.prog 233 #[.int .u8 x, .int .u8 y] w (RetSet w) := by
 have HS := hide (fun (w' : World) => span_c x y w' hx hy)
 go_enter Tryz.func233, Tryz.ntmps233
 go_wp2_with fail
 refine (HS.out _).mono ?_
 rintro e w4 ⟨a, b, c, d, rfl, hb⟩
 unfold setA
 have HB := hide hb
 have hB := (Blk.new w 249 (setA 0 0 0 0)).below hb
 have HZ := hide hB
 obtain ⟨⟨g0, g1, g2, g3⟩, f0, f1, f2, f3⟩ := hB.four
 clear hb hB
 go_wp2_with fail
 rw [put4]
 have r2 := HZ.out.put [.int .u64 a, .int .u64 b, .int .u64 c, .int .u64 d] rfl
 have r3 := below_put [.int .u64 a, .int .u64 b, .int .u64 c, .int .u64 d] 0 ((below_alloc w _).trans (HB.out.mono (by simp))) (Nat.le_refl w.heap.size)
 obtain ⟨wz, hz⟩ : ∃ wz, wz = putFrom w4 w.heap.size 0 [.int .u64 a, .int .u64 b, .int .u64 c, .int .u64 d] := ⟨_, rfl⟩
 rw [← hz] at r2 r3 ⊢
 obtain ⟨⟨g0, g1, g2, g3⟩, _⟩ := r2.four
 refine bodyPost_ret (v := .agg #[.int .u64 a, .int .u64 b, .int .u64 c, .int .u64 d]) (by simp [results, Tryz.results233, go_sem, g0, g1, g2, g3]) rfl ?_
 exact ⟨a, b, c, d, rfl, r3⟩
theorem single_c (x : Nat) (w : World) (hx : x < 256) : Calls Tryz.prog 235 #[.int .u8 x] w (RetSet w) := by
 have HS := hide (fun (w' : World) => spanX_c x x w' hx hx)
 go_enter Tryz.func235, Tryz.ntmps235
 go_wp2_with fail
 refine (HS.out _).mono ?_
 rintro e w4 ⟨a, b, c, d, rfl, hb⟩
 unfold setA
 have HB := hide hb
 have hB := (Blk.new w 249 (setA 0 0 0 0)).below hb
 have HZ := hide hB
 obtain ⟨⟨g0, g1, g2, g3⟩, f0, f1, f2, f3⟩ := hB.four
 clear hb hB
 go_wp2_with fail
 rw [put4]
 have r2 := HZ.out.put [.int .u64 a, .int .u64 b, .int .u64 c, .int .u64 d] rfl
 have r3 := below_put [.int .u64 a, .int .u64 b, .int .u64 c, .int .u64 d] 0 ((below_alloc w _).trans (HB.out.mono (by simp))) (Nat.le_refl w.heap.size)
 obtain ⟨wz, hz⟩ : ∃ wz, wz = putFrom w4 w.heap.size 0 [.int .u64 a, .int .u64 b, .int .u64 c, .int .u64 d] := ⟨_, rfl⟩
 rw [← hz] at r2 r3 ⊢
 obtain ⟨⟨g0, g1, g2, g3⟩, _⟩ := r2.four
 refine bodyPost_ret (v := .agg #[.int .u64 a, .int .u64 b, .int .u64 c, .int .u64 d]) (by simp [results, Tryz.results235, go_sem, g0, g1, g2, g3]) rfl ?_
 exact ⟨a, b, c, d, rfl, r3⟩
set_option maxRecDepth 100000 in
set_option maxHeartbeats 1600000 in
theorem negate_c (x0 x1 x2 x3 : Int) (w : World) : Calls Tryz.prog 254 #[.agg (setA x0 x1 x2 x3)] w (RetSet w) := by
 unfold setA
 go_enter Tryz.func254, Tryz.ntmps254
 go_wp2
 go_loopw [3, 4] (fun _ i wr => ∃ k : Nat, k ≤ 4 ∧ i = .int .i64 k ∧ Hid (∃ a b c d, Blk wr w.heap.size 249 (setA a b c d)) ∧ Hid (Blk wr (w.heap.size + 1) 249 (setA 0 0 0 0)) ∧ Hid (Below w.heap.size w wr)) (fun _ i _ => 4 - (intOf i).toNat)
 case atStart => exact ⟨0, by omega, rfl, hide ⟨x0, x1, x2, x3, (Blk.new _ _ _).alloc _⟩, hide (Blk.new' (by simp)), hide ((below_alloc _ _).alloc (by simp) _)⟩
 case round =>
  obtain ⟨k, hk, rfl, hb, hz, hbel⟩ := hrel
  obtain ⟨a, b, c, d, hb⟩ := hb.out
  have HB := hide hb
  obtain ⟨⟨g0, g1, g2, g3⟩, f0, f1, f2, f3⟩ := hb.four
  clear hb
  by_cases hle : k < 4
  ·have h4 : k = 0 ∨ k = 1 ∨ k = 2 ∨ k = 3 := by omega
   rcases h4 with rfl | rfl | rfl | rfl
   all_goals
    go_wp2_with fail
    go_roundw
    case rel =>
     first
      | exact ⟨1, by omega, rfl, hide ⟨_, b, c, d, HB.out.set_ 0 _⟩, hide (hz.out.far (by simp) _), hide (hbel.out.setCell (Nat.le_refl _) _)⟩
      | exact ⟨2, by omega, rfl, hide ⟨a, _, c, d, HB.out.set_ 1 _⟩, hide (hz.out.far (by simp) _), hide (hbel.out.setCell (Nat.le_refl _) _)⟩
      | exact ⟨3, by omega, rfl, hide ⟨a, b, _, d, HB.out.set_ 2 _⟩, hide (hz.out.far (by simp) _), hide (hbel.out.setCell (Nat.le_refl _) _)⟩
      | exact ⟨4, by omega, rfl, hide ⟨a, b, c, _, HB.out.set_ 3 _⟩, hide (hz.out.far (by simp) _), hide (hbel.out.setCell (Nat.le_refl _) _)⟩
    case measure => simp [intOf]
  ·obtain rfl : k = 4 := by omega
   obtain ⟨⟨z0, z1, z2, z3⟩, e0, e1, e2, e3⟩ := hz.out.four
   go_wp2_with fail
   rw [put4]
   have r2 := hz.out.put [.int .u64 a, .int .u64 b, .int .u64 c, .int .u64 d] rfl
   have r3 := below_put [.int .u64 a, .int .u64 b, .int .u64 c, .int .u64 d] 0 hbel.out (show w.heap.size ≤ w.heap.size + 1 by omega)
   obtain ⟨wz, hz⟩ : ∃ wz, wz = putFrom wr (w.heap.size + 1) 0 [.int .u64 a, .int .u64 b, .int .u64 c, .int .u64 d] := ⟨_, rfl⟩
   rw [← hz] at r2 r3 ⊢
   obtain ⟨⟨g0, g1, g2, g3⟩, _⟩ := r2.four
   refine bodyPost_ret (v := .agg #[.int .u64 a, .int .u64 b, .int .u64 c, .int .u64 d]) (by simp [results, Tryz.results254, go_sem, g0, g1, g2, g3]) rfl ?_
   exact ⟨a, b, c, d, rfl, r3⟩
end Go.Proofs.YtaioaojfdngfdaaGreatDoor
