/- Parts of a chain of lemmas: Next, WnP, Ids31b. Conditions: those of each theorem. -/
import Derived.Test.YtdmdohjdmnmabaaGreatDoorQh30
import Derived.Deep.RegionHeld3
import Derived.Test.YtdmdohjdmnmabaaGreatDoorQh31
import Derived.Test.YtdmdohjdmnmabaaGreatDoorQh25
namespace Go.Proofs.YtdmdohjdmnmabaaGreatDoor
open Go.RowKit
set_option linter.unusedVariables false
set_option linter.unusedSimpArgs false

/-- where an op leads by what was done -/
def leadsM (o : OpM) (x : Stp) : Int :=
 if (o.kind = 1 ∧ x.what = 6) ∨ (o.kind = 4 ∧ x.what = 8) then x.at_ + 1 else if o.kind = 3 ∧ x.what = 7 then o.to else if o.kind ≠ 2 then -1
 else if x.what = 2 then (if 0 ≤ x.arm ∧ x.arm < o.arms.length then (armAt o.arms x.arm.toNat).to else -1) else if x.what = 3 then o.onT else if x.what = 4 then o.onE else -1
def opM0 : OpM := ⟨0, ⟨#[]⟩, 0, 0, [], 0, 0⟩
def nextM (p : ProgM) (x : Stp) : Int := if x.status ≠ 0 ∨ x.at_ < 0 ∨ (p.ops.length : Int) ≤ x.at_ then -1 else leadsM (p.ops.getD x.at_.toNat opM0) x
def NextM (p : ProgM) (x : Stp) : Int := if goodM p = true then nextM p x else -1
theorem Blk.six {w : World} {g : Nat} {t : TypeId} {a b c d e f : Value} (hb : Blk w g t #[a, b, c, d, e, f]) :
 w.cell? ⟨g, 0, none⟩ = some a ∧ w.cell? ⟨g, 1, none⟩ = some b ∧ w.cell? ⟨g, 2, none⟩ = some c ∧ w.cell? ⟨g, 3, none⟩ = some d ∧ w.cell? ⟨g, 4, none⟩ = some e ∧ w.cell? ⟨g, 5, none⟩ = some f := by
 refine ⟨?_, ?_, ?_, ?_, ?_, ?_⟩ <;> (rw [hb.cell]; rfl)
end Go.Proofs.YtdmdohjdmnmabaaGreatDoor
namespace Go.Proofs.YtdmdohjdmnmabaaGreatDoor
set_option linter.unusedVariables false

theorem firstAt_all : ∀ (l : List Int) (i : Nat), (firstAt i l).2 = 0 → ∀ e ∈ l, e = 0 := by
 intro l
 induction l with
 | nil => intro i _ e he; cases he
 | cons a r ih =>
  intro i h e he
  unfold firstAt at h
  by_cases ha : a = 0
  ·rw [if_neg (by omega)] at h
   rcases List.mem_cons.1 he with rfl | he
   ·exact ha
   ·exact ih _ h e he
  ·rw [if_pos ha] at h
   exact absurd h ha
theorem firstE_all : ∀ (l : List Int), firstE l = 0 → ∀ e ∈ l, e = 0 := by
 intro l
 induction l with
 | nil => intro _ e he; cases he
 | cons a r ih =>
  intro h e he
  unfold firstE at h
  by_cases ha : a = 0
  ·rw [if_neg (by omega)] at h
   rcases List.mem_cons.1 he with rfl | he
   ·exact ha
   ·exact ih h e he
  ·rw [if_pos ha] at h
   exact absurd h ha
theorem good_op {p : ProgM} (h : goodM p = true) (o : OpM) (ho : o ∈ p.ops) : opE p.ops.length o = 0 := by
 unfold goodM at h
 rw [decide_eq_true_eq] at h
 unfold wrongM at h
 by_cases hh : headE p = 0
 ·rw [if_neg (by omega)] at h
  exact firstAt_all _ _ h _ (List.mem_map.2 ⟨o, ho, rfl⟩)
 ·rw [if_pos hh] at h
  exact absurd h hh
theorem leads_comes (n : Nat) (o : OpM) (x : Stp) (h : opE n o = 0) (h0 : 0 ≤ x.at_) (h1 : x.at_ < n) : leadsM o x = -1 ∨ comesB n (leadsM o x) = true := by
 unfold leadsM
 split
 ·right
  unfold comesB
  simp; omega
 ·split
  ·rename_i hk
   right
   unfold opE at h
   rw [if_neg (by omega)] at h
   split at h
   ·omega
   ·rw [if_neg (by omega), if_neg (by omega), if_pos hk.1] at h
    split at h
    ·assumption
    ·omega
  ·split
   ·exact Or.inl rfl
   ·rename_i hk
    have hk2 : o.kind = 2 := by omega
    unfold opE at h
    rw [if_neg (by omega)] at h
    split at h
    ·omega
    ·have h : expectE n o = 0 := by
      first
       | exact h
       | (rw [if_neg (by omega), if_pos hk2] at h; exact h)
       | (rw [if_pos hk2] at h; exact h)
       | (rw [if_neg (by omega)] at h; exact h)
     unfold expectE at h
     split at h
     ·omega
     ·split at h
      ·omega
      ·split at h
       ·contradiction
       ·rename_i hE
        have hE' : firstE (o.arms.map (armE n)) = 0 := Decidable.not_not.1 hE
        split at h
        ·rename_i ht
         rw [Bool.and_eq_true] at ht
         unfold toB at ht
         rw [Bool.or_eq_true, Bool.or_eq_true, decide_eq_true_eq, decide_eq_true_eq] at ht
         split
         ·split
          ·rename_i hr
           right
           have hm : armAt o.arms x.arm.toNat ∈ o.arms := by
            have hlt : x.arm.toNat < o.arms.length := by omega
            have e : armAt o.arms x.arm.toNat = o.arms[x.arm.toNat] := by simp [armAt, List.getD, hlt]
            rw [e]
            exact List.getElem_mem hlt
           have ha := firstE_all _ hE' _ (List.mem_map.2 ⟨_, hm, rfl⟩)
           unfold armE at ha
           split at ha
           ·omega
           ·split at ha
            ·contradiction
            ·split at ha
             ·assumption
             ·omega
          ·exact Or.inl rfl
         ·split
          ·exact ht.1
          ·split
           ·exact ht.2
           ·exact Or.inl rfl
        ·omega
theorem next_comes (p : ProgM) (x : Stp) : NextM p x = -1 ∨ comesB p.ops.length (NextM p x) = true := by
 unfold NextM
 split
 ·rename_i hg
  unfold nextM
  split
  ·exact Or.inl rfl
  ·rename_i hn
   have hlt : x.at_.toNat < p.ops.length := by omega
   refine leads_comes _ _ x (good_op hg _ ?_) (by omega) (by omega)
   have e : p.ops.getD x.at_.toNat opM0 = p.ops[x.at_.toNat] := by simp [List.getD, hlt]
   rw [e]
   exact List.getElem_mem hlt
 ·exact Or.inl rfl
theorem cutS_twice (s : ByteArray) (m : Nat) : cutS (cutS s m) m = cutS s m := by
 have h : ¬ m < (cutS s m).size := by rw [cutS_size]; omega
 show (if m < (cutS s m).size then (cutS s m).extract 0 m else cutS s m) = cutS s m
 rw [if_neg h]
theorem fewArms_idem (l : List ArmM) (k : Nat) : fewArms (fewArms l k) k = fewArms l k := by
 unfold fewArms
 rw [← List.map_take, List.take_take, Nat.min_self, List.map_map]
 apply List.map_congr_left
 intro a _
 show fewArm (fewArm a) = fewArm a
 unfold fewArm
 simp only [cutS_twice]
theorem fewOp_idem (o : OpM) : fewOp (fewOp o) = fewOp o := by
 unfold fewOp
 simp only [cutS_twice, fewArms_idem]
theorem fewOps_idem {L L' : List OpV} {N : Nat} (h : L'.map (·.o) = fewOps L N) : fewOps L' N = L'.map (·.o) := by
 have e : ∀ X : List OpV, fewOps X N = ((X.map (·.o)).take N).map fewOp := by
  intro X
  unfold fewOps
  rw [← List.map_take, List.map_map]
  rfl
 rw [e L', h, e L, ← List.map_take, List.take_take, Nat.min_self, List.map_map]
 apply List.map_congr_left
 intro a _
 exact fewOp_idem a
theorem few_sz {L L' : List OpV} {N : Nat} (h : L'.map (·.o) = fewOps L N) (hz : ∀ v ∈ L, OpSz v) : ∀ v ∈ L', OpSz v := by
 intro v hv
 have hm : v.o ∈ fewOps L N := by rw [← h]; exact List.mem_map.2 ⟨v, hv, rfl⟩
 unfold fewOps at hm
 obtain ⟨u, hu, he⟩ := List.mem_map.1 hm
 have hu' := hz u (List.mem_of_mem_take hu)
 obtain ⟨h1, h2, h3⟩ := hu'
 unfold OpSz
 rw [← he]
 refine ⟨?_, ?_, ?_⟩
 ·show (cutS u.o.text 300).size ≤ _
  rw [cutS_size]; omega
 ·show (fewArms u.o.arms 10).length ≤ maxLen
  unfold fewArms
  rw [List.length_map, List.length_take]
  exact Nat.le_trans (Nat.min_le_right _ _) h2
 ·intro a ha
  have ha' : a ∈ fewArms u.o.arms 10 := ha
  unfold fewArms at ha'
  obtain ⟨b, hb, rfl⟩ := List.mem_map.1 ha'
  show (cutS b.pat 70).size ≤ _
  rw [cutS_size]
  have := h3 b (List.mem_of_mem_take hb)
  omega
theorem few_len {L L' : List OpV} {N : Nat} (h : L'.map (·.o) = fewOps L N) : L'.length ≤ L.length := by
 have := congrArg List.length h
 unfold fewOps at this
 rw [List.length_map, List.length_map, List.length_take] at this
 omega
end Go.Proofs.YtdmdohjdmnmabaaGreatDoor
namespace Go.Proofs.YtdmdohjdmnmabaaGreatDoor
open Go.RowKit Go.Sort
set_option linter.unusedVariables false
end Go.Proofs.YtdmdohjdmnmabaaGreatDoor
