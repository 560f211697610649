/- Parts of a chain of lemmas: WnP, Scripts. Conditions: those of each theorem. -/
import Derived.Test.YtdmdohjdmnmabaaGreatQw44
import Derived.Test.YtdmdohjdmnmabaaGreatQw15
import Derived.Test.YtdmdohjdmnmabaaGreatQw23
namespace Go.Proofs.YtdmdohjdmnmabaaGreat
set_option linter.unusedVariables false

theorem firstAt_all : ∀ (l : List Int) (i : Nat), (firstAt i l).2 = 0 → ∀ e ∈ l, e = 0 := by
 intro l
 induction l with
 | nil => intro i _ e he; cases he
 | cons a r ih =>
  intro i h e he
  unfold firstAt at h
  by_cases ha : a = 0
  ·rw [if_neg (by omega)] at h
   rcases List.mem_cons.1 he with rfl | he
   ·exact ha
   ·exact ih _ h e he
  ·rw [if_pos ha] at h
   exact absurd h ha
theorem firstE_all : ∀ (l : List Int), firstE l = 0 → ∀ e ∈ l, e = 0 := by
 intro l
 induction l with
 | nil => intro _ e he; cases he
 | cons a r ih =>
  intro h e he
  unfold firstE at h
  by_cases ha : a = 0
  ·rw [if_neg (by omega)] at h
   rcases List.mem_cons.1 he with rfl | he
   ·exact ha
   ·exact ih h e he
  ·rw [if_pos ha] at h
   exact absurd h ha
theorem good_op {p : ProgM} (h : goodM p = true) (o : OpM) (ho : o ∈ p.ops) : opE p.ops.length o = 0 := by
 unfold goodM at h
 rw [decide_eq_true_eq] at h
 unfold wrongM at h
 by_cases hh : headE p = 0
 ·rw [if_neg (by omega)] at h
  exact firstAt_all _ _ h _ (List.mem_map.2 ⟨o, ho, rfl⟩)
 ·rw [if_pos hh] at h
  exact absurd h hh
theorem leads_comes (n : Nat) (o : OpM) (x : Stp) (h : opE n o = 0) (h0 : 0 ≤ x.at_) (h1 : x.at_ < n) : leadsM o x = -1 ∨ comesB n (leadsM o x) = true := by
 unfold leadsM
 split
 ·right
  unfold comesB
  simp; omega
 ·split
  ·rename_i hk
   right
   unfold opE at h
   rw [if_neg (by omega)] at h
   split at h
   ·omega
   ·rw [if_neg (by omega), if_neg (by omega), if_pos hk.1] at h
    split at h
    ·assumption
    ·omega
  ·split
   ·exact Or.inl rfl
   ·rename_i hk
    have hk2 : o.kind = 2 := by omega
    unfold opE at h
    rw [if_neg (by omega)] at h
    split at h
    ·omega
    ·have h : expectE n o = 0 := by
      first
       | exact h
       | (rw [if_neg (by omega), if_pos hk2] at h; exact h)
       | (rw [if_pos hk2] at h; exact h)
       | (rw [if_neg (by omega)] at h; exact h)
     unfold expectE at h
     split at h
     ·omega
     ·split at h
      ·omega
      ·split at h
       ·contradiction
       ·rename_i hE
        have hE' : firstE (o.arms.map (armE n)) = 0 := Decidable.not_not.1 hE
        split at h
        ·rename_i ht
         rw [Bool.and_eq_true] at ht
         unfold toB at ht
         rw [Bool.or_eq_true, Bool.or_eq_true, decide_eq_true_eq, decide_eq_true_eq] at ht
         split
         ·split
          ·rename_i hr
           right
           have hm : armAt o.arms x.arm.toNat ∈ o.arms := by
            have hlt : x.arm.toNat < o.arms.length := by omega
            have e : armAt o.arms x.arm.toNat = o.arms[x.arm.toNat] := by simp [armAt, List.getD, hlt]
            rw [e]
            exact List.getElem_mem hlt
           have ha := firstE_all _ hE' _ (List.mem_map.2 ⟨_, hm, rfl⟩)
           unfold armE at ha
           split at ha
           ·omega
           ·split at ha
            ·contradiction
            ·split at ha
             ·assumption
             ·omega
          ·exact Or.inl rfl
         ·split
          ·exact ht.1
          ·split
           ·exact ht.2
           ·exact Or.inl rfl
        ·omega
theorem next_comes (p : ProgM) (x : Stp) : NextM p x = -1 ∨ comesB p.ops.length (NextM p x) = true := by
 unfold NextM
 split
 ·rename_i hg
  unfold nextM
  split
  ·exact Or.inl rfl
  ·rename_i hn
   have hlt : x.at_.toNat < p.ops.length := by omega
   refine leads_comes _ _ x (good_op hg _ ?_) (by omega) (by omega)
   have e : p.ops.getD x.at_.toNat opM0 = p.ops[x.at_.toNat] := by simp [List.getD, hlt]
   rw [e]
   exact List.getElem_mem hlt
 ·exact Or.inl rfl
theorem cutS_twice (s : ByteArray) (m : Nat) : cutS (cutS s m) m = cutS s m := by
 have h : ¬ m < (cutS s m).size := by rw [cutS_size]; omega
 show (if m < (cutS s m).size then (cutS s m).extract 0 m else cutS s m) = cutS s m
 rw [if_neg h]
theorem fewArms_idem (l : List ArmM) (k : Nat) : fewArms (fewArms l k) k = fewArms l k := by
 unfold fewArms
 rw [← List.map_take, List.take_take, Nat.min_self, List.map_map]
 apply List.map_congr_left
 intro a _
 show fewArm (fewArm a) = fewArm a
 unfold fewArm
 simp only [cutS_twice]
theorem fewOp_idem (o : OpM) : fewOp (fewOp o) = fewOp o := by
 unfold fewOp
 simp only [cutS_twice, fewArms_idem]
theorem fewOps_idem {L L' : List OpV} {N : Nat} (h : L'.map (·.o) = fewOps L N) : fewOps L' N = L'.map (·.o) := by
 have e : ∀ X : List OpV, fewOps X N = ((X.map (·.o)).take N).map fewOp := by
  intro X
  unfold fewOps
  rw [← List.map_take, List.map_map]
  rfl
 rw [e L', h, e L, ← List.map_take, List.take_take, Nat.min_self, List.map_map]
 apply List.map_congr_left
 intro a _
 exact fewOp_idem a
theorem few_sz {L L' : List OpV} {N : Nat} (h : L'.map (·.o) = fewOps L N) (hz : ∀ v ∈ L, OpSz v) : ∀ v ∈ L', OpSz v := by
 intro v hv
 have hm : v.o ∈ fewOps L N := by rw [← h]; exact List.mem_map.2 ⟨v, hv, rfl⟩
 unfold fewOps at hm
 obtain ⟨u, hu, he⟩ := List.mem_map.1 hm
 have hu' := hz u (List.mem_of_mem_take hu)
 obtain ⟨h1, h2, h3⟩ := hu'
 unfold OpSz
 rw [← he]
 refine ⟨?_, ?_, ?_⟩
 ·show (cutS u.o.text 300).size ≤ _
  rw [cutS_size]; omega
 ·show (fewArms u.o.arms 10).length ≤ maxLen
  unfold fewArms
  rw [List.length_map, List.length_take]
  exact Nat.le_trans (Nat.min_le_right _ _) h2
 ·intro a ha
  have ha' : a ∈ fewArms u.o.arms 10 := ha
  unfold fewArms at ha'
  obtain ⟨b, hb, rfl⟩ := List.mem_map.1 ha'
  show (cutS b.pat 70).size ≤ _
  rw [cutS_size]
  have := h3 b (List.mem_of_mem_take hb)
  omega
theorem few_len {L L' : List OpV} {N : Nat} (h : L'.map (·.o) = fewOps L N) : L'.length ≤ L.length := by
 have := congrArg List.length h
 unfold fewOps at this
 rw [List.length_map, List.length_map, List.length_take] at this
 omega
end Go.Proofs.YtdmdohjdmnmabaaGreat
namespace Go.Proofs.YtdmdohjdmnmabaaGreat
open Go.RowKit
set_option linter.unusedVariables false
set_option linter.unusedSimpArgs false

def fewPr (p : ProgM) : ProgM := ⟨cutS p.name 20, p.deadline, p.jumps, (p.ops.take 8).map fewOp⟩
def scrM (L : List ProgM) : List ProgM := (L.take 4).map fewPr
theorem fewPr_of (v : PrV) (L' : List OpV) (h : L'.map (·.o) = fewOps v.L 8) : progM (cutS v.s 20) v.d v.j L' = fewPr (prM v) := by
 unfold progM fewPr prM progM
 rw [h]
 unfold fewOps
 simp only [List.map_take, List.map_map]
 rfl
theorem fewPr_idem (p : ProgM) : fewPr (fewPr p) = fewPr p := by
 unfold fewPr
 simp only [cutS_twice]
 congr 1
 rw [← List.map_take, List.map_map, List.take_take, Nat.min_self]
 apply List.map_congr_left
 intro o _
 exact fewOp_idem o
theorem scrM_idem (L : List ProgM) : scrM (scrM L) = scrM L := by
 unfold scrM
 rw [← List.map_take, List.map_map, List.take_take, Nat.min_self]
 apply List.map_congr_left
 intro p _
 exact fewPr_idem p
theorem scrM_len (L : List ProgM) : (scrM L).length ≤ 4 := by unfold scrM; rw [List.length_map, List.length_take]; omega
theorem cutS_le (s : ByteArray) (m : Nat) : (cutS s m).size ≤ s.size := by rw [cutS_size]; omega
theorem OpsRd.mono {w : World} {M M' : Nat → Prop} {A : Option Addr} {L : List OpV} (h : OpsRd w M A L) (hm : ∀ b, M' b → M b) : OpsRd w M' A L := ⟨h.1.mono hm, fun v hv => (h.2 v hv).mono hm⟩
theorem OpsRd.below {w w' : World} {M : Nat → Prop} {A : Option Addr} {L : List OpV} (h : OpsRd w M A L) (k : Below w.heap.size w w') : OpsRd w' M A L := ⟨h.1.below k, fun v hv => (h.2 v hv).below k⟩
theorem ops_step {w w1 : World} {B : Nat} {va va' : Value} {A : Option Addr} {L : List OpV} (h : OpsRd w (Mi B va) A L) (hg : w.grownBy w1 va.ownBlock) (ho : va'.ownBlock = va.ownBlock ∨ va'.ownBlock = some w.heap.size) : OpsRd w1 (Mi B va') A L := ⟨inn_step h.1 hg ho, fun v hv => inn_step (h.2 v hv) hg ho⟩
theorem encPr_one (x : PrV) : ∀ u ∈ encPr x, u.oneCell' = true := by intro u hu; simp [encPr] at hu; rcases hu with rfl | rfl | rfl | rfl <;> rfl
theorem Tryz.infoPr : (Tryz.prog.info? 24).map (fun i => (i.zero, i.size, i.bytes)) = some (some (.agg #[.string ⟨#[]⟩, .int .i64 0, .int .i64 0, .slice none 0 0]), 4, 56) := by kernel_rfl
theorem PrsRd.mono {w : World} {M M' : Nat → Prop} {A : Option Addr} {Ps : List PrV} (h : PrsRd w M A Ps) (hm : ∀ b, M' b → M b) : PrsRd w M' A Ps := ⟨h.1.mono hm, fun v hv => (h.2 v hv).mono hm⟩
theorem PrsRd.below {w w' : World} {M : Nat → Prop} {A : Option Addr} {Ps : List PrV} (h : PrsRd w M A Ps) (k : Below w.heap.size w w') : PrsRd w' M A Ps := ⟨h.1.below k, fun v hv => (h.2 v hv).below k⟩
set_option maxRecDepth 100000 in
set_option maxHeartbeats 12800000 in
theorem Scripts_c (SA : Option Addr) (sc : Nat) (Ps : List PrV) (w : World) (hs : PrsRd w NoBlk SA Ps) (hsn : Ps.length ≤ maxLen) (hsz : ∀ v ∈ Ps, PrSz v) :
 Calls Tryz.prog 14 #[.slice SA Ps.length sc] w fun e w' => (∃ B c2 Qs, e = .returned (.slice B (List.length Qs) c2) ∧ Qs.map prM = scrM (Ps.map prM) ∧ PrsRd w' (· < w.heap.size) B Qs ∧ (∀ v ∈ Qs, PrSz v) ∧ Qs.length ≤ c2) ∧ Below w.heap.size w w' := by
 obtain ⟨il, hil, hlz0, hlz1, hlz2⟩ := info_parts Tryz.infoPr
 have hsn' : Ps.length ≤ 9223372036854775807 := hsn
 have HPr := hide (fun (w' : World) (k : Below w.heap.size w w') (i : Nat) (hi : i < Ps.length) => pr_cells (hs.1.below k) i hi)
 have HFew := hide (fun (w' : World) (k : Below w.heap.size w w') (i : Nat) (hi : i < Ps.length) => few_c (prAt Ps i).s (prAt Ps i).d (prAt Ps i).j (prAt Ps i).PA (prAt Ps i).L (prAt Ps i).pc 8 w' ((hs.2 _ (prAt_mem hi)).below k) (hsz _ (prAt_mem hi)).1 (hsz _ (prAt_mem hi)).2.2 (by omega))
 have HSz := hide (fun (i : Nat) (hi : i < Ps.length) => hsz _ (prAt_mem hi))
 have HTk := hide (show ∀ k, (h : k < Ps.length) → ((Ps.map prM).take (k + 1)).map fewPr = ((Ps.map prM).take k).map fewPr ++ [fewPr (prM (prAt Ps k))] from fun k h => by
  have e : (Ps.map prM)[k]? = some (prM (prAt Ps k)) := by rw [List.getElem?_map, prAt_some h]; rfl
  rw [List.take_add_one, e]
  simp)
 have HFin := hide (show ∀ k, (k = Ps.length ∨ k = 4) → k ≤ Ps.length → k ≤ 4 → ((Ps.map prM).take k).map fewPr = scrM (Ps.map prM) from fun k hk h1 h2 => by
  unfold scrM
  rcases hk with rfl | rfl
  ·rw [List.take_of_length_le (by simp), List.take_of_length_le (by simp; omega)]
  ·rfl)
 obtain ⟨np, hnp⟩ : ∃ np, np = Ps.length := ⟨_, rfl⟩
 rw [← hnp] at HPr HFew HSz HTk HFin hsn' ⊢
 obtain ⟨W2, hW2⟩ : ∃ W2, W2 = w.alloc (.cells #[] 24) := ⟨_, rfl⟩
 have HB2 := hide (show Below w.heap.size w W2 by rw [hW2]; exact below_alloc _ _)
 have HO2 := hide (show W2.ownsRow w.heap.size 24 4 (.slice (some ⟨w.heap.size, 0, none⟩) 0 0) 0 (flat encPr []) by rw [hW2]; simpa [flat] using own_empty' (w := w) (base := w.heap.size) (g := w.heap.size) (e := 24) (size := 4) (by omega) (by omega))
 have HWW := hide hW2
 clear hs hsn hsz hnp hW2
 go_enter Tryz.func14, Tryz.ntmps14
 go_upto_region 2 with fail
 rw [← HWW.out]
 go_wp2_with fail
 go_loopw [3, 4] (fun v i wr => ∃ (k : Nat) (PP : List PrV), k ≤ np ∧ k ≤ 4 ∧ i = .int .i64 k ∧ PP.length = k ∧ Hid (PP.map prM = ((Ps.map prM).take k).map fewPr) ∧ Hid (wr.ownsRow w.heap.size 24 4 v PP.length (flat encPr PP)) ∧ Hid (∀ u ∈ PP, OpsRd wr (Mi w.heap.size v) u.PA u.L) ∧ Hid (∀ u ∈ PP, PrSz u) ∧ Hid (Below w.heap.size w wr)) (fun _ i _ => np - (intOf i).toNat)
 case atStart => exact ⟨0, [], Nat.zero_le _, by omega, rfl, rfl, hide (by simp), HO2, hide (fun u hu => by cases hu), hide (fun u hu => by cases hu), HB2⟩
 case round =>
  clear HO2 HB2
  obtain ⟨k, PP, hk, hk4, rfl, hPl, HPM, HOw, HIn, HPz, HB⟩ := hrel
  obtain ⟨OA, oc, rfl, hoc⟩ := own_cap HOw.out
  rw [hPl] at HOw hoc HIn ⊢
  have HPl := hide hPl
  clear hPl
  have w0 : IntKind.i64.wrap ((k : Int) + 1) = (k : Int) + 1 := IntWalk.i64_in _ (by omega)
  by_cases hlt : k < np ∧ k < 4
  case neg =>
   have HF := hide (HFin.out k (by omega) hk hk4)
   have HLt := hide hlt
   clear hlt
   go_wp2_with fail
   all_goals first
    | (exfalso; have := HLt.out; omega)
    | (go_ret
       refine ⟨⟨OA, oc, PP, by rw [HPl.out]; rfl, by rw [HPM.out, HF.out], ⟨Rd.of_own HOw.out (fun kk hk => hk), fun u hu => (HIn.out u hu).mono (fun b hb => Or.inl hb)⟩, HPz.out, by rw [HPl.out]; exact hoc⟩, HB.out⟩)
  case pos =>
   obtain ⟨hl1, hl2⟩ := hlt
   obtain ⟨pb, po, rfl, hpb, p0, p1, p2, p3⟩ := HPr.out wr HB.out k hl1
   have HFk := hide (HFew.out wr HB.out k hl1)
   have HSk := hide (HSz.out k hl1)
   have HTk1 := hide (HTk.out k hl1)
   obtain ⟨v, hv⟩ : ∃ v, v = prAt Ps k := ⟨_, rfl⟩
   rw [← hv] at p0 p1 p2 p3 HFk HSk HTk1
   obtain ⟨vs, vd, vj, vPA, vpc, vL⟩ := v
   simp only at p0 p1 p2 p3 HFk HSk HTk1
   obtain ⟨vn, hvn⟩ : ∃ vn, vn = vL.length := ⟨_, rfl⟩
   rw [← hvn] at p3 HFk
   have HVn := hide hvn
   have d1 : decide ((k : Int) < (np : Int)) = true := by simp; exact hl1
   have d2 : decide ((k : Int) < 4) = true := by simp; omega
   have d3 : decide (k < 4) = true := by simp; omega
   have j1 : (0 : Int) ≤ (k : Int) := by omega
   have j2 : (k : Int) < (np : Int) := by omega
   have HL12 := hide (And.intro hl1 hl2)
   clear hv hvn hl1 hl2
   go_wp2_with fail
   refine HFk.out.mono ?_
   rintro e w3 ⟨⟨B9, L9, c9, rfl, hL9, hr9⟩, hb3⟩
   have HB3 := hide (HB.out.trans (hb3.mono HB.out.size))
   have HOw3 := hide (own_only HOw.out (Only.of_below hb3 NoBlk) (fun _ _ h => h.elim))
   have HIn3 := hide (show ∀ u ∈ PP, OpsRd w3 (Mi w.heap.size (.slice OA k oc)) u.PA u.L from fun u hu => (HIn.out u hu).below hb3)
   have HNew3 := hide (show OpsRd w3 (Mi w.heap.size (.slice OA k oc)) B9 L9 from hr9.mono (fun b hb => by
    have h0 := HB.out.size
    rcases hb with hb | hb
    ·show b < wr.heap.size; omega
    ·exact own_ltF HOw.out b hb))
   have HL9 := hide hL9
   clear hr9 hb3 hL9
   obtain ⟨v9, hv9⟩ : ∃ v9 : PrV, v9 = ⟨cutS vs 20, vd, vj, B9, c9, L9⟩ := ⟨_, rfl⟩
   have Hv9 := hide hv9
   have HNw := hide (rd_blkN (M := NoBlk) (Blk.new w3 24 (encPr (⟨cutS vs 20, vd, vj, B9, c9, L9⟩ : PrV)).toArray) (fun h => h))
   have hga : w.heap.size ≤ w3.heap.size := HB3.out.size
   clear hv9
   go_wp2_with (at_builtin; refine wpList_append_rd _ rfl (.tmp 16) (.tmp 22) _ rfl w.heap.size 24 il _ 4 56 Tryz.underlying34 hil hlz0 hlz1 hlz2 rfl (by omega) _ k _ rfl (own_only HOw3.out ((Only.refl NoBlk w3).alloc (.cells (encPr (⟨cutS vs 20, vd, vj, B9, c9, L9⟩ : PrV)).toArray 24)) (fun _ _ h => h.elim)) NoBlk (some ⟨w3.heap.size, 0, none⟩) 1 1 (encPr (⟨cutS vs 20, vd, vj, B9, c9, L9⟩ : PrV)) rfl HNw.out rfl (encPr_one _) (by simp only [maxLen]; omega) (by omega) (by simp; omega) ?_; intro v2 wb hown2 hgr how; have Own2 := hide hown2; have Gr := hide hgr; have How := hide how; clear hown2 hgr how)
   have HB7 := hide ((HB3.out.alloc HB3.out.size (.cells (encPr (⟨cutS vs 20, vd, vj, B9, c9, L9⟩ : PrV)).toArray 24)).grown Gr.out (by simp; omega) (fun q hq => by have := own_ge HOw3.out q hq; omega))
   have HAl := hide (show Below w3.heap.size w3 (w3.alloc (.cells (encPr (⟨cutS vs 20, vd, vj, B9, c9, L9⟩ : PrV)).toArray 24)) from below_alloc _ _)
   obtain ⟨A5, c5, rfl, _⟩ := own_cap Own2.out
   have HIn7 := hide (show ∀ u ∈ PP ++ [(⟨cutS vs 20, vd, vj, B9, c9, L9⟩ : PrV)], OpsRd wb (Mi w.heap.size (.slice A5 (k + 1) c5)) u.PA u.L from fun u hu => by
    rcases List.mem_append.1 hu with hu | hu
    ·exact ops_step ((HIn3.out u hu).below HAl.out) Gr.out How.out
    ·rw [List.mem_singleton.1 hu]
     exact ops_step (HNew3.out.below HAl.out) Gr.out How.out)
   have HPz7 := hide (show ∀ u ∈ PP ++ [(⟨cutS vs 20, vd, vj, B9, c9, L9⟩ : PrV)], PrSz u from fun u hu => by
    rcases List.mem_append.1 hu with hu | hu
    ·exact HPz.out u hu
    ·rw [List.mem_singleton.1 hu]
     exact ⟨Nat.le_trans (few_len HL9.out) HSk.out.1, Nat.le_trans (cutS_le vs 20) HSk.out.2.1, few_sz HL9.out HSk.out.2.2⟩)
   have HPM7 := hide (show (PP ++ [(⟨cutS vs 20, vd, vj, B9, c9, L9⟩ : PrV)]).map prM = ((Ps.map prM).take (k + 1)).map fewPr by
    rw [HTk1.out, List.map_append, HPM.out]
    congr 1
    show [progM (cutS vs 20) vd vj L9] = _
    rw [fewPr_of ⟨vs, vd, vj, vPA, vpc, vL⟩ L9 HL9.out])
   have HOwb := hide (show wb.ownsRow w.heap.size 24 4 (.slice A5 (k + 1) c5) (k + 1) (flat encPr (PP ++ [(⟨cutS vs 20, vd, vj, B9, c9, L9⟩ : PrV)])) from by
    have e : flat encPr (PP ++ [(⟨cutS vs 20, vd, vj, B9, c9, L9⟩ : PrV)]) = flat encPr PP ++ encPr (⟨cutS vs 20, vd, vj, B9, c9, L9⟩ : PrV) := by simp [flat]
    rw [e]
    exact Own2.out)
   have HPl7 := hide (show (PP ++ [(⟨cutS vs 20, vd, vj, B9, c9, L9⟩ : PrV)]).length = k + 1 by rw [List.length_append, HPl.out]; rfl)
   clear Own2 Gr HNw How HAl
   go_roundw
   case rel => exact ⟨k + 1, PP ++ [(⟨cutS vs 20, vd, vj, B9, c9, L9⟩ : PrV)], by have := HL12.out; omega, by have := HL12.out; omega, by go_num, HPl7.out, HPM7, by rw [HPl7.out]; exact HOwb, HIn7, HPz7, HB7⟩
   case measure => have := HL12.out; simp [intOf]; omega
end Go.Proofs.YtdmdohjdmnmabaaGreat
