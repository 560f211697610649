/- A script in memory of its own, somewhat cut. Conditions: those of each theorem. -/
import Derived.Test.YtaioaojfdngfdaaGreatDoorNb08
import Derived.Test.YtaioaojfdngfdaaGreatDoorNb22
import Derived.Test.YtaioaojfdngfdaaGreatDoorNb20
set_option linter.unusedVariables false
set_option linter.unusedSimpArgs false
namespace Go.Proofs.YtaioaojfdngfdaaGreatDoor
open Go.RowKit
theorem own_ltF {w : World} {base size n : Nat} {e : TypeId} {v : Value} {xs : List Value} (h : w.ownsRow base e size v n xs) : ∀ k, v.ownBlock = some k → k < w.heap.size := by
 intro k hk
 rcases h.2 with ⟨hv, hn⟩ | ⟨g, cap, cur, hv, hb, hh, _⟩
 ·subst hv; simp [Value.ownBlock] at hk
 ·subst hv
  simp [Value.ownBlock] at hk
  subst hk
  exact Blk.lt (t := e) (cs := cur) hh
/-- the blocks that stay apart from the inner rows: the elder ones, the row's own -/
def Mi (B : Nat) (va : Value) (k : Nat) : Prop := k < B ∨ va.ownBlock = some k
theorem inn_step {w w1 : World} {B : Nat} {va va' : Value} {A : Option Addr} {xs : List Value} (h : Rd w (Mi B va) A xs) (hg : w.grownBy w1 va.ownBlock) (ho : va'.ownBlock = va.ownBlock ∨ va'.ownBlock = some w.heap.size) : Rd w1 (Mi B va') A xs := by
 have q : Only (fun k => va.ownBlock = some k) w w1 := (Only.refl _ w).grown hg (fun k hk => Or.inl hk)
 rcases h with h | ⟨b, o, hA, hm, hb, hc⟩
 ·exact Or.inl h
 ·refine Or.inr ⟨b, o, hA, ?_, Nat.lt_of_lt_of_le hb q.size, fun j hj => (q.cell (p := ⟨b, o + j, none⟩) hb (fun hx => hm (Or.inr hx))).trans (hc j hj)⟩
  rintro (hx | hx)
  ·exact hm (Or.inl hx)
  ·rcases ho with ho | ho
   ·exact hm (Or.inr (ho ▸ hx))
   ·rw [ho] at hx; injection hx with hx; omega
/-- a script under way: its block, its ops, their arms -/
structure PrMid (w : World) (B : Nat) (s : ByteArray) (d j : Int) (va : Value) (L : List OpV) : Prop where
 blk : Blk w B 25 #[.string s, .int .i64 d, .int .i64 j, va]
 own : w.ownsRow (B + 2) 92 7 va L.length (flat encOp L)
 inn : ∀ v ∈ L, Rd w (Mi (B + 2) va) v.A (flat encArm v.o.arms)
section
variable {w w' : World} {B : Nat} {s : ByteArray} {d j : Int} {va : Value} {L : List OpV}
theorem PrMid.same (h : PrMid w B s d j va L) (q : Only NoBlk w w') : PrMid w' B s d j va L := ⟨h.blk.only q (fun h => h), own_only h.own q (fun _ _ h => h.elim), fun v hv => (h.inn v hv).only q (fun _ h => h.elim)⟩
theorem PrMid.alloc (h : PrMid w B s d j va L) (o : Obj) : PrMid (w.alloc o) B s d j va L := h.same ((Only.refl _ w).alloc o)
theorem PrMid.drew (h : PrMid w B s d j va L) : PrMid w.drew B s d j va L := h.same (Only.refl _ w).drew
theorem PrMid.cell (h : PrMid w B s d j va L) : w.cell? ⟨B, 3, none⟩ = some va := by rw [h.blk.cell]; rfl
theorem PrMid.growB (h : PrMid w B s d j va L) (hg : w.grownBy w' va.ownBlock) : Blk w' B 25 #[.string s, .int .i64 d, .int .i64 j, va] := Blk.grown h.blk h.own (by decide) hg
theorem PrMid.grow {v' : Value} {v : OpV} {m : Nat} (h : PrMid w B s d j va L) (hv : Rd w (Mi (B + 2) va) v.A (flat encArm v.o.arms)) (hg : w.grownBy w' va.ownBlock) (ho : w'.ownsRow (B + 2) 92 7 v' m (flat encOp L ++ encOp v)) (hm : m = L.length + 1) (hw : v'.ownBlock = va.ownBlock ∨ v'.ownBlock = some w.heap.size) : PrMid (w'.setCell ⟨B, 3, none⟩ v') B s d j v' (L ++ [v]) := by
 have hb := h.growB hg
 have q := (Only.refl (· = B) w').setCell (p := ⟨B, 3, none⟩) (Or.inl rfl) v'
 refine ⟨hb.set_ 3 v', own_only ?_ q ?_, ?_⟩
 ·subst hm
  have e : flat encOp (L ++ [v]) = flat encOp L ++ encOp v := by simp [flat]
  simpa [e] using ho
 ·intro g' cs hg hx
  subst hg
  exact Blk.ne_ hx hb (by decide) rfl
 ·intro u hu
  have h1 : Rd w (Mi (B + 2) va) u.A (flat encArm u.o.arms) := by
   rcases List.mem_append.1 hu with hu | hu
   ·exact h.inn u hu
   ·rw [List.mem_singleton.1 hu]; exact hv
  exact (inn_step h1 hg hw).only q (fun k hk => Or.inl (by have : k = B := hk; omega))
end
def fewOps (L : List OpV) (k : Nat) : List OpM := (L.take k).map (fun v => fewOp v.o)
theorem fewOps_succ (L : List OpV) (k : Nat) (h : k < L.length) : fewOps L (k + 1) = fewOps L k ++ [fewOp (opAt L k).o] := by
 have e : opAt L k = L[k] := by simp [opAt, List.getD, h]
 unfold fewOps
 rw [List.take_succ_eq_append_getElem h, ← e]
 simp
set_option maxRecDepth 100000 in
set_option maxHeartbeats 12800000 in
theorem few_c (s : ByteArray) (d j : Int) (A : Option Addr) (L : List OpV) (c N : Nat) (w : World) (hr : OpsRd w NoBlk A L) (hn : L.length ≤ maxLen) (hz : ∀ v ∈ L, OpSz v) (hN : N ≤ 1000) :
 Calls Tryz.prog 33 #[.agg #[.string s, .int .i64 d, .int .i64 j, .slice A L.length c], .int .i64 N] w fun e w' =>
  (∃ B L' c2, e = .returned (.agg #[.string (cutS s 20), .int .i64 d, .int .i64 j, .slice B L'.length c2]) ∧ L'.map (·.o) = fewOps L N ∧ OpsRd w' (· < w.heap.size) B L') ∧ Below w.heap.size w w' := by
 obtain ⟨ia, hia, hz0, hz1, hz2⟩ := info_parts Tryz.infoOp
 have hn' : L.length ≤ 9223372036854775807 := hn
 have HCut := hide (fun s m w hm => cutS_c s m w hm)
 have HOp := hide (fun k t n gt A l c x y w hr hn => fewop_c k t n gt A l c x y w hr hn)
 have HR := hide (fun (i : Nat) (hi : i < L.length) => op_cells hr.1 i hi)
 have HI := hide (fun (i : Nat) (hi : i < L.length) => hr.2 _ (opAt_mem hi))
 have HSz := hide (fun (i : Nat) (hi : i < L.length) => hz _ (opAt_mem hi))
 have HS := hide (fun k h => fewOps_succ L k h)
 have HTk := hide (show ∀ q, (q = L.length ∨ q = N) → q ≤ L.length → q ≤ N → fewOps L N = fewOps L q from by
  intro q hq h1 h2
  rcases hq with rfl | rfl
  ·unfold fewOps
   rw [List.take_of_length_le h2, List.take_of_length_le (Nat.le_refl _)]
  ·rfl)
 have HN0 := hide hn
 obtain ⟨m, hm⟩ : ∃ m, m = L.length := ⟨_, rfl⟩
 rw [← hm] at hn' HR HI HSz HS HTk HN0 ⊢
 clear hr hn hm hz
 go_enter Tryz.func33, Tryz.ntmps33
 go_wp2_with fail
 refine (HCut.out s 20 _ (by omega)).mono ?_
 rintro e wc ⟨rfl, rfl⟩
 go_wp2_with fail
 have HZ0 := hide (show Blk (((w.alloc (.cells #[.string (cutS s 20), .int .i64 d, .int .i64 j, .slice (some ⟨w.heap.size + 1 + 1, 0, none⟩) 0 0] 25)).alloc (.cells #[.string ⟨#[]⟩, .int .i64 0, .int .i64 0, .slice none 0 0] 25)).alloc (.cells #[] 92)) (w.heap.size + 1) 25 #[.string ⟨#[]⟩, .int .i64 0, .int .i64 0, .slice none 0 0] from (Blk.new' (by simp)).alloc _)
 go_loopw [6] (fun i wr => ∃ (q : Nat) (va : Value) (LL : List OpV), q ≤ m ∧ q ≤ N ∧ i = .int .i64 q ∧ Hid (LL.length = q) ∧ Hid (LL.map (·.o) = fewOps L q) ∧ Hid (PrMid wr w.heap.size (cutS s 20) d j va LL) ∧ Hid (Blk wr (w.heap.size + 1) 25 #[.string ⟨#[]⟩, .int .i64 0, .int .i64 0, .slice none 0 0]) ∧ Hid (Below w.heap.size w wr)) (fun i _ => m - (intOf i).toNat)
 case atStart => exact ⟨0, _, [], Nat.zero_le _, Nat.zero_le _, rfl, hide rfl, hide rfl, hide ⟨((Blk.new _ _ _).alloc _).alloc _, by simpa [flat] using own_empty' (w := (w.alloc (.cells #[.string (cutS s 20), .int .i64 d, .int .i64 j, .slice (some ⟨w.heap.size + 1 + 1, 0, none⟩) 0 0] 25)).alloc (.cells #[.string ⟨#[]⟩, .int .i64 0, .int .i64 0, .slice none 0 0] 25)) (base := w.heap.size + 2) (g := w.heap.size + 2) (e := 92) (size := 7) (by simp) (by simp), fun v hv => by cases hv⟩, HZ0, hide ((((below_alloc _ _).alloc (by simp) _).alloc (by simp; omega) _))⟩
 case round =>
  clear HZ0
  obtain ⟨q, va, LL, hqm, hqN, rfl, HLn, HLM, HM, HZ, HB⟩ := hrel
  by_cases hlt : q < m ∧ q < N
  case neg =>
   have HQ := hide (HTk.out q (by omega) (by omega) (by omega))
   obtain ⟨VA, vc, rfl, _⟩ := own_cap HM.out.own
   obtain ⟨fn, hfn⟩ : ∃ fn, fn = LL.length := ⟨_, rfl⟩
   have HRm := hide (Rd.of_own (M := (· < w.heap.size + 2)) HM.out.own (fun k hk => hk))
   have hblk := HM.out.blk
   rw [← hfn] at hblk
   have Hfn := hide hfn
   obtain ⟨⟨v0, v1, v2, v3⟩, _⟩ := hblk.four
   obtain ⟨⟨z0, z1, z2, z3⟩, e0, e1, e2, e3⟩ := HZ.out.four
   have Hlt := hide hlt
   clear hblk hfn hlt
   go_wp2_with fail
   all_goals first
    | (exfalso; have := Hlt.out; omega)
    | (rw [put4]
       have r2 := HZ.out.put [.string (cutS s 20), .int .i64 d, .int .i64 j, .slice VA fn vc] rfl
       have r3 := below_put [.string (cutS s 20), .int .i64 d, .int .i64 j, .slice VA fn vc] 0 HB.out (show w.heap.size ≤ w.heap.size + 1 by omega)
       have r4 := (HRm.out.only (only_put [.string (cutS s 20), .int .i64 d, .int .i64 j, .slice VA fn vc] 0 wr (w.heap.size + 1)) (fun k hk => by have : k = w.heap.size + 1 := hk; show k < w.heap.size + 2; omega)).mono (M' := (· < w.heap.size)) (fun k hk => by have : k < w.heap.size := hk; show k < w.heap.size + 2; omega)
       obtain ⟨⟨p0, p1, p2, p3⟩, _⟩ := r2.four
       refine bodyPost_ret (v := .agg #[.string (cutS s 20), .int .i64 d, .int .i64 j, .slice VA fn vc]) (by simp [results, Tryz.results33, go_sem, p0, p1, p2, p3]) rfl ?_
       refine ⟨⟨VA, LL, vc, by rw [← Hfn.out], by rw [HQ.out]; exact HLM.out, r4, fun v hv => ?_⟩, r3⟩
       exact ((HM.out.inn v hv).only (only_put [.string (cutS s 20), .int .i64 d, .int .i64 j, .slice VA fn vc] 0 wr (w.heap.size + 1)) (fun k hk => Or.inl (by have : k = w.heap.size + 1 := hk; omega))).mono (M' := (· < w.heap.size)) (fun k hk => Or.inl (by have : k < w.heap.size := hk; omega)))
  case pos =>
   obtain ⟨hl1, hl2⟩ := hlt
   obtain ⟨b, ob, rfl, hb, r0, r1, r2, r3, r4, r5, r6⟩ := HR.out q hl1
   have HSq := hide (HS.out q hl1)
   have HIq := hide (HI.out q hl1)
   have HSzq := hide (HSz.out q hl1)
   obtain ⟨a, ha⟩ : ∃ a, a = opAt L q := ⟨_, rfl⟩
   rw [← ha] at r0 r1 r2 r3 r4 r5 r6 HSq HIq HSzq
   clear ha
   obtain ⟨⟨ok, ot, on_, og, oa, ox, oy⟩, oA, oc⟩ := a
   simp only at r0 r1 r2 r3 r4 r5 r6 HIq
   have HL0 := hide r0
   have HL1 := hide r1
   have HL2 := hide r2
   have HL3 := hide r3
   have HL4 := hide r4
   have HL5 := hide r5
   have HL6 := hide r6
   obtain ⟨VA, vc, rfl, hvc⟩ := own_cap HM.out.own
   have j1 : (0 : Int) ≤ (q : Int) := by omega
   have j2 : (q : Int) < (m : Int) := by omega
   have w1 : IntKind.i64.wrap ((q : Int) + 1) = (q : Int) + 1 := IntWalk.i64_in _ (by omega)
   have hfl := HLn.out
   have HFl := hide hfl
   rw [hfl] at HM hvc
   clear hfl r0 r1 r2 r3 r4 r5 r6
   have hgl := HM.out.blk.lt
   have d1 : decide ((q : Int) < (m : Int)) = true := by simp; omega
   have d2 : decide ((q : Int) < (N : Int)) = true := by simp; omega
   have Hlt := hide (And.intro hl1 hl2)
   have HT := hide trivial
   go_upto_region 6 with fail
   obtain ⟨V0, hV0⟩ : ∃ V9, V9 = wr.drew := ⟨_, rfl⟩
   have HM0 := hide (HM.out.drew)
   have HB0 := hide (below_dr HB.out)
   have HZ0 := hide (HZ.out.drew)
   rw [← hV0] at HM0 HB0 HZ0
   refine wp_region_pref (l1 := ?_) (l2 := ?_) 10 (fun w' => w'.cell? ⟨w.heap.size, 3, none⟩ = some (.slice VA q vc) ∧ w'.cell? ⟨b, ob + q * 7, none⟩ = some (.int .i64 ok) ∧ w'.cell? ⟨b, ob + q * 7 + 1, none⟩ = some (.string ot) ∧ w'.cell? ⟨b, ob + q * 7 + 2, none⟩ = some (.int .i64 on_) ∧ w'.cell? ⟨b, ob + q * 7 + 3, none⟩ = some (.int .i64 og) ∧ w'.cell? ⟨b, ob + q * 7 + 4, none⟩ = some (.slice oA oa.length oc) ∧ w'.cell? ⟨b, ob + q * 7 + 5, none⟩ = some (.int .i64 ox) ∧ w'.cell? ⟨b, ob + q * 7 + 6, none⟩ = some (.int .i64 oy)) (by kernel_rfl) ?_ ?_ ?_ ?_ ?_ ?_ (fun hHeld => ?_)
   rotate_left 2
   ·simp
   ·kernel_rfl
   ·kernel_rfl
   ·simp only [List.take_succ_cons, List.take_zero]; rfl
   ·simp only [List.drop_succ_cons, List.drop_zero]; rfl
   ·rw [← hV0]; exact ⟨HM0.out.cell, bkeepL HB0.out hb HL0.out, bkeepL HB0.out hb HL1.out, bkeepL HB0.out hb HL2.out, bkeepL HB0.out hb HL3.out, bkeepL HB0.out hb HL4.out, bkeepL HB0.out hb HL5.out, bkeepL HB0.out hb HL6.out⟩
   rw [← hV0] at hHeld ⊢
   clear hV0
   refine tk 0 ?_ rfl ?_ ?_
   rotate_left
   ·(intro w9 hS9; (try simp only [ga]); go_simp <;> rfl)
   refine tk 1 ?_ rfl ?_ ?_
   rotate_left
   ·(intro w9 hS9; (try simp only [ga]); go_simp <;> rfl)
   refine tk 2 ?_ rfl ?_ ?_
   rotate_left
   ·(intro w9 hS9; (try simp only [ga]); go_simp <;> rfl)
   refine tk 3 ?_ rfl ?_ ?_
   rotate_left
   ·(intro w9 hS9; (try simp only [ga]); go_simp <;> rfl)
   refine tk 4 ?_ rfl ?_ ?_
   rotate_left
   ·(intro w9 hS9; (try simp only [ga]); go_simp <;> rfl)
   refine tk 5 ?_ rfl ?_ ?_
   rotate_left
   ·(intro w9 hS9; (try simp only [ga]); go_simp <;> rfl)
   try simp only [Act.put, gp]
   refine rdy 6 rfl (fun K hK => ?_)
   try simp only [ga]
   try go_simp
   go_at_call 58
   refine (HOp.out ok ot on_ og oA oa oc ox oy _ (HIq.out.below HB0.out) HSzq.out.2.1).mono ?_
   rintro e V1 ⟨⟨B9, c9, rfl, hrd9⟩, hb9⟩
   have HM1 := hide (HM0.out.same (Only.of_below hb9 _))
   have HB1 := hide (HB0.out.trans (hb9.mono HB0.out.size))
   have HZ1 := hide (HZ0.out.below hb9)
   have Hv9 := hide (hrd9.mono (M' := Mi (w.heap.size + 2) (.slice VA q vc)) (fun k hk => by
    have hz9 := HZ0.out.lt
    rcases hk with hk | hk
    ·show k < V0.heap.size; omega
    ·exact own_ltF HM0.out.own k hk))
   clear hrd9 hb9
   refine hK.out _ _ ⟨HM1.out.cell, bkeepL HB1.out hb HL0.out, bkeepL HB1.out hb HL1.out, bkeepL HB1.out hb HL2.out, bkeepL HB1.out hb HL3.out, bkeepL HB1.out hb HL4.out, bkeepL HB1.out hb HL5.out, bkeepL HB1.out hb HL6.out⟩ (fun hHeld => ?_)
   clear hK K
   try simp only [Act.put, gp]
   obtain ⟨v9, hv9⟩ : ∃ v9 : OpV, v9 = ⟨fewOp ⟨ok, ot, on_, og, oa, ox, oy⟩, B9, c9⟩ := ⟨_, rfl⟩
   have Hv := hide hv9
   clear hv9
   refine rdy 7 rfl (fun K hK => ?_)
   try simp only [ga]
   try go_simp
   obtain ⟨V2, hV2⟩ : ∃ V9, V9 = V1.alloc (.cells (encOp (⟨fewOp ⟨ok, ot, on_, og, oa, ox, oy⟩, B9, c9⟩ : OpV)).toArray 92) := ⟨_, rfl⟩
   have HM2 := hide (HM1.out.alloc (.cells (encOp (⟨fewOp ⟨ok, ot, on_, og, oa, ox, oy⟩, B9, c9⟩ : OpV)).toArray 92))
   have HB2 := hide (HB1.out.alloc HB1.out.size (.cells (encOp (⟨fewOp ⟨ok, ot, on_, og, oa, ox, oy⟩, B9, c9⟩ : OpV)).toArray 92))
   have HZ2 := hide (HZ1.out.alloc (.cells (encOp (⟨fewOp ⟨ok, ot, on_, og, oa, ox, oy⟩, B9, c9⟩ : OpV)).toArray 92))
   have HI2 := hide (Blk.new V1 92 (encOp (⟨fewOp ⟨ok, ot, on_, og, oa, ox, oy⟩, B9, c9⟩ : OpV)).toArray)
   have Hv2 := hide (Hv9.out.alloc (.cells (encOp (⟨fewOp ⟨ok, ot, on_, og, oa, ox, oy⟩, B9, c9⟩ : OpV)).toArray 92))
   rw [← hV2] at HM2 HB2 HZ2 HI2 Hv2
   simp only [encOp, fewOp] at hV2
   rw [← hV2]
   clear hV2
   refine hK.out _ _ ⟨HM2.out.cell, bkeepL HB2.out hb HL0.out, bkeepL HB2.out hb HL1.out, bkeepL HB2.out hb HL2.out, bkeepL HB2.out hb HL3.out, bkeepL HB2.out hb HL4.out, bkeepL HB2.out hb HL5.out, bkeepL HB2.out hb HL6.out⟩ (fun hHeld => ?_)
   clear hK K
   try simp only [Act.put, gp]
   refine rdy 8 rfl (fun K hK => ?_)
   have hbs2 : w.heap.size + 2 ≤ V2.heap.size := by have := HZ2.out.lt; omega
   refine step_append_rd V2 (by rfl) (.tmp 27) (.tmp 33) _ (by rfl) (w.heap.size + 2) 92 ia _ 7 80 Tryz.underlying23 hia hz0 hz1 hz2 rfl (by omega) (.slice VA q vc) q (flat encOp LL) (by rfl) (by have := HM2.out.own; rw [HFl.out] at this; exact this) NoBlk (some ⟨V1.heap.size, 0, none⟩) 1 1 (encOp (⟨fewOp ⟨ok, ot, on_, og, oa, ox, oy⟩, B9, c9⟩ : OpV)) (by rfl) (rd_blkN HI2.out (fun h => h)) rfl (encOp_one _) (by simp only [maxLen]; omega) (by omega) hbs2 ?_
   intro v3 V3 hown2 hgr how
   obtain ⟨A4, c4, rfl, hc4⟩ := own_cap hown2
   have HG3 := hide hgr
   have HW3 := hide how
   have HOw3 := hide hown2
   have HBk3 := hide (HM2.out.growB hgr)
   have HB3 := hide (HB2.out.grown hgr (by omega) (fun k hk => by have := own_ge HM2.out.own k hk; omega))
   have HZ3 := hide (HZ2.out.grown HM2.out.own (by decide) hgr)
   clear hgr hown2 how
   refine hK.out _ _ ⟨(by rw [HBk3.out.cell]; rfl), bkeepL HB3.out hb HL0.out, bkeepL HB3.out hb HL1.out, bkeepL HB3.out hb HL2.out, bkeepL HB3.out hb HL3.out, bkeepL HB3.out hb HL4.out, bkeepL HB3.out hb HL5.out, bkeepL HB3.out hb HL6.out⟩ (fun hHeld => ?_)
   clear hK K
   refine tk 9 ?_ rfl ?_ ?_
   rotate_left
   ·(intro w9 hS9; (try simp only [ga]); go_simp <;> rfl)
   try simp only [Act.put, gp]
   refine wpAnyH_done (by kernel_rfl) ?_ _
   simp only [Exit.then]
   clear hHeld
   have f4 := HBk3.out.frozen 3
   have k4 : V3.cell? ⟨w.heap.size, 3, none⟩ = some (.slice VA q vc) := by rw [HBk3.out.cell]; rfl
   have HM4 := hide (HM2.out.grow (v' := .slice A4 (q + 1) c4) (v := (⟨fewOp ⟨ok, ot, on_, og, oa, ox, oy⟩, B9, c9⟩ : OpV)) (m := q + 1) Hv2.out HG3.out HOw3.out (by rw [HFl.out]) HW3.out)
   have HB4 := hide (HB3.out.setCell (Nat.le_refl _) (p := ⟨w.heap.size, 3, none⟩) (.slice A4 (q + 1) c4))
   have HZ4 := hide (HZ3.out.only ((Only.refl (· = w.heap.size) V3).setCell (p := ⟨w.heap.size, 3, none⟩) (Or.inl rfl) (.slice A4 (q + 1) c4)) (fun h => by omega))
   have HL4' := hide (show (LL ++ [(⟨fewOp ⟨ok, ot, on_, og, oa, ox, oy⟩, B9, c9⟩ : OpV)]).length = q + 1 by rw [List.length_append, HFl.out]; rfl)
   have HM4' := hide (show (LL ++ [(⟨fewOp ⟨ok, ot, on_, og, oa, ox, oy⟩, B9, c9⟩ : OpV)]).map (·.o) = fewOps L (q + 1) by rw [HSq.out, List.map_append, HLM.out]; rfl)
   go_wp2_with fail
   go_roundw
   ·exact ⟨q + 1, _, _, by omega, by omega, by simp, HL4', HM4', HM4, HZ4, HB4⟩
   ·simp only [intOf]; omega
end Go.Proofs.YtaioaojfdngfdaaGreatDoor
