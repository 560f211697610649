/- Parts of a chain of lemmas: SPg, Live15. Conditions: those of each theorem. -/
import Derived.Test.YtaioaojfdngfdaaGreatDoorNb08
import Derived.Test.YtaioaojfdngfdaaGreatDoorNb45
import Derived.Deep.RegionHeld3
set_option linter.unusedVariables false
set_option linter.unusedSimpArgs false
namespace Go.Proofs.YtaioaojfdngfdaaGreatDoor
open Go.RowKit Go.Sort
set_option maxRecDepth 100000 in
set_option maxHeartbeats 12800000 in
theorem sProg_c (s : ByteArray) (d j : Int) (PA : Option Addr) (pc : Nat) (L : List OpV) (w : World) (hr : OpsRd w NoBlk PA L) (hn : L.length ≤ maxLen) (hs : s.size ≤ 9223372036854775807) (hsz : ∀ v ∈ L, OpSz v) (ht : Tab w) :
 Calls Tryz.prog 35 #[.agg #[.string s, .int .i64 d, .int .i64 j, .slice PA L.length pc]] w fun e w' => e = .returned (.tuple #[.string ⟨(if goodM (progM s d j L) = true then progT (progM s d j L) else []).toArray⟩, .int .i64 (if goodM (progM s d j L) = true then 0 else 2)]) ∧ Only NoBlk w w' := by
 obtain ⟨nm, rfl⟩ : ∃ nm : List UInt8, s = ⟨nm.toArray⟩ := ⟨s.data.toList, rfl⟩
 obtain ⟨P, hP⟩ : ∃ P, P = progM ⟨nm.toArray⟩ d j L := ⟨_, rfl⟩
 obtain ⟨W, hW⟩ : ∃ W, W = w.alloc (.cells #[.string ⟨nm.toArray⟩, .int .i64 d, .int .i64 j, .slice PA L.length pc] 25) := ⟨_, rfl⟩
 obtain ⟨g, hg⟩ : ∃ g, g = w.heap.size := ⟨_, rfl⟩
 have HN := hide (show Only NoBlk w W by rw [hW]; exact (Only.refl _ w).alloc _)
 have HG := hide (show Blk W g 25 #[.string ⟨nm.toArray⟩, .int .i64 d, .int .i64 j, .slice PA L.length pc] by rw [hW, hg]; exact Blk.new _ _ _)
 have HGd := hide (pGood_c ⟨nm.toArray⟩ d j PA pc L W (hr.only HN.out (fun _ h => h)) hn hs hsz)
 have HT := hide (fun (w' : World) (k : Only NoBlk w w') => ht.only k)
 have HOr := hide (fun (w' : World) (k : Only NoBlk w w') => hr.only k (fun _ h => h))
 obtain ⟨m, hm⟩ : ∃ m, m = L.length := ⟨_, rfl⟩
 have hmx : m ≤ 9223372036854775807 := by rw [hm]; exact Nat.le_trans hn (by simp [maxLen])
 have Hm := hide hm
 have HW := hide (show W = w.alloc (.cells #[.string ⟨nm.toArray⟩, .int .i64 d, .int .i64 j, .slice PA m pc] 25) by rw [hW, hm])
 rw [← hm] at HG HGd ⊢
 rw [← hP] at HGd ⊢
 have HP := hide hP
 have Hg := hide hg
 have c0 : W.cell? ⟨g, 0, none⟩ = some (.string ⟨nm.toArray⟩) := by rw [HG.out.cell]; rfl
 have c1 : W.cell? ⟨g, 1, none⟩ = some (.int .i64 d) := by rw [HG.out.cell]; rfl
 have c2 : W.cell? ⟨g, 2, none⟩ = some (.int .i64 j) := by rw [HG.out.cell]; rfl
 have c3 : W.cell? ⟨g, 3, none⟩ = some (.slice PA m pc) := by rw [HG.out.cell]; rfl
 clear hr hn hs hsz ht hW hm hP hg
 cases hgd : goodM P with
 | false =>
  have Hgd := hide hgd
  rw [hgd] at HGd
  clear hgd
  go_enter Tryz.func35, Tryz.ntmps35
  go_upto_region 1 with fail
  change Code.wp _ _ _ _ (w.alloc (.cells #[.string ⟨nm.toArray⟩, .int .i64 d, .int .i64 j, .slice PA m pc] 25))
  rw [← HW.out, ← Hg.out]
  go_wp2_with fail
  refine HGd.out.mono ?_
  rintro e w2 ⟨rfl, ho2⟩
  have HO2 := hide (HN.out.trans ho2)
  clear ho2
  go_wp2_with fail
  refine bodyPost_ret (v := .tuple #[.string ⟨#[]⟩, .int .i64 2]) (by simp [results, Tryz.results35, go_sem]) rfl ?_
  exact ⟨rfl, HO2.out⟩
 | true =>
  obtain ⟨hd, hj0, hj1, hm2, hs2, hall⟩ := prog_good (by rw [← HP.out]; exact hgd)
  have Hgd := hide hgd
  have HWa := hide hall
  have hm3 : m ≤ 200 := by rw [Hm.out]; exact hm2
  rw [hgd] at HGd
  have HHd := hide (show headT P = lineT [[115, 99, 114, 105, 112, 116], nm, tkT d, Lib.itoa j] by rw [HP.out]; rfl)
  have HHl := hide (head_len hgd)
  rw [HHd.out] at HHl
  obtain ⟨T, hT⟩ : ∃ T, T = tgts (L.map (·.o)) := ⟨_, rfl⟩
  have HTg := hide (fun (w' : World) (k : Only NoBlk w w') => Targets_c ⟨nm.toArray⟩ d j PA pc L w' (HOr.out w' k) (by omega) (fun v hv => (HWa.out v hv).arms))
  have HTl := hide (show T.length ≤ 20400 by
   have h1 := tgts_len (L.map (·.o))
   have h2 := jmps_len (l := L.map (·.o)) (fun o ho => by
    obtain ⟨v, hv, rfl⟩ := List.mem_map.1 ho
    exact (HWa.out v hv).arms)
   rw [List.length_map] at h2
   rw [hT]; omega)
  obtain ⟨Bf, hBf⟩ : ∃ Bf : Nat → List UInt8, Bf = fun q => headT P ++ bodyT opT T (L.map (·.o)) q := ⟨_, rfl⟩
  have HB0 := hide (show Bf 0 = [] ++ lineT [[115, 99, 114, 105, 112, 116], nm, tkT d, Lib.itoa j] by rw [hBf, ← HHd.out]; simp [bodyT])
  have HBs := hide (show ∀ q, Bf (q + 1) = Bf q ++ ((if (q : Int) ∈ T then lbT q else []) ++ atT opT (L.map (·.o)) q) from fun q => by rw [hBf]; show headT P ++ (bodyT opT T (L.map (·.o)) q ++ stepT opT T (L.map (·.o)) q) = _; rw [← List.append_assoc]; rfl)
  have HBl := hide (show ∀ q, q ≤ 1000 → (Bf q).length ≤ 100 + 1000040 * q from fun q hq => by
   have h1 := body_len (ops := L.map (·.o)) T (fun o ho => by
    obtain ⟨v, hv, rfl⟩ := List.mem_map.1 ho
    exact HWa.out v hv) q (by omega)
   have h2 := HHl.out
   rw [hBf]
   simp only [List.length_append]
   rw [HHd.out]; omega)
  have HBe := hide (show progT P = Bf (m + 1) by
   have e : P.ops = L.map (·.o) := by rw [HP.out]; rfl
   rw [hBf]; unfold progT; rw [e, ← hT, List.length_map, ← Hm.out])
  have HAt := hide (fun (q : Nat) (hq : q < m) => atT_at opT L q (by rw [← Hm.out]; exact hq))
  have HAe := hide (show atT opT (L.map (·.o)) m = [] by rw [Hm.out]; exact atT_end opT L)
  rw [← hT, ← Hm.out] at HTg
  have wm : IntKind.i64.wrap ((m : Int) + 1) = (m : Int) + 1 := IntWalk.i64_in _ (by omega)
  clear hgd hall hT hBf hm2
  go_enter Tryz.func35, Tryz.ntmps35
  go_upto_region 1 with fail
  change Code.wp _ _ _ _ (w.alloc (.cells #[.string ⟨nm.toArray⟩, .int .i64 d, .int .i64 j, .slice PA m pc] 25))
  rw [← HW.out, ← Hg.out]
  go_wp2_with fail
  refine HGd.out.mono ?_
  rintro e w2 ⟨rfl, ho2⟩
  have HO2 := hide (HN.out.trans ho2)
  have HG2 := hide (HG.out.only ho2 (fun h => h))
  clear ho2 c0 c1 c2 c3
  go_upto_region 4 with fail
  obtain ⟨V1, hV1⟩ : ∃ V1, V1 = w2.alloc (.cells #[.pointer none, .slice none 0 0] 120) := ⟨_, rfl⟩
  obtain ⟨b, hb⟩ : ∃ b, b = w2.heap.size := ⟨_, rfl⟩
  have HD1 := hide (show BlAt b b [] V1 by rw [hV1, hb]; exact BldAt.new)
  have HG1 := hide (show Blk V1 g 25 #[.string ⟨nm.toArray⟩, .int .i64 d, .int .i64 j, .slice PA m pc] by rw [hV1]; exact HG2.out.alloc _)
  have HON := hide (show ∀ w', Below b V1 w' → Only NoBlk w w' from fun w' k => HO2.out.trans (Only.of_below (by rw [← hb]; exact (show Below b w2 V1 by rw [hV1, hb]; exact below_alloc _ _).trans k) NoBlk))
  rw [← hV1, ← hb]
  clear hV1 hb
  have HLn := hide (fun (g : Nat) (l : List UInt8) (ws : List (List UInt8)) (w' : World) (h : BlAt b b l w') (hg : Blk w' g 9 (ws.map strV).toArray) (hn : ws.length ≤ 8) (hlen : l.length + (lineT ws).length ≤ 140737488355328) => line_c b b g l ws w' h hg hn hlen)
  have c0 : V1.cell? ⟨g, 0, none⟩ = some (.string ⟨nm.toArray⟩) := by rw [HG1.out.cell]; rfl
  have c1 : V1.cell? ⟨g, 1, none⟩ = some (.int .i64 d) := by rw [HG1.out.cell]; rfl
  have c2 : V1.cell? ⟨g, 2, none⟩ = some (.int .i64 j) := by rw [HG1.out.cell]; rfl
  have c3 : V1.cell? ⟨g, 3, none⟩ = some (.slice PA m pc) := by rw [HG1.out.cell]; rfl
  obtain ⟨V0, hV0⟩ : ∃ V9, V9 = V1.drew := ⟨_, rfl⟩
  have HO0 := hide (show Bo b b [] V1 V0 by rw [hV0]; exact (Bo.refl HD1.out).drew)
  have HG0 := hide (show Blk V0 g 25 #[.string ⟨nm.toArray⟩, .int .i64 d, .int .i64 j, .slice PA m pc] by rw [hV0]; exact HG1.out.drew)
  refine wp_region_held (S := fun w' => w'.cell? ⟨g, 0, none⟩ = some (.string ⟨nm.toArray⟩) ∧ w'.cell? ⟨g, 1, none⟩ = some (.int .i64 d) ∧ w'.cell? ⟨g, 2, none⟩ = some (.int .i64 j)) (by kernel_rfl) ?_
  change wpAnyH _ _ _ _ _ _ _ _ V1.drew
  have hHeld : (fun w' => w'.cell? ⟨g, 0, none⟩ = some (.string ⟨nm.toArray⟩) ∧ w'.cell? ⟨g, 1, none⟩ = some (.int .i64 d) ∧ w'.cell? ⟨g, 2, none⟩ = some (.int .i64 j)) V1.drew := ⟨c0, c1, c2⟩
  rw [← hV0] at hHeld ⊢
  simp only [List.size_toArray, List.length_cons, List.length_nil, Nat.zero_add, Nat.reduceAdd]
  clear hV0
  refine tk 0 ?_ rfl ?_ ?_
  rotate_left
  ·(intro w9 hS9; (try simp only [ga]); go_simp <;> rfl)
  refine tk 1 ?_ rfl ?_ ?_
  rotate_left
  ·(intro w9 hS9; (try simp only [ga]); go_simp <;> rfl)
  refine tk 2 ?_ rfl ?_ ?_
  rotate_left
  ·(intro w9 hS9; (try simp only [ga]); go_simp <;> rfl)
  refine tk 3 ?_ rfl ?_ ?_
  rotate_left
  ·(intro w9 hS9; (try simp only [ga]); go_simp <;> rfl)
  refine tk 5 ?_ rfl ?_ ?_
  rotate_left
  ·(intro w9 hS9; (try simp only [ga]); go_simp <;> rfl)
  refine tk 6 ?_ rfl ?_ ?_
  rotate_left
  ·(intro w9 hS9; (try simp only [ga]); go_simp <;> rfl)
  try simp only [Act.put, gp]
  refine rdy 4 rfl (fun K hK => ?_)
  try simp only [ga]
  try go_simp
  go_at_call 61
  refine (Text_c d _ hd.2 (HT.out _ (HON.out _ HO0.out.2.1))).mono ?_
  rintro e V2 ⟨rfl, hb9⟩
  have HO2 := hide (HO0.out.far hb9)
  have HG2 := hide (HG0.out.below hb9)
  clear hb9
  refine hK.out _ _ (by have q0 := HG2.out.cell 0; have q1 := HG2.out.cell 1; have q2 := HG2.out.cell 2; exact ⟨q0, q1, q2⟩) (fun hHeld => ?_)
  clear hK K
  try simp only [Act.put, gp]
  refine rdy 7 rfl (fun K hK => ?_)
  try simp only [ga]
  try go_simp
  go_at_call 54
  refine (Itoa_c j _ (by omega) (by omega) (HT.out _ (HON.out _ HO2.out.2.1))).mono ?_
  rintro e V3 ⟨rfl, hb9⟩
  have HO3 := hide (HO2.out.far hb9)
  have HG3 := hide (HG2.out.below hb9)
  clear hb9
  refine hK.out _ _ (by have q0 := HG3.out.cell 0; have q1 := HG3.out.cell 1; have q2 := HG3.out.cell 2; exact ⟨q0, q1, q2⟩) (fun hHeld => ?_)
  clear hK K
  try simp only [Act.put, gp]
  refine rdy 8 rfl (fun K hK => ?_)
  try simp only [ga]
  try go_simp
  obtain ⟨V4, hV9⟩ : ∃ V9, V9 = V3.alloc (.cells (([[115, 99, 114, 105, 112, 116], nm, tkT d, Lib.itoa j].map strV).toArray) 9) := ⟨_, rfl⟩
  obtain ⟨g4, hg9⟩ : ∃ g9, g9 = V3.heap.size := ⟨_, rfl⟩
  have HO4 := hide (show Bo b b (([] : List UInt8)) V1 V4 by rw [hV9]; exact HO3.out.alloc _)
  have HN4 := hide (show Blk V4 g4 9 ([[115, 99, 114, 105, 112, 116], nm, tkT d, Lib.itoa j].map strV).toArray by rw [hV9, hg9]; exact Blk.new _ _ _)
  have hV8 : V4 = V3.alloc (.cells #[.string ⟨([115, 99, 114, 105, 112, 116]).toArray⟩, .string ⟨(nm).toArray⟩, .string ⟨(tkT d).toArray⟩, .string ⟨(Lib.itoa j).toArray⟩] 9) := hV9
  try rw [← tkT_eq] at hV8
  have HG4 := hide (show Blk V4 g 25 #[.string ⟨nm.toArray⟩, .int .i64 d, .int .i64 j, .slice PA m pc] by rw [hV9]; exact HG3.out.alloc _)
  erw [← hV8]
  rw [← hg9]
  clear hV8 hV9 hg9
  refine hK.out _ _ (by have q0 := HG4.out.cell 0; have q1 := HG4.out.cell 1; have q2 := HG4.out.cell 2; exact ⟨q0, q1, q2⟩) (fun hHeld => ?_)
  clear hK K
  try simp only [Act.put, gp]
  refine rdy 9 rfl (fun K hK => ?_)
  try simp only [ga]
  try go_simp
  go_at_call 60
  refine (HLn.out g4 (([] : List UInt8)) [[115, 99, 114, 105, 112, 116], nm, tkT d, Lib.itoa j] _ HO4.out.1 HN4.out (by simp) (by have := HHl.out; simp only [List.length_nil]; omega)).mono ?_
  rintro e V5 ⟨rfl, hq9⟩
  have HO5 := hide (HO4.out.trans hq9)
  have HG5 := hide (HO4.out.blk hq9 HG4.out (by decide) (by decide))
  clear hq9 HN4
  refine hK.out _ _ (by have q0 := HG5.out.cell 0; have q1 := HG5.out.cell 1; have q2 := HG5.out.cell 2; exact ⟨q0, q1, q2⟩) (fun hHeld => ?_)
  clear hK K
  try simp only [Act.put, gp]
  refine wpAnyH_done (by kernel_rfl) ?_ _
  try simp only [Exit.then]
  clear hHeld
  clear c0 c1 c2 c3
  have c0 : V5.cell? ⟨g, 0, none⟩ = some (.string ⟨nm.toArray⟩) := by rw [HG5.out.cell]; rfl
  have c1 : V5.cell? ⟨g, 1, none⟩ = some (.int .i64 d) := by rw [HG5.out.cell]; rfl
  have c2 : V5.cell? ⟨g, 2, none⟩ = some (.int .i64 j) := by rw [HG5.out.cell]; rfl
  have c3 : V5.cell? ⟨g, 3, none⟩ = some (.slice PA m pc) := by rw [HG5.out.cell]; rfl
  go_wp2_with fail
  refine (HTg.out _ (HON.out _ HO5.out.2.1)).mono ?_
  rintro e V6 ⟨⟨A1, cT, rfl, hR6, hT6⟩, hb9⟩
  have HO6 := hide (HO5.out.far hb9)
  have HG6 := hide (HG5.out.below hb9)
  clear hb9
  have HKp := hide (fun (l : List UInt8) (w' : World) (h : Bo b b l V6 w') => tgt_keep HO6.out hR6 (hT6.imp id (fun ⟨g2, h1, _, h2⟩ => ⟨g2, h1, h2⟩)) l w' h)
  have HON6 := hide (fun (w' : World) (k : Below b V6 w') => HON.out w' (HO6.out.2.1.trans k))
  rw [← HB0.out] at HO6
  have HO7 := hide (Bo.refl HO6.out.1)
  clear hR6 hT6 c0 c1 c2 c3
  have c3 : V6.cell? ⟨g, 3, none⟩ = some (.slice PA m pc) := by rw [HG6.out.cell]; rfl
  go_wp2_with fail
  go_loopw [26] (fun i wr => ∃ q : Nat, q ≤ m + 1 ∧ i = .int .i64 q ∧ Hid (Bo b b (Bf q) V6 wr) ∧ Hid (Blk wr g 25 #[.string ⟨nm.toArray⟩, .int .i64 d, .int .i64 j, .slice PA m pc])) (fun i _ => m + 1 - (intOf i).toNat)
  case atStart => exact ⟨0, Nat.zero_le _, rfl, HO7, HG6⟩
  case round =>
   clear HO0 HG0 HO2 HG2 HO3 HG3 HO4 HG4 HO5 HG5 HO6 HG6 HO7 c3 HG1 HD1 HG HGd HTg HHl HHd HB0 wm
   obtain ⟨q, hq, rfl, HQ, HG⟩ := hrel
   have w0 : IntKind.i64.wrap ((q : Int) + 1) = (q : Int) + 1 := IntWalk.i64_in _ (by omega)
   obtain ⟨V20, hV20⟩ : ∃ V9, V9 = wr := ⟨_, rfl⟩
   rw [← hV20] at HQ HG ⊢
   clear hV20
   have HO20 := HQ
   have HG20 := HG
   clear HQ HG
   have hbl := HBl.out q (by omega)
   have hbl2 : (Bf q).length ≤ 70000000000000 := by omega
   by_cases hlt : q < m + 1
   case neg =>
    obtain ⟨hqe, _⟩ : q = m + 1 ∧ True := ⟨by omega, trivial⟩
    have d3 : decide ((q : Int) < (m : Int) + 1) = false := by simp; omega
    have d4 : decide (q < m + 1) = false := by simp; omega
    have HE := hide (show progT P = Bf q by rw [HBe.out, hqe])
    clear hqe
    go_wp2_with fail
    refine (Out_c b b _ _ HO20.out.1).mono ?_
    rintro e V21 ⟨rfl, hb9, _⟩
    have HN9 := hide (HON6.out _ (HO20.out.2.1.trans hb9))
    clear hb9
    go_wp2_with fail
    refine bodyPost_ret (v := .tuple #[.string ⟨(Bf q).toArray⟩, .int .i64 0]) (by simp [results, Tryz.results35, go_sem]) rfl ?_
    exact ⟨by rw [HE.out], HN9.out⟩
   case pos =>
    have d3 : decide ((q : Int) < (m : Int) + 1) = true := by simp; omega
    have d4 : decide (q < m + 1) = true := by simp; omega
    have HBq := hide (HBs.out q)
    have HCt := hide (contains_c A1 cT T q V20 (HKp.out _ _ HO20.out) (by have := HTl.out; omega))
    have HLb := hide (fun (w' : World) (k : Below b V6 w') => label_c (q : Int) w' (by omega) (by omega) (HT.out _ (HON6.out _ k)))
    have HLq := hide (show (lineT [[108, 97, 98, 101, 108], labelT (q : Int)]).length ≤ 40 from lb_len q (by omega))
    by_cases hop : q < m
    case neg =>
     have hqm : q = m := by omega
     have HAq := hide (show atT opT (L.map (·.o)) q = [] by rw [hqm]; exact HAe.out)
     have d6 : decide ((q : Int) < (m : Int)) = false := by simp; omega
     have d7 : decide (q < m) = false := by simp; omega
     clear hqm
     by_cases hin : (q : Int) ∈ T
     case pos =>
      have d5 : decide ((q : Int) ∈ T) = true := decide_eq_true hin
      rw [if_pos hin] at HBq
      rw [d5] at HCt
      clear d5 hin
      go_wp2_with fail
      refine HCt.out.mono ?_
      rintro e wq ⟨rfl, hwq⟩
      rw [hwq]
      clear hwq
      go_wp2_with fail
      refine (HLb.out _ HO20.out.2.1).mono ?_
      rintro e V21 ⟨rfl, hb9⟩
      have HO21 := hide (HO20.out.far hb9)
      have HG21 := hide (HG20.out.below hb9)
      clear hb9
      go_wp2_with fail
      obtain ⟨V22, hV9⟩ : ∃ V9, V9 = V21.alloc (.cells (([[108, 97, 98, 101, 108], labelT (q : Int)].map strV).toArray) 9) := ⟨_, rfl⟩
      obtain ⟨g22, hg9⟩ : ∃ g9, g9 = V21.heap.size := ⟨_, rfl⟩
      have HO22 := hide (show Bo b b (Bf q) V6 V22 by rw [hV9]; exact HO21.out.alloc _)
      have HN22 := hide (show Blk V22 g22 9 ([[108, 97, 98, 101, 108], labelT (q : Int)].map strV).toArray by rw [hV9, hg9]; exact Blk.new _ _ _)
      have hV8 : V22 = V21.alloc (.cells #[.string ⟨([108, 97, 98, 101, 108]).toArray⟩, .string ⟨(labelT (q : Int)).toArray⟩] 9) := hV9
      try rw [← tkT_eq] at hV8
      have HG22 := hide (show Blk V22 g 25 #[.string ⟨nm.toArray⟩, .int .i64 d, .int .i64 j, .slice PA m pc] by rw [hV9]; exact HG21.out.alloc _)
      erw [← hV8]
      rw [← hg9]
      clear hV8 hV9 hg9
      refine (HLn.out g22 (Bf q) [[108, 97, 98, 101, 108], labelT (q : Int)] _ HO22.out.1 HN22.out (by simp) (by have := HLq.out; omega)).mono ?_
      rintro e V23 ⟨rfl, hq9⟩
      have HO23 := hide (HO22.out.trans hq9)
      have HG23 := hide (HO22.out.blk hq9 HG22.out (by decide) (by decide))
      clear hq9 HN22
      have c3 : V23.cell? ⟨g, 3, none⟩ = some (.slice PA m pc) := by rw [HG23.out.cell]; rfl
      go_wp2_with fail
      go_roundw
      case rel => exact ⟨q + 1, by omega, by go_num, by rw [HBq.out, HAq.out, List.append_nil]; exact HO23, HG23⟩
      case measure => simp [intOf]; omega
     case neg =>
      have d5 : decide ((q : Int) ∈ T) = false := decide_eq_false hin
      rw [if_neg hin] at HBq
      rw [d5] at HCt
      clear d5 hin
      go_wp2_with fail
      refine HCt.out.mono ?_
      rintro e wq ⟨rfl, hwq⟩
      rw [hwq]
      clear hwq
      have c3 : V20.cell? ⟨g, 3, none⟩ = some (.slice PA m pc) := by rw [HG20.out.cell]; rfl
      go_wp2_with fail
      go_roundw
      case rel => exact ⟨q + 1, by omega, by go_num, by rw [HBq.out, HAq.out, List.append_nil]; rw [List.append_nil]; exact HO20, HG20⟩
      case measure => simp [intOf]; omega
    case pos =>
     have hql : q < L.length := by rw [← Hm.out]; exact hop
     have HAq := hide (HAt.out q hop)
     have d6 : decide ((q : Int) < (m : Int)) = true := by simp; omega
     have d7 : decide (q < m) = true := by simp; omega
     have j1 : (0 : Int) ≤ (q : Int) := by omega
     have j2 : (q : Int) < (m : Int) := by omega
     obtain ⟨ab, ao, hA⟩ : ∃ ab ao, PA = some ⟨ab, ao, none⟩ := by
      obtain ⟨ab, ao, hA, _⟩ := op_cells (HOr.out _ (HON6.out _ HO20.out.2.1)).1 q hql
      exact ⟨ab, ao, hA⟩
     subst hA
     have HCl := hide (show ∀ w', Below b V6 w' → w'.cell? ⟨ab, ao + q * 7, none⟩ = some (.int .i64 (opAt L q).o.kind) ∧ w'.cell? ⟨ab, ao + q * 7 + 1, none⟩ = some (.string (opAt L q).o.text) ∧ w'.cell? ⟨ab, ao + q * 7 + 2, none⟩ = some (.int .i64 (opAt L q).o.n) ∧ w'.cell? ⟨ab, ao + q * 7 + 3, none⟩ = some (.int .i64 (opAt L q).o.to) ∧ w'.cell? ⟨ab, ao + q * 7 + 4, none⟩ = some (.slice (opAt L q).A (opAt L q).o.arms.length (opAt L q).c) ∧ w'.cell? ⟨ab, ao + q * 7 + 5, none⟩ = some (.int .i64 (opAt L q).o.onT) ∧ w'.cell? ⟨ab, ao + q * 7 + 6, none⟩ = some (.int .i64 (opAt L q).o.onE) from fun w' k => by
      obtain ⟨ab2, ao2, hA2, _, a0, a1, a2, a3, a4, a5, a6⟩ := op_cells (HOr.out _ (HON6.out _ k)).1 q hql
      injection hA2 with hA2
      injection hA2 with e1 e2 _
      subst e1; subst e2
      exact ⟨a0, a1, a2, a3, a4, a5, a6⟩)
     have HOp := hide (fun (l : List UInt8) (w' : World) (h : BlAt b b l w') (k : Below b V6 w') (hl : l.length ≤ 70000000000000) => sOp_c b b l (opAt L q).o.kind (opAt L q).o.text (opAt L q).o.n (opAt L q).o.to (opAt L q).A (opAt L q).o.arms (opAt L q).c (opAt L q).o.onT (opAt L q).o.onE w' h (BldAt.lt h) (fun w2 k2 => (HOr.out w2 (HON6.out w2 (k.trans k2))).2 _ (opAt_mem hql)) (fun w2 k2 => HT.out w2 (HON6.out w2 (k.trans k2))) (HWa.out _ (opAt_mem hql)) hl)
     have HOe := hide (show opT (opAt L q).o = opT ⟨(opAt L q).o.kind, (opAt L q).o.text, (opAt L q).o.n, (opAt L q).o.to, (opAt L q).o.arms, (opAt L q).o.onT, (opAt L q).o.onE⟩ from rfl)
     rw [HOe.out] at HAq
     clear HOe
     obtain ⟨v9, hv9⟩ : ∃ v9, v9 = opAt L q := ⟨_, rfl⟩
     rw [← hv9] at HCl HOp HAq
     clear hv9
     obtain ⟨⟨uk, ut, un, ug, ua, ux, uy⟩, uA, uc⟩ := v9
     simp only at HCl HOp HAq
     obtain ⟨u, hu⟩ : ∃ u : OpM, u = ⟨uk, ut, un, ug, ua, ux, uy⟩ := ⟨_, rfl⟩
     rw [← hu] at HOp HAq
     obtain ⟨u9, hu9⟩ : ∃ u9, u9 = ua.length := ⟨_, rfl⟩
     rw [← hu9] at HCl HOp
     clear hu hu9
     by_cases hin : (q : Int) ∈ T
     case pos =>
      have d5 : decide ((q : Int) ∈ T) = true := decide_eq_true hin
      rw [if_pos hin] at HBq
      rw [d5] at HCt
      clear d5 hin
      go_wp2_with fail
      refine HCt.out.mono ?_
      rintro e wq ⟨rfl, hwq⟩
      rw [hwq]
      clear hwq
      go_wp2_with fail
      refine (HLb.out _ HO20.out.2.1).mono ?_
      rintro e V21 ⟨rfl, hb9⟩
      have HO21 := hide (HO20.out.far hb9)
      have HG21 := hide (HG20.out.below hb9)
      clear hb9
      go_wp2_with fail
      obtain ⟨V22, hV9⟩ : ∃ V9, V9 = V21.alloc (.cells (([[108, 97, 98, 101, 108], labelT (q : Int)].map strV).toArray) 9) := ⟨_, rfl⟩
      obtain ⟨g22, hg9⟩ : ∃ g9, g9 = V21.heap.size := ⟨_, rfl⟩
      have HO22 := hide (show Bo b b (Bf q) V6 V22 by rw [hV9]; exact HO21.out.alloc _)
      have HN22 := hide (show Blk V22 g22 9 ([[108, 97, 98, 101, 108], labelT (q : Int)].map strV).toArray by rw [hV9, hg9]; exact Blk.new _ _ _)
      have hV8 : V22 = V21.alloc (.cells #[.string ⟨([108, 97, 98, 101, 108]).toArray⟩, .string ⟨(labelT (q : Int)).toArray⟩] 9) := hV9
      try rw [← tkT_eq] at hV8
      have HG22 := hide (show Blk V22 g 25 #[.string ⟨nm.toArray⟩, .int .i64 d, .int .i64 j, .slice (some ⟨ab, ao, none⟩) m pc] by rw [hV9]; exact HG21.out.alloc _)
      erw [← hV8]
      rw [← hg9]
      clear hV8 hV9 hg9
      refine (HLn.out g22 (Bf q) [[108, 97, 98, 101, 108], labelT (q : Int)] _ HO22.out.1 HN22.out (by simp) (by have := HLq.out; omega)).mono ?_
      rintro e V23 ⟨rfl, hq9⟩
      have HO23 := hide (HO22.out.trans hq9)
      have HG23 := hide (HO22.out.blk hq9 HG22.out (by decide) (by decide))
      clear hq9 HN22
      have c3 : V23.cell? ⟨g, 3, none⟩ = some (.slice (some ⟨ab, ao, none⟩) m pc) := by rw [HG23.out.cell]; rfl
      obtain ⟨a0, a1, a2, a3, a4, a5, a6⟩ := HCl.out _ HO23.out.2.1
      go_wp2_with fail
      refine (HOp.out (Bf q ++ lineT [[108, 97, 98, 101, 108], labelT (q : Int)]) _ HO23.out.1 HO23.out.2.1 (by have := HLq.out; simp only [List.length_append]; omega)).mono ?_
      rintro e V30 ⟨rfl, hq9⟩
      have HO30 := hide (HO23.out.trans hq9)
      have HG30 := hide (HO23.out.blk hq9 HG23.out (by decide) (by decide))
      clear hq9
      go_wp2_with fail
      go_roundw
      case rel => exact ⟨q + 1, by omega, by go_num, by rw [HBq.out, HAq.out, ← List.append_assoc]; exact HO30, HG30⟩
      case measure => simp [intOf]; omega
     case neg =>
      have d5 : decide ((q : Int) ∈ T) = false := decide_eq_false hin
      rw [if_neg hin] at HBq
      rw [d5] at HCt
      clear d5 hin
      go_wp2_with fail
      refine HCt.out.mono ?_
      rintro e wq ⟨rfl, hwq⟩
      rw [hwq]
      clear hwq
      have c3 : V20.cell? ⟨g, 3, none⟩ = some (.slice (some ⟨ab, ao, none⟩) m pc) := by rw [HG20.out.cell]; rfl
      obtain ⟨a0, a1, a2, a3, a4, a5, a6⟩ := HCl.out _ HO20.out.2.1
      go_wp2_with fail
      refine (HOp.out (Bf q) _ HO20.out.1 HO20.out.2.1 hbl2).mono ?_
      rintro e V30 ⟨rfl, hq9⟩
      have HO30 := hide (HO20.out.trans hq9)
      have HG30 := hide (HO20.out.blk hq9 HG20.out (by decide) (by decide))
      clear hq9
      go_wp2_with fail
      go_roundw
      case rel => exact ⟨q + 1, by omega, by go_num, by rw [HBq.out, HAq.out, List.nil_append]; exact HO30, HG30⟩
      case measure => simp [intOf]; omega
end Go.Proofs.YtaioaojfdngfdaaGreatDoor
namespace Go.Proofs.YtaioaojfdngfdaaGreatDoor
open Go.RowKit Go.Sort
def op15 : OpM := ⟨2, ⟨#[]⟩, 5, 0, [⟨⟨#[97]⟩, 1⟩], -1, -1⟩
def text15 : List UInt8 := [115, 99, 114, 105, 112, 116, 32, 120, 32, 110, 101, 118, 101, 114, 32, 48, 10, 101, 120, 112, 101, 99, 116, 32, 53, 10, 111, 110, 32, 34, 97, 34, 32, 108, 49, 10, 108, 97, 98, 101, 108, 32, 108, 49, 10]
theorem itoa_one {u : Nat} (h : u < 10) : Lib.itoa (u : Int) = [digB u] := by
 rw [itoa_nn (by omega), Int.toNat_natCast, dec_one h]
theorem good15 (A B : Option Addr) (c : Nat) : goodM (progM ⟨#[120]⟩ 9223372036854775807 0 [⟨op15, A, c⟩]) = true := by
 show goodM ⟨⟨#[120]⟩, 9223372036854775807, 0, [op15]⟩ = true
 rfl
theorem text15_eq (A : Option Addr) (c : Nat) : progT (progM ⟨#[120]⟩ 9223372036854775807 0 [⟨op15, A, c⟩]) = text15 := by
 show progT ⟨⟨#[120]⟩, 9223372036854775807, 0, [op15]⟩ = text15
 have t5 : tkT 5 = [53] := by
  show Lib.itoa ((5 : Nat) : Int) = _
  rw [itoa_one (by omega)]; rfl
 have l1 : labelT 1 = [108, 49] := by
  show 108 :: Lib.itoa ((1 : Nat) : Int) = _
  rw [itoa_one (by omega)]; rfl
 have i0 : Lib.itoa 0 = [48] := by
  show Lib.itoa ((0 : Nat) : Int) = _
  rw [itoa_one (by omega)]; rfl
 have tg : tgts [op15] = [1] := by rw [← tgts_ins]; rfl
 have ho : opT op15 = lineT [wordT 2, tkT 5] ++ lineT [[111, 110], quoteT [97], labelT 1] ++ [] ++ [] := by
  unfold opT
  rw [if_neg (by decide), if_pos (by decide)]
  unfold expectT
  rw [if_neg (by decide), if_neg (by decide)]
  have ha : op15.arms.flatMap armT = lineT [[111, 110], quoteT [97], labelT 1] := by
   simp only [op15, List.flatMap_cons, List.flatMap_nil, List.append_nil]
   rfl
  rw [ha]
  rfl
 have hb : progT ⟨⟨#[120]⟩, 9223372036854775807, 0, [op15]⟩ = lineT [[115, 99, 114, 105, 112, 116], [120], tkT 9223372036854775807, Lib.itoa 0] ++ bodyT opT (tgts [op15]) [op15] 2 := rfl
 rw [hb, tg, i0]
 have hs : bodyT opT [1] [op15] 2 = ([] ++ ([] ++ opT op15)) ++ (lineT [[108, 97, 98, 101, 108], labelT 1] ++ []) := rfl
 rw [hs, ho, t5, l1]
 rfl
set_option maxRecDepth 100000 in
set_option maxHeartbeats 6400000 in
theorem lives15_c (w : World) (ht : Tab w) : Calls Tryz.prog 34 #[] w fun e w' => e = .returned (.bool true) ∧ Only NoBlk w w' := by
 obtain ⟨W1, hW1⟩ : ∃ W1, W1 = w.alloc (.cells #[.string ⟨#[97]⟩, .int .i64 1] 94) := ⟨_, rfl⟩
 obtain ⟨g1, hg1⟩ : ∃ g1, g1 = w.heap.size := ⟨_, rfl⟩
 obtain ⟨W2, hW2⟩ : ∃ W2, W2 = W1.alloc (.cells #[.int .i64 2, .string ⟨#[]⟩, .int .i64 5, .int .i64 0, .slice (some ⟨g1, 0, none⟩) 1 1, .int .i64 (-1), .int .i64 (-1)] 92) := ⟨_, rfl⟩
 obtain ⟨g2, hg2⟩ : ∃ g2, g2 = W1.heap.size := ⟨_, rfl⟩
 have HA1 : Blk W1 g1 94 #[.string ⟨#[97]⟩, .int .i64 1] := by rw [hW1, hg1]; exact Blk.new _ _ _
 have HA2 : Blk W2 g1 94 #[.string ⟨#[97]⟩, .int .i64 1] := by rw [hW2]; exact HA1.alloc _
 have HO2 : Blk W2 g2 92 #[.int .i64 2, .string ⟨#[]⟩, .int .i64 5, .int .i64 0, .slice (some ⟨g1, 0, none⟩) 1 1, .int .i64 (-1), .int .i64 (-1)] := by rw [hW2, hg2]; exact Blk.new _ _ _
 have HN := hide (show Only NoBlk w W2 by rw [hW2, hW1]; exact ((Only.refl _ w).alloc _).alloc _)
 have HP := sProg_c ⟨#[120]⟩ 9223372036854775807 0 (some ⟨g2, 0, none⟩) 1 [⟨op15, some ⟨g1, 0, none⟩, 1⟩] W2 ⟨rd_blkN HO2 (fun h => h), fun v hv => by
  rw [List.mem_singleton.1 hv]
  exact rd_blkN HA2 (fun h => h)⟩ (by simp [maxLen]) (by decide) (fun v hv => by
  rw [List.mem_singleton.1 hv]
  exact ⟨show op15.text.size ≤ 9223372036854775807 by decide, by simp [op15, maxLen], show ∀ a ∈ op15.arms, a.pat.size ≤ 9223372036854775807 by decide⟩) (ht.only HN.out)
 rw [good15 _ none, text15_eq, if_pos rfl, if_pos rfl] at HP
 have HPr := hide HP
 have HW1 := hide hW1
 have Hg1 := hide hg1
 have HW2 := hide hW2
 have Hg2 := hide (show g2 = g1 + 1 by rw [hg2, hW1, hg1]; simp)
 clear HP HA1 HA2 HO2 hW1 hg1 hW2 hg2 ht
 go_enter Tryz.func34, Tryz.ntmps34
 go_wp2_with fail
 rw [← HW1.out, ← Hg1.out, ← HW2.out, ← Hg2.out]
 refine HPr.out.mono ?_
 rintro e w3 ⟨rfl, ho3⟩
 have HO3 := hide (HN.out.trans ho3)
 clear ho3
 go_wp2_with fail
 go_ret
 exact ⟨rfl, HO3.out⟩
end Go.Proofs.YtaioaojfdngfdaaGreatDoor
