/- Parts of a chain of lemmas: Same, Same2, ParV, Live14, ParCut. Conditions: those of each theorem. -/
import Derived.Test.YtaioaojfdngfdaaGreatDoorPb21
import Derived.Test.YtaioaojfdngfdaaGreatDoorPb22
import Derived.BigRegion
import Derived.Test.YtaioaojfdngfdaaGreatDoorPb07
import Derived.Deep.RegionHeld3
import Derived.Test.YtaioaojfdngfdaaGreatDoorPb03
import Derived.Test.YtaioaojfdngfdaaGreatDoorPb43
namespace Go.Proofs.YtaioaojfdngfdaaGreatDoor
open Go.RowKit
set_option linter.unusedVariables false
set_option linter.unusedSimpArgs false
set_option maxRecDepth 100000
set_option maxHeartbeats 12800000 in
theorem refSameOp_c (kd n tt x y : Int) (tx : ByteArray) (ar : List ArmM) (A1 A2 : Option Addr) (c1 c2 : Nat) (w : World) (h1 : Rd w NoBlk A1 (flat encArm ar)) (h2 : Rd w NoBlk A2 (flat encArm ar)) (hn : ar.length ≤ 1000000) :
 Calls Tryz.prog 45 #[.agg #[.int .i64 kd, .string tx, .int .i64 n, .int .i64 tt, .slice A1 ar.length c1, .int .i64 x, .int .i64 y], .agg #[.int .i64 kd, .string tx, .int .i64 n, .int .i64 tt, .slice A2 ar.length c2, .int .i64 x, .int .i64 y]] w fun e w' => e = .returned (.bool true) ∧ Only NoBlk w w' := by
 obtain ⟨m, hm⟩ : ∃ m, m = ar.length := ⟨_, rfl⟩
 rw [← hm] at hn ⊢
 have Hm := hide hm
 have HR1 := hide (fun (w' : World) (kk : Only NoBlk w w') (q : Nat) (hq : q < ar.length) => arm_cells (h1.only kk (fun _ h => h)) q hq)
 have HR2 := hide (fun (w' : World) (kk : Only NoBlk w w') (q : Nat) (hq : q < ar.length) => arm_cells (h2.only kk (fun _ h => h)) q hq)
 clear h1 h2 hm
 go_enter Tryz.func45, Tryz.ntmps45
 go_upto_region 1 with fail
 generalize hX : World.alloc (World.alloc w _) _ = X
 have HK := hide (show Only NoBlk w X by rw [← hX]; exact ((Only.refl NoBlk w).alloc _).alloc _)
 have hP1 : Blk X w.heap.size 92 #[.int .i64 kd, .string tx, .int .i64 n, .int .i64 tt, .slice A1 m c1, .int .i64 x, .int .i64 y] := by rw [← hX]; exact (Blk.new _ _ _).alloc _
 have hP2 : Blk X (w.heap.size + 1) 92 #[.int .i64 kd, .string tx, .int .i64 n, .int .i64 tt, .slice A2 m c2, .int .i64 x, .int .i64 y] := by rw [← hX]; exact Blk.new' (by simp)
 obtain ⟨g, hg⟩ : ∃ g, g = w.heap.size := ⟨_, rfl⟩
 rw [← hg] at hP1 hP2 ⊢
 clear hX hg
 obtain ⟨a0, a1, a2, a3, a4, a5, a6⟩ := hP1.seven
 obtain ⟨b0, b1, b2, b3, b4, b5, b6⟩ := hP2.seven
 have HP1 := hide hP1
 have HP2 := hide hP2
 clear hP1 hP2
 go_wp2_with fail
 go_loopw [5] (fun i wr => ∃ (q : Nat), q ≤ m ∧ i = .int .i64 q ∧ Hid (Only NoBlk w wr) ∧ Hid (Only NoBlk X wr)) (fun i _ => m - (intOf i).toNat)
 case atStart => exact ⟨0, Nat.zero_le _, rfl, HK, hide (Only.refl _ _)⟩
 case round =>
  clear a0 a1 a2 a3 a4 a5 a6 b0 b1 b2 b3 b4 b5 b6
  obtain ⟨q, hqm, rfl, HKr, HKx⟩ := hrel
  have a4 : wr.cell? ⟨g, 4, none⟩ = some (.slice A1 m c1) := (HP1.out.only HKx.out (fun h => h)).cell 4
  have b4 : wr.cell? ⟨g + 1, 4, none⟩ = some (.slice A2 m c2) := (HP2.out.only HKx.out (fun h => h)).cell 4
  by_cases hlt : q < m
  case neg =>
   have d1 : decide ((q : Int) < (m : Int)) = false := by simp; omega
   have d2 : decide (q < m) = false := by simp; omega
   clear hlt
   go_wp2_with fail
   refine bodyPost_ret (v := .bool true) (by simp [results, Tryz.results45, go_sem]; try rfl) rfl ?_
   exact ⟨rfl, HKr.out⟩
  case pos =>
   have d1 : decide ((q : Int) < (m : Int)) = true := by simp; omega
   have d2 : decide (q < m) = true := by simp; omega
   have j1 : (0 : Int) ≤ (q : Int) := by omega
   have j2 : (q : Int) < (m : Int) := by omega
   have w1' : IntKind.i64.wrap ((q : Int) + 1) = (q : Int) + 1 := IntWalk.i64_in _ (by omega)
   have hqa : q < ar.length := by have := Hm.out; omega
   obtain ⟨e1, o1, rfl, _, p0, p1⟩ := HR1.out wr HKr.out q hqa
   obtain ⟨e2, o2, rfl, _, q0, q1⟩ := HR2.out wr HKr.out q hqa
   obtain ⟨AR, hAR⟩ : ∃ AR, AR = armAt ar q := ⟨_, rfl⟩
   rw [← hAR] at p0 p1 q0 q1
   clear hlt hAR
   go_upto_region 6 with fail
   go_region
   go_wp2_with fail
   go_roundw
   ·exact ⟨q + 1, by omega, by simp, hide HKr.out.drew, hide HKx.out.drew⟩
   ·simp only [intOf]; omega
end Go.Proofs.YtaioaojfdngfdaaGreatDoor
namespace Go.Proofs.YtaioaojfdngfdaaGreatDoor
open Go.RowKit
set_option linter.unusedVariables false
set_option linter.unusedSimpArgs false
set_option maxRecDepth 100000
set_option maxHeartbeats 12800000 in
theorem refSame_c (s : ByteArray) (d j : Int) (A1 A2 : Option Addr) (c1 c2 : Nat) (L1 L2 : List OpV) (w : World) (h1 : OpsRd w NoBlk A1 L1) (h2 : OpsRd w NoBlk A2 L2) (hL : L1.map (·.o) = L2.map (·.o)) (hn : L1.length ≤ 1000000) (ha : ∀ v ∈ L1, v.o.arms.length ≤ 1000000) :
 Calls Tryz.prog 15 #[.agg #[.string s, .int .i64 d, .int .i64 j, .slice A1 L1.length c1], .agg #[.string s, .int .i64 d, .int .i64 j, .slice A2 L2.length c2]] w fun e w' => e = .returned (.bool true) ∧ Only NoBlk w w' := by
 have hlen : L2.length = L1.length := by have e := congrArg List.length hL; rw [List.length_map, List.length_map] at e; exact e.symm
 obtain ⟨m, hm⟩ : ∃ m, m = L1.length := ⟨_, rfl⟩
 have HO := hide (show ∀ q, q < m → (opAt L2 q).o = (opAt L1 q).o from fun q hq => by
  have e : (L1.map (·.o))[q]? = (L2.map (·.o))[q]? := by rw [hL]
  rw [List.getElem?_map, List.getElem?_map, opAt_some (by omega), opAt_some (by omega)] at e
  exact (Option.some.inj e).symm)
 have HR1 := hide (fun (w' : World) (kk : Only NoBlk w w') (q : Nat) (hq : q < m) => op_cells ((h1.only kk (fun _ h => h)).1) q (show q < L1.length by omega))
 have HR2 := hide (fun (w' : World) (kk : Only NoBlk w w') (q : Nat) (hq : q < m) => op_cells ((h2.only kk (fun _ h => h)).1) q (show q < L2.length by omega))
 have HCo := hide (fun (w' : World) (kk : Only NoBlk w w') (q : Nat) (hq : q < m) => refSameOp_c (opAt L1 q).o.kind (opAt L1 q).o.n (opAt L1 q).o.to (opAt L1 q).o.onT (opAt L1 q).o.onE (opAt L1 q).o.text (opAt L1 q).o.arms (opAt L1 q).A (opAt L2 q).A (opAt L1 q).c (opAt L2 q).c w' ((h1.only kk (fun _ h => h)).2 _ (opAt_mem (by omega))) (by have q9 := (h2.only kk (fun _ h => h)).2 _ (opAt_mem (l := L2) (k := q) (by omega)); rw [HO.out q hq] at q9; exact q9) (ha _ (opAt_mem (by omega))))
 rw [hlen, ← hm]
 rw [← hm] at hn
 clear h1 h2 hL hlen hm
 go_enter Tryz.func15, Tryz.ntmps15
 go_upto_region 1 with fail
 generalize hX : World.alloc (World.alloc w _) _ = X
 have HK := hide (show Only NoBlk w X by rw [← hX]; exact ((Only.refl NoBlk w).alloc _).alloc _)
 have hP1 : Blk X w.heap.size 25 #[.string s, .int .i64 d, .int .i64 j, .slice A1 m c1] := by rw [← hX]; exact (Blk.new _ _ _).alloc _
 have hP2 : Blk X (w.heap.size + 1) 25 #[.string s, .int .i64 d, .int .i64 j, .slice A2 m c2] := by rw [← hX]; exact Blk.new' (by simp)
 obtain ⟨g, hg⟩ : ∃ g, g = w.heap.size := ⟨_, rfl⟩
 rw [← hg] at hP1 hP2 ⊢
 clear hX hg
 obtain ⟨⟨a0, a1, a2, a3⟩, _⟩ := hP1.four
 obtain ⟨⟨b0, b1, b2, b3⟩, _⟩ := hP2.four
 have HP1 := hide hP1
 have HP2 := hide hP2
 clear hP1 hP2
 go_wp2_with fail
 go_loopw [5] (fun i wr => ∃ (q : Nat), q ≤ m ∧ i = .int .i64 q ∧ Hid (Only NoBlk w wr) ∧ Hid (Only NoBlk X wr)) (fun i _ => m - (intOf i).toNat)
 case atStart => exact ⟨0, Nat.zero_le _, rfl, HK, hide (Only.refl _ _)⟩
 case round =>
  clear a0 a1 a2 a3 b0 b1 b2 b3
  obtain ⟨q, hqm, rfl, HKr, HKx⟩ := hrel
  have a3 : wr.cell? ⟨g, 3, none⟩ = some (.slice A1 m c1) := (HP1.out.only HKx.out (fun h => h)).cell 3
  by_cases hlt : q < m
  case neg =>
   have d1 : decide ((q : Int) < (m : Int)) = false := by simp; omega
   have d2 : decide (q < m) = false := by simp; omega
   clear hlt
   go_wp2_with fail
   refine bodyPost_ret (v := .bool true) (by simp [results, Tryz.results15, go_sem]; try rfl) rfl ?_
   exact ⟨rfl, HKr.out⟩
  case pos =>
   have d1 : decide ((q : Int) < (m : Int)) = true := by simp; omega
   have d2 : decide (q < m) = true := by simp; omega
   have j1 : (0 : Int) ≤ (q : Int) := by omega
   have j2 : (q : Int) < (m : Int) := by omega
   have w1' : IntKind.i64.wrap ((q : Int) + 1) = (q : Int) + 1 := IntWalk.i64_in _ (by omega)
   obtain ⟨e1, o1, rfl, _, _⟩ := HR1.out wr HKr.out q hlt
   obtain ⟨e2, o2, rfl, _, _⟩ := HR2.out wr HKr.out q hlt
   obtain ⟨O1, hO1⟩ : ∃ O1, O1 = opAt L1 q := ⟨_, rfl⟩
   obtain ⟨O2, hO2⟩ : ∃ O2, O2 = opAt L2 q := ⟨_, rfl⟩
   have HOq := hide (HO.out q hlt)
   have HC := hide (fun (w' : World) (kk : Only NoBlk w w') => HCo.out w' kk q hlt)
   have HA1 := hide (fun (w' : World) (kk : Only NoBlk w w') => HR1.out w' kk q hlt)
   have HA2 := hide (fun (w' : World) (kk : Only NoBlk w w') => HR2.out w' kk q hlt)
   rw [← hO1] at HC HA1 HOq
   rw [← hO2] at HC HA2 HOq
   clear hO1 hO2
   obtain ⟨⟨kd, tx, n, tt, ar, x, y⟩, B1, k1⟩ := O1
   obtain ⟨oo, B2, k2⟩ := O2
   have e9 := HOq.out
   simp only at e9
   subst e9
   have HA := hide (fun (w' : World) (kk : Only NoBlk w w') (kx : Only NoBlk X w') => (show (w'.cell? ⟨g, 3, none⟩ = some (.slice (some ⟨e1, o1, none⟩) m c1) ∧ w'.cell? ⟨g + 1, 3, none⟩ = some (.slice (some ⟨e2, o2, none⟩) m c2)) ∧
    (w'.cell? ⟨e1, o1 + q * 7, none⟩ = some (.int .i64 kd) ∧ w'.cell? ⟨e1, o1 + q * 7 + 1, none⟩ = some (.string tx) ∧ w'.cell? ⟨e1, o1 + q * 7 + 2, none⟩ = some (.int .i64 n) ∧ w'.cell? ⟨e1, o1 + q * 7 + 3, none⟩ = some (.int .i64 tt) ∧ w'.cell? ⟨e1, o1 + q * 7 + 4, none⟩ = some (.slice B1 ar.length k1) ∧ w'.cell? ⟨e1, o1 + q * 7 + 5, none⟩ = some (.int .i64 x) ∧ w'.cell? ⟨e1, o1 + q * 7 + 6, none⟩ = some (.int .i64 y)) ∧
    (w'.cell? ⟨e2, o2 + q * 7, none⟩ = some (.int .i64 kd) ∧ w'.cell? ⟨e2, o2 + q * 7 + 1, none⟩ = some (.string tx) ∧ w'.cell? ⟨e2, o2 + q * 7 + 2, none⟩ = some (.int .i64 n) ∧ w'.cell? ⟨e2, o2 + q * 7 + 3, none⟩ = some (.int .i64 tt) ∧ w'.cell? ⟨e2, o2 + q * 7 + 4, none⟩ = some (.slice B2 ar.length k2) ∧ w'.cell? ⟨e2, o2 + q * 7 + 5, none⟩ = some (.int .i64 x) ∧ w'.cell? ⟨e2, o2 + q * 7 + 6, none⟩ = some (.int .i64 y)) from (by
    obtain ⟨f1, p1, hf1, _, hc1⟩ := HA1.out w' kk
    obtain ⟨f2, p2, hf2, _, hc2⟩ := HA2.out w' kk
    injection hf1 with hf1
    injection hf2 with hf2
    injection hf1 with hf1 hp1
    injection hf2 with hf2 hp2
    subst hf1 hf2 hp1 hp2
    exact ⟨⟨(HP1.out.only kx (fun h => h)).cell 3, (HP2.out.only kx (fun h => h)).cell 3⟩, hc1, hc2⟩)))
   clear hlt HA1 HA2 HOq HO HR1 HR2 HCo
   go_upto_region 6 with fail
   obtain ⟨V0, hV0⟩ : ∃ V9, V9 = wr.drew := ⟨_, rfl⟩
   have HK0 := hide (show Only NoBlk w V0 by rw [hV0]; exact HKr.out.drew)
   have HX0 := hide (show Only NoBlk X V0 by rw [hV0]; exact HKx.out.drew)
   refine wp_region_held (S := fun w' => (w'.cell? ⟨g, 3, none⟩ = some (.slice (some ⟨e1, o1, none⟩) m c1) ∧ w'.cell? ⟨g + 1, 3, none⟩ = some (.slice (some ⟨e2, o2, none⟩) m c2)) ∧ (w'.cell? ⟨e1, o1 + q * 7, none⟩ = some (.int .i64 kd) ∧ w'.cell? ⟨e1, o1 + q * 7 + 1, none⟩ = some (.string tx) ∧ w'.cell? ⟨e1, o1 + q * 7 + 2, none⟩ = some (.int .i64 n) ∧ w'.cell? ⟨e1, o1 + q * 7 + 3, none⟩ = some (.int .i64 tt) ∧ w'.cell? ⟨e1, o1 + q * 7 + 4, none⟩ = some (.slice B1 ar.length k1) ∧ w'.cell? ⟨e1, o1 + q * 7 + 5, none⟩ = some (.int .i64 x) ∧ w'.cell? ⟨e1, o1 + q * 7 + 6, none⟩ = some (.int .i64 y)) ∧ (w'.cell? ⟨e2, o2 + q * 7, none⟩ = some (.int .i64 kd) ∧ w'.cell? ⟨e2, o2 + q * 7 + 1, none⟩ = some (.string tx) ∧ w'.cell? ⟨e2, o2 + q * 7 + 2, none⟩ = some (.int .i64 n) ∧ w'.cell? ⟨e2, o2 + q * 7 + 3, none⟩ = some (.int .i64 tt) ∧ w'.cell? ⟨e2, o2 + q * 7 + 4, none⟩ = some (.slice B2 ar.length k2) ∧ w'.cell? ⟨e2, o2 + q * 7 + 5, none⟩ = some (.int .i64 x) ∧ w'.cell? ⟨e2, o2 + q * 7 + 6, none⟩ = some (.int .i64 y))) (by kernel_rfl) ?_
   change wpAnyH _ _ _ _ _ _ _ _ wr.drew
   have hHeld : (fun w' => (w'.cell? ⟨g, 3, none⟩ = some (.slice (some ⟨e1, o1, none⟩) m c1) ∧ w'.cell? ⟨g + 1, 3, none⟩ = some (.slice (some ⟨e2, o2, none⟩) m c2)) ∧ (w'.cell? ⟨e1, o1 + q * 7, none⟩ = some (.int .i64 kd) ∧ w'.cell? ⟨e1, o1 + q * 7 + 1, none⟩ = some (.string tx) ∧ w'.cell? ⟨e1, o1 + q * 7 + 2, none⟩ = some (.int .i64 n) ∧ w'.cell? ⟨e1, o1 + q * 7 + 3, none⟩ = some (.int .i64 tt) ∧ w'.cell? ⟨e1, o1 + q * 7 + 4, none⟩ = some (.slice B1 ar.length k1) ∧ w'.cell? ⟨e1, o1 + q * 7 + 5, none⟩ = some (.int .i64 x) ∧ w'.cell? ⟨e1, o1 + q * 7 + 6, none⟩ = some (.int .i64 y)) ∧ (w'.cell? ⟨e2, o2 + q * 7, none⟩ = some (.int .i64 kd) ∧ w'.cell? ⟨e2, o2 + q * 7 + 1, none⟩ = some (.string tx) ∧ w'.cell? ⟨e2, o2 + q * 7 + 2, none⟩ = some (.int .i64 n) ∧ w'.cell? ⟨e2, o2 + q * 7 + 3, none⟩ = some (.int .i64 tt) ∧ w'.cell? ⟨e2, o2 + q * 7 + 4, none⟩ = some (.slice B2 ar.length k2) ∧ w'.cell? ⟨e2, o2 + q * 7 + 5, none⟩ = some (.int .i64 x) ∧ w'.cell? ⟨e2, o2 + q * 7 + 6, none⟩ = some (.int .i64 y))) wr.drew := (by rw [← hV0]; exact HA.out V0 HK0.out HX0.out)
   rw [← hV0] at hHeld ⊢
   simp only [List.size_toArray, List.length_cons, List.length_nil, Nat.zero_add, Nat.reduceAdd]
   clear hV0
   refine tk 0 ?_ rfl ?_ ?_
   rotate_left
   ·(intro w9 hS9; (try simp only [ga]); go_simp <;> rfl)
   refine tk 1 ?_ rfl ?_ ?_
   rotate_left
   ·(intro w9 hS9; (try simp only [ga]); go_simp <;> rfl)
   refine tk 2 ?_ rfl ?_ ?_
   rotate_left
   ·(intro w9 hS9; (try simp only [ga]); go_simp <;> rfl)
   refine tk 3 ?_ rfl ?_ ?_
   rotate_left
   ·(intro w9 hS9; (try simp only [ga]); go_simp <;> rfl)
   refine tk 4 ?_ rfl ?_ ?_
   rotate_left
   ·(intro w9 hS9; (try simp only [ga]); go_simp <;> rfl)
   refine tk 5 ?_ rfl ?_ ?_
   rotate_left
   ·(intro w9 hS9; (try simp only [ga]); go_simp <;> rfl)
   refine tk 6 ?_ rfl ?_ ?_
   rotate_left
   ·(intro w9 hS9; (try simp only [ga]); go_simp <;> rfl)
   refine tk 7 ?_ rfl ?_ ?_
   rotate_left
   ·(intro w9 hS9; (try simp only [ga]); go_simp <;> rfl)
   refine tk 8 ?_ rfl ?_ ?_
   rotate_left
   ·(intro w9 hS9; (try simp only [ga]); go_simp <;> rfl)
   refine tk 9 ?_ rfl ?_ ?_
   rotate_left
   ·(intro w9 hS9; (try simp only [ga]); go_simp <;> rfl)
   try simp only [Act.put, gp]
   refine wpAnyH_ready (rs := [10]) (by kernel_rfl) (by simp) ?_
   refine AllReadyH.cons rfl (fun K hK => ?_) AllReadyH.nil
   try simp only [ga]
   try go_simp
   go_at_call 45
   refine (HC.out _ HK0.out).mono ?_
   rintro e V2 ⟨rfl, hk2⟩
   have HK2 := hide (HK0.out.trans hk2)
   have HX2 := hide (HX0.out.trans hk2)
   clear hk2
   refine hK.out _ _ (HA.out V2 HK2.out HX2.out) (fun hHeld => ?_)
   clear hK K
   refine tk 11 ?_ rfl ?_ ?_
   rotate_left
   ·(intro w9 hS9; (try simp only [ga]); go_simp <;> rfl)
   try simp only [Act.put, gp]
   refine wpAnyH_done (by kernel_rfl) ?_ _
   try simp only [Exit.then]
   clear hHeld
   go_wp2_with fail
   go_roundw
   ·exact ⟨q + 1, by omega, by simp, HK2, HX2⟩
   ·simp only [intOf]; omega
end Go.Proofs.YtaioaojfdngfdaaGreatDoor
namespace Go.Proofs.YtaioaojfdngfdaaGreatDoor
open Go.RowKit
def live1 : List UInt8 := [115, 99, 114, 105, 112, 116, 32, 97, 32, 110, 101, 118, 101, 114, 32, 51, 10, 115, 101, 110, 100, 32, 34, 120, 34, 10]
def live2 : List UInt8 := [115, 99, 114, 105, 112, 116, 32, 97, 32, 110, 101, 118, 101, 114, 32, 51, 10, 103, 111, 116, 111, 32, 98]
theorem live1_err : (parseM live1).2.2 = 0 := by decide +kernel
theorem live1_jumps : (parseM live1).1.jumps = 3 := by decide +kernel
theorem live1_texts : (parseM live1).1.ops.map (·.text) = [⟨#[120]⟩] := by decide +kernel
theorem live2_end : (parseM live2).2 = ((2, 6), 13) := by decide +kernel
end Go.Proofs.YtaioaojfdngfdaaGreatDoor
namespace Go.Proofs.YtaioaojfdngfdaaGreatDoor
open Go.RowKit
set_option linter.unusedVariables false
set_option linter.unusedSimpArgs false
structure Vars (w : World) : Prop where
 len : LenV w
 err : ErrV w
 lt : 8 < w.heap.size
theorem Vars.only {w w' : World} (h : Vars w) (k : Only NoBlk w w') : Vars w' :=
 ⟨h.len.elim fun m h1 => ⟨m, okeep k (fun h => h) h1⟩, h.err.only h.lt (OnB.none k), Nat.lt_of_lt_of_le h.lt k.size⟩
theorem live1_c (w : World) (h : Vars w) : Calls Tryz.prog 13 #[.string ⟨#[115, 99, 114, 105, 112, 116, 32, 97, 32, 110, 101, 118, 101, 114, 32, 51, 10, 115, 101, 110, 100, 32, 34, 120, 34, 10]⟩] w fun e w' => (∃ nm d b o c v, e = .returned (.tuple #[.agg #[.string nm, .int .i64 d, .int .i64 3, .slice (some ⟨b, o, none⟩) 1 c], .agg #[.int .i64 (parseM live1).2.1.1, .int .i64 (parseM live1).2.1.2], .int .i64 0]) ∧ w'.cell? ⟨b, o + 1, none⟩ = some (.string ⟨#[120]⟩) ∧ v = b) ∧ Only NoBlk w w' := by
 refine (pparse_c ⟨live1.toArray⟩ w (by decide) h.len h.err h.lt).mono ?_
 rintro e w' ⟨⟨oA, oc, L, rfl, hL, ho⟩, k⟩
 refine ⟨?_, k⟩
 have e1 : (parseM live1).1.ops.map (·.text) = [⟨#[120]⟩] := live1_texts
 have hL' : L.map (·.o) = (parseM live1).1.ops := hL
 rw [← hL', List.map_map] at e1
 have hlen : L.length = 1 := by have e2 := congrArg List.length e1; rw [List.length_map] at e2; exact e2
 obtain ⟨b, o, rfl, _, hc0, hc1, _⟩ := op_cells ho.1 0 (by omega)
 refine ⟨(parseM live1).1.name, (parseM live1).1.deadline, b, o, oc, b, ?_, ?_, rfl⟩
 ·rw [hlen]
  show Ending.returned (.tuple #[.agg #[_, _, .int .i64 (parseM live1).1.jumps, _], _, .int .i64 (parseM live1).2.2]) = _
  rw [live1_jumps, live1_err]
 ·have e3 : (opAt L 0).o.text = ⟨#[120]⟩ := by
   obtain ⟨v, r, rfl⟩ : ∃ v r, L = v :: r := by cases L with
    | nil => simp at hlen
    | cons v r => exact ⟨v, r, rfl⟩
   injection e1
  rw [e3] at hc1
  simpa using hc1
theorem live2_c (w : World) (h : Vars w) : Calls Tryz.prog 13 #[.string ⟨#[115, 99, 114, 105, 112, 116, 32, 97, 32, 110, 101, 118, 101, 114, 32, 51, 10, 103, 111, 116, 111, 32, 98]⟩] w fun e w' => (∃ nm d j A n c, e = .returned (.tuple #[.agg #[.string nm, .int .i64 d, .int .i64 j, .slice A n c], .agg #[.int .i64 2, .int .i64 6], .int .i64 13])) ∧ Only NoBlk w w' := by
 refine (pparse_c ⟨live2.toArray⟩ w (by decide) h.len h.err h.lt).mono ?_
 rintro e w' ⟨⟨oA, oc, L, rfl, hL, ho⟩, k⟩
 refine ⟨⟨(parseM live2).1.name, (parseM live2).1.deadline, (parseM live2).1.jumps, oA, L.length, oc, ?_⟩, k⟩
 show Ending.returned (.tuple #[_, .agg #[.int .i64 (parseM live2).2.1.1, .int .i64 (parseM live2).2.1.2], .int .i64 (parseM live2).2.2]) = _
 rw [live2_end]
set_option maxRecDepth 100000 in
set_option maxHeartbeats 12800000 in
theorem lives14_c (w : World) (h : Vars w) : Calls Tryz.prog 17 #[] w fun e w' => e = .returned (.bool true) ∧ Only NoBlk w w' := by
 have H1 := hide (fun (X : World) (k : Only NoBlk w X) => live1_c X (h.only k))
 have H2 := hide (fun (X : World) (k : Only NoBlk w X) => live2_c X (h.only k))
 obtain ⟨S1, hS1⟩ : ∃ S1, S1 = (parseM live1).2.1.1 := ⟨_, rfl⟩
 obtain ⟨S2, hS2⟩ : ∃ S2, S2 = (parseM live1).2.1.2 := ⟨_, rfl⟩
 rw [← hS1, ← hS2] at H1
 clear hS1 hS2 h
 go_enter Tryz.func17, Tryz.ntmps17
 go_wp2_with fail
 refine (H1.out _ (Only.refl _ _)).mono ?_
 rintro e w1 ⟨⟨nm, d, b, o, c, v, rfl, hc, -⟩, k1⟩
 have HC := hide hc
 have K1 := hide k1
 clear hc k1
 go_wp2_with fail
 generalize hX : World.alloc (World.alloc w1 _) _ = X
 obtain ⟨g, hg⟩ : ∃ g, g = w1.heap.size := ⟨_, rfl⟩
 have HX := hide (show Only NoBlk w X by rw [← hX]; exact (K1.out.alloc _).alloc _)
 have HX1 := hide (show Only NoBlk w1 X by rw [← hX]; exact ((Only.refl _ w1).alloc _).alloc _)
 have HG := hide (show Blk X g 25 #[.string nm, .int .i64 d, .int .i64 3, .slice (some ⟨b, o, none⟩) 1 c] by rw [← hX, hg]; exact (Blk.new _ _ _).alloc _)
 rw [← hg]
 clear hX hg
 refine (H2.out X HX.out).mono ?_
 rintro e w2 ⟨⟨nm2, d2, j2, A2, n2, c2, rfl⟩, k2⟩
 have HY1 := hide (HX.out.trans k2)
 have HG2 := hide (HG.out.only k2 (fun h => h))
 have HC2 := hide (okeep k2 (fun h => h) (okeep HX1.out (fun h => h) HC.out))
 clear k2
 go_upto_region 3 with fail
 generalize hY : World.alloc (World.alloc w2 _) _ = Y
 obtain ⟨h, hh⟩ : ∃ h, h = w2.heap.size := ⟨_, rfl⟩
 have HY := hide (show Only NoBlk w Y by rw [← hY]; exact (HY1.out.alloc _).alloc _)
 have HY2 := hide (show Only NoBlk w2 Y by rw [← hY]; exact ((Only.refl _ w2).alloc _).alloc _)
 have HS := hide (show Blk Y (h + 1) 27 #[.int .i64 2, .int .i64 6] by rw [← hY, hh]; exact Blk.new' (by simp))
 rw [← hh]
 clear hY hh
 have c0 := okeep HY2.out (fun h => h) HC2.out
 have c3 : Y.cell? ⟨g, 3, none⟩ = some (.slice (some ⟨b, o, none⟩) 1 c) := (HG2.out.only HY2.out (fun h => h)).cell 3
 have c2' : Y.cell? ⟨g, 2, none⟩ = some (.int .i64 3) := (HG2.out.only HY2.out (fun h => h)).cell 2
 have s0 : Y.cell? ⟨h + 1, 0, none⟩ = some (.int .i64 2) := HS.out.cell 0
 have s1 : Y.cell? ⟨h + 1, 1, none⟩ = some (.int .i64 6) := HS.out.cell 1
 go_wp2_with fail
 refine bodyPost_ret (v := .bool true) (by simp [results, Tryz.results17, go_sem]; try rfl) rfl ?_
 exact ⟨rfl, HY.out⟩
end Go.Proofs.YtaioaojfdngfdaaGreatDoor
namespace Go.Proofs.YtaioaojfdngfdaaGreatDoor
open Go.RowKit
set_option linter.unusedVariables false
set_option linter.unusedSimpArgs false
set_option maxRecDepth 100000 in
set_option maxHeartbeats 12800000 in
theorem cut02_c (s : ByteArray) (n : Nat) (w : World) (hs : s.size ≤ 9223372036854775807) : Calls Tryz.prog 12 #[.string s, .int .i64 n] w fun e w' => (∃ t : ByteArray, e = .returned (.string t) ∧ t.size ≤ n) ∧ w' = w := by
 go_enter Tryz.func12, Tryz.ntmps12
 have hss : ((s.size : Nat) : Int) = s.size := rfl
 by_cases hc : n < s.size
 case pos =>
  have d1 : decide ((n : Int) < (s.size : Int)) = true := by simp; omega
  have d2 : decide (n < s.size) = true := by simp; omega
  have j1 : (0 : Int) ≤ (n : Int) := by omega
  have j2 : (n : Int) ≤ (s.size : Int) := by omega
  go_wp2_with fail
  refine bodyPost_ret (v := .string (s.extract 0 n)) (by simp [results, Tryz.results12, go_sem]; try rfl) rfl ?_
  exact ⟨⟨_, rfl, by rw [ByteArray.size_extract]; omega⟩, rfl⟩
 case neg =>
  have d1 : decide ((n : Int) < (s.size : Int)) = false := by simp; omega
  have d2 : decide (n < s.size) = false := by simp; omega
  go_wp2_with fail
  refine bodyPost_ret (v := .string s) (by simp [results, Tryz.results12, go_sem]; try rfl) rfl ?_
  exact ⟨⟨_, rfl, by omega⟩, rfl⟩
theorem head14_c (w : World) : Calls Tryz.prog 19 #[] w fun e w' => e = .returned (.string ⟨#[115, 99, 114, 105, 112, 116, 32, 97, 32, 110, 101, 118, 101, 114, 32, 51, 10]⟩) ∧ w' = w := by
 go_enter Tryz.func19, Tryz.ntmps19
 go_wp2_with fail
 refine bodyPost_ret (v := .string ⟨#[115, 99, 114, 105, 112, 116, 32, 97, 32, 110, 101, 118, 101, 114, 32, 51, 10]⟩) (by simp [results, Tryz.results19, go_sem]; try rfl) rfl ?_
 exact ⟨rfl, rfl⟩
end Go.Proofs.YtaioaojfdngfdaaGreatDoor
