/- Parts of a chain of lemmas: Same, Same2, ParV, Live14, ParCut, RefPrg2, RefPrg3, ParGd, ParLaid, PBase, LoadP, Reg. Conditions: those of each theorem. -/
import Derived.Test.YtaioaojfdngfdaaGreatDoorPl18
import Derived.Test.YtaioaojfdngfdaaGreatDoorPl19
import Derived.BigRegion
import Derived.Test.YtaioaojfdngfdaaGreatDoorPl07
import Derived.Deep.RegionHeld3
import Derived.Test.YtaioaojfdngfdaaGreatDoorPl03
import Derived.Test.YtaioaojfdngfdaaGreatDoorPl40
import Derived.Test.YtaioaojfdngfdaaGreatDoorPl24
import Derived.Test.YtaioaojfdngfdaaGreatDoorRows
import Derived.ProofKit
import Derived.LaidMore
import Derived.OpenShut
import Derived.Stop.Joined
import Derived.MakeChecks
import Derived.LaidLaws
import Derived.Shelf.Vars
import Derived.Handed
import Derived.Test.YtaioaojfdngfdaaGreatDoorPl05
import Derived.Test.YtaioaojfdngfdaaGreatDoorPl06
import Derived.Test.YtaioaojfdngfdaaGreatDoorPl41
import Derived.Test.YtaioaojfdngfdaaGreatDoorPl02
import Derived.Lib.Join
set_option linter.unusedVariables false
set_option linter.unusedSimpArgs false
namespace Go.Proofs.YtaioaojfdngfdaaGreatDoor
open Go.RowKit
set_option maxRecDepth 100000
set_option maxHeartbeats 12800000 in
theorem refSameOp_c (kd n tt x y : Int) (tx : ByteArray) (ar : List ArmM) (A1 A2 : Option Addr) (c1 c2 : Nat) (w : World) (h1 : Rd w NoBlk A1 (flat encArm ar)) (h2 : Rd w NoBlk A2 (flat encArm ar)) (hn : ar.length ≤ 1000000) :
 Calls Tryz.prog 45 #[.agg #[.int .i64 kd, .string tx, .int .i64 n, .int .i64 tt, .slice A1 ar.length c1, .int .i64 x, .int .i64 y], .agg #[.int .i64 kd, .string tx, .int .i64 n, .int .i64 tt, .slice A2 ar.length c2, .int .i64 x, .int .i64 y]] w fun e w' => e = .returned (.bool true) ∧ Only NoBlk w w' := by
 obtain ⟨m, hm⟩ : ∃ m, m = ar.length := ⟨_, rfl⟩
 rw [← hm] at hn ⊢
 have Hm := hide hm
 have HR1 := hide (fun (w' : World) (kk : Only NoBlk w w') (q : Nat) (hq : q < ar.length) => arm_cells (h1.only kk (fun _ h => h)) q hq)
 have HR2 := hide (fun (w' : World) (kk : Only NoBlk w w') (q : Nat) (hq : q < ar.length) => arm_cells (h2.only kk (fun _ h => h)) q hq)
 clear h1 h2 hm
 go_enter Tryz.func45, Tryz.ntmps45
 go_upto_region 1 with fail
 generalize hX : World.alloc (World.alloc w _) _ = X
 have HK := hide (show Only NoBlk w X by rw [← hX]; exact ((Only.refl NoBlk w).alloc _).alloc _)
 have hP1 : Blk X w.heap.size 92 #[.int .i64 kd, .string tx, .int .i64 n, .int .i64 tt, .slice A1 m c1, .int .i64 x, .int .i64 y] := by rw [← hX]; exact (Blk.new _ _ _).alloc _
 have hP2 : Blk X (w.heap.size + 1) 92 #[.int .i64 kd, .string tx, .int .i64 n, .int .i64 tt, .slice A2 m c2, .int .i64 x, .int .i64 y] := by rw [← hX]; exact Blk.new' (by simp)
 obtain ⟨g, hg⟩ : ∃ g, g = w.heap.size := ⟨_, rfl⟩
 rw [← hg] at hP1 hP2 ⊢
 clear hX hg
 obtain ⟨a0, a1, a2, a3, a4, a5, a6⟩ := hP1.seven
 obtain ⟨b0, b1, b2, b3, b4, b5, b6⟩ := hP2.seven
 have HP1 := hide hP1
 have HP2 := hide hP2
 clear hP1 hP2
 go_wp2_with fail
 go_loopw [5] (fun i wr => ∃ (q : Nat), q ≤ m ∧ i = .int .i64 q ∧ Hid (Only NoBlk w wr) ∧ Hid (Only NoBlk X wr)) (fun i _ => m - (intOf i).toNat)
 case atStart => exact ⟨0, Nat.zero_le _, rfl, HK, hide (Only.refl _ _)⟩
 case round =>
  clear a0 a1 a2 a3 a4 a5 a6 b0 b1 b2 b3 b4 b5 b6
  obtain ⟨q, hqm, rfl, HKr, HKx⟩ := hrel
  have a4 : wr.cell? ⟨g, 4, none⟩ = some (.slice A1 m c1) := (HP1.out.only HKx.out (fun h => h)).cell 4
  have b4 : wr.cell? ⟨g + 1, 4, none⟩ = some (.slice A2 m c2) := (HP2.out.only HKx.out (fun h => h)).cell 4
  by_cases hlt : q < m
  case neg =>
   have d1 : decide ((q : Int) < (m : Int)) = false := by simp; omega
   have d2 : decide (q < m) = false := by simp; omega
   clear hlt
   go_wp2_with fail
   refine bodyPost_ret (v := .bool true) (by simp [results, Tryz.results45, go_sem]; try rfl) rfl ?_
   exact ⟨rfl, HKr.out⟩
  case pos =>
   have d1 : decide ((q : Int) < (m : Int)) = true := by simp; omega
   have d2 : decide (q < m) = true := by simp; omega
   have j1 : (0 : Int) ≤ (q : Int) := by omega
   have j2 : (q : Int) < (m : Int) := by omega
   have w1' : IntKind.i64.wrap ((q : Int) + 1) = (q : Int) + 1 := IntWalk.i64_in _ (by omega)
   have hqa : q < ar.length := by have := Hm.out; omega
   obtain ⟨e1, o1, rfl, _, p0, p1⟩ := HR1.out wr HKr.out q hqa
   obtain ⟨e2, o2, rfl, _, q0, q1⟩ := HR2.out wr HKr.out q hqa
   obtain ⟨AR, hAR⟩ : ∃ AR, AR = armAt ar q := ⟨_, rfl⟩
   rw [← hAR] at p0 p1 q0 q1
   clear hlt hAR
   go_upto_region 6 with fail
   go_region
   go_wp2_with fail
   go_roundw
   ·exact ⟨q + 1, by omega, by simp, hide HKr.out.drew, hide HKx.out.drew⟩
   ·simp only [intOf]; omega
set_option maxRecDepth 100000
set_option maxHeartbeats 12800000 in
theorem refSame_c (s : ByteArray) (d j : Int) (A1 A2 : Option Addr) (c1 c2 : Nat) (L1 L2 : List OpV) (w : World) (h1 : OpsRd w NoBlk A1 L1) (h2 : OpsRd w NoBlk A2 L2) (hL : L1.map (·.o) = L2.map (·.o)) (hn : L1.length ≤ 1000000) (ha : ∀ v ∈ L1, v.o.arms.length ≤ 1000000) :
 Calls Tryz.prog 15 #[.agg #[.string s, .int .i64 d, .int .i64 j, .slice A1 L1.length c1], .agg #[.string s, .int .i64 d, .int .i64 j, .slice A2 L2.length c2]] w fun e w' => e = .returned (.bool true) ∧ Only NoBlk w w' := by
 have hlen : L2.length = L1.length := by have e := congrArg List.length hL; rw [List.length_map, List.length_map] at e; exact e.symm
 obtain ⟨m, hm⟩ : ∃ m, m = L1.length := ⟨_, rfl⟩
 have HO := hide (show ∀ q, q < m → (opAt L2 q).o = (opAt L1 q).o from fun q hq => by
  have e : (L1.map (·.o))[q]? = (L2.map (·.o))[q]? := by rw [hL]
  rw [List.getElem?_map, List.getElem?_map, opAt_some (by omega), opAt_some (by omega)] at e
  exact (Option.some.inj e).symm)
 have HR1 := hide (fun (w' : World) (kk : Only NoBlk w w') (q : Nat) (hq : q < m) => op_cells ((h1.only kk (fun _ h => h)).1) q (show q < L1.length by omega))
 have HR2 := hide (fun (w' : World) (kk : Only NoBlk w w') (q : Nat) (hq : q < m) => op_cells ((h2.only kk (fun _ h => h)).1) q (show q < L2.length by omega))
 have HCo := hide (fun (w' : World) (kk : Only NoBlk w w') (q : Nat) (hq : q < m) => refSameOp_c (opAt L1 q).o.kind (opAt L1 q).o.n (opAt L1 q).o.to (opAt L1 q).o.onT (opAt L1 q).o.onE (opAt L1 q).o.text (opAt L1 q).o.arms (opAt L1 q).A (opAt L2 q).A (opAt L1 q).c (opAt L2 q).c w' ((h1.only kk (fun _ h => h)).2 _ (opAt_mem (by omega))) (by have q9 := (h2.only kk (fun _ h => h)).2 _ (opAt_mem (l := L2) (k := q) (by omega)); rw [HO.out q hq] at q9; exact q9) (ha _ (opAt_mem (by omega))))
 rw [hlen, ← hm]
 rw [← hm] at hn
 clear h1 h2 hL hlen hm
 go_enter Tryz.func15, Tryz.ntmps15
 go_upto_region 1 with fail
 generalize hX : World.alloc (World.alloc w _) _ = X
 have HK := hide (show Only NoBlk w X by rw [← hX]; exact ((Only.refl NoBlk w).alloc _).alloc _)
 have hP1 : Blk X w.heap.size 25 #[.string s, .int .i64 d, .int .i64 j, .slice A1 m c1] := by rw [← hX]; exact (Blk.new _ _ _).alloc _
 have hP2 : Blk X (w.heap.size + 1) 25 #[.string s, .int .i64 d, .int .i64 j, .slice A2 m c2] := by rw [← hX]; exact Blk.new' (by simp)
 obtain ⟨g, hg⟩ : ∃ g, g = w.heap.size := ⟨_, rfl⟩
 rw [← hg] at hP1 hP2 ⊢
 clear hX hg
 obtain ⟨⟨a0, a1, a2, a3⟩, _⟩ := hP1.four
 obtain ⟨⟨b0, b1, b2, b3⟩, _⟩ := hP2.four
 have HP1 := hide hP1
 have HP2 := hide hP2
 clear hP1 hP2
 go_wp2_with fail
 go_loopw [5] (fun i wr => ∃ (q : Nat), q ≤ m ∧ i = .int .i64 q ∧ Hid (Only NoBlk w wr) ∧ Hid (Only NoBlk X wr)) (fun i _ => m - (intOf i).toNat)
 case atStart => exact ⟨0, Nat.zero_le _, rfl, HK, hide (Only.refl _ _)⟩
 case round =>
  clear a0 a1 a2 a3 b0 b1 b2 b3
  obtain ⟨q, hqm, rfl, HKr, HKx⟩ := hrel
  have a3 : wr.cell? ⟨g, 3, none⟩ = some (.slice A1 m c1) := (HP1.out.only HKx.out (fun h => h)).cell 3
  by_cases hlt : q < m
  case neg =>
   have d1 : decide ((q : Int) < (m : Int)) = false := by simp; omega
   have d2 : decide (q < m) = false := by simp; omega
   clear hlt
   go_wp2_with fail
   refine bodyPost_ret (v := .bool true) (by simp [results, Tryz.results15, go_sem]; try rfl) rfl ?_
   exact ⟨rfl, HKr.out⟩
  case pos =>
   have d1 : decide ((q : Int) < (m : Int)) = true := by simp; omega
   have d2 : decide (q < m) = true := by simp; omega
   have j1 : (0 : Int) ≤ (q : Int) := by omega
   have j2 : (q : Int) < (m : Int) := by omega
   have w1' : IntKind.i64.wrap ((q : Int) + 1) = (q : Int) + 1 := IntWalk.i64_in _ (by omega)
   obtain ⟨e1, o1, rfl, _, _⟩ := HR1.out wr HKr.out q hlt
   obtain ⟨e2, o2, rfl, _, _⟩ := HR2.out wr HKr.out q hlt
   obtain ⟨O1, hO1⟩ : ∃ O1, O1 = opAt L1 q := ⟨_, rfl⟩
   obtain ⟨O2, hO2⟩ : ∃ O2, O2 = opAt L2 q := ⟨_, rfl⟩
   have HOq := hide (HO.out q hlt)
   have HC := hide (fun (w' : World) (kk : Only NoBlk w w') => HCo.out w' kk q hlt)
   have HA1 := hide (fun (w' : World) (kk : Only NoBlk w w') => HR1.out w' kk q hlt)
   have HA2 := hide (fun (w' : World) (kk : Only NoBlk w w') => HR2.out w' kk q hlt)
   rw [← hO1] at HC HA1 HOq
   rw [← hO2] at HC HA2 HOq
   clear hO1 hO2
   obtain ⟨⟨kd, tx, n, tt, ar, x, y⟩, B1, k1⟩ := O1
   obtain ⟨oo, B2, k2⟩ := O2
   have e9 := HOq.out
   simp only at e9
   subst e9
   have HA := hide (fun (w' : World) (kk : Only NoBlk w w') (kx : Only NoBlk X w') => (show (w'.cell? ⟨g, 3, none⟩ = some (.slice (some ⟨e1, o1, none⟩) m c1) ∧ w'.cell? ⟨g + 1, 3, none⟩ = some (.slice (some ⟨e2, o2, none⟩) m c2)) ∧
    (w'.cell? ⟨e1, o1 + q * 7, none⟩ = some (.int .i64 kd) ∧ w'.cell? ⟨e1, o1 + q * 7 + 1, none⟩ = some (.string tx) ∧ w'.cell? ⟨e1, o1 + q * 7 + 2, none⟩ = some (.int .i64 n) ∧ w'.cell? ⟨e1, o1 + q * 7 + 3, none⟩ = some (.int .i64 tt) ∧ w'.cell? ⟨e1, o1 + q * 7 + 4, none⟩ = some (.slice B1 ar.length k1) ∧ w'.cell? ⟨e1, o1 + q * 7 + 5, none⟩ = some (.int .i64 x) ∧ w'.cell? ⟨e1, o1 + q * 7 + 6, none⟩ = some (.int .i64 y)) ∧
    (w'.cell? ⟨e2, o2 + q * 7, none⟩ = some (.int .i64 kd) ∧ w'.cell? ⟨e2, o2 + q * 7 + 1, none⟩ = some (.string tx) ∧ w'.cell? ⟨e2, o2 + q * 7 + 2, none⟩ = some (.int .i64 n) ∧ w'.cell? ⟨e2, o2 + q * 7 + 3, none⟩ = some (.int .i64 tt) ∧ w'.cell? ⟨e2, o2 + q * 7 + 4, none⟩ = some (.slice B2 ar.length k2) ∧ w'.cell? ⟨e2, o2 + q * 7 + 5, none⟩ = some (.int .i64 x) ∧ w'.cell? ⟨e2, o2 + q * 7 + 6, none⟩ = some (.int .i64 y)) from (by
    obtain ⟨f1, p1, hf1, _, hc1⟩ := HA1.out w' kk
    obtain ⟨f2, p2, hf2, _, hc2⟩ := HA2.out w' kk
    injection hf1 with hf1
    injection hf2 with hf2
    injection hf1 with hf1 hp1
    injection hf2 with hf2 hp2
    subst hf1 hf2 hp1 hp2
    exact ⟨⟨(HP1.out.only kx (fun h => h)).cell 3, (HP2.out.only kx (fun h => h)).cell 3⟩, hc1, hc2⟩)))
   clear hlt HA1 HA2 HOq HO HR1 HR2 HCo
   go_upto_region 6 with fail
   obtain ⟨V0, hV0⟩ : ∃ V9, V9 = wr.drew := ⟨_, rfl⟩
   have HK0 := hide (show Only NoBlk w V0 by rw [hV0]; exact HKr.out.drew)
   have HX0 := hide (show Only NoBlk X V0 by rw [hV0]; exact HKx.out.drew)
   refine wp_region_held (S := fun w' => (w'.cell? ⟨g, 3, none⟩ = some (.slice (some ⟨e1, o1, none⟩) m c1) ∧ w'.cell? ⟨g + 1, 3, none⟩ = some (.slice (some ⟨e2, o2, none⟩) m c2)) ∧ (w'.cell? ⟨e1, o1 + q * 7, none⟩ = some (.int .i64 kd) ∧ w'.cell? ⟨e1, o1 + q * 7 + 1, none⟩ = some (.string tx) ∧ w'.cell? ⟨e1, o1 + q * 7 + 2, none⟩ = some (.int .i64 n) ∧ w'.cell? ⟨e1, o1 + q * 7 + 3, none⟩ = some (.int .i64 tt) ∧ w'.cell? ⟨e1, o1 + q * 7 + 4, none⟩ = some (.slice B1 ar.length k1) ∧ w'.cell? ⟨e1, o1 + q * 7 + 5, none⟩ = some (.int .i64 x) ∧ w'.cell? ⟨e1, o1 + q * 7 + 6, none⟩ = some (.int .i64 y)) ∧ (w'.cell? ⟨e2, o2 + q * 7, none⟩ = some (.int .i64 kd) ∧ w'.cell? ⟨e2, o2 + q * 7 + 1, none⟩ = some (.string tx) ∧ w'.cell? ⟨e2, o2 + q * 7 + 2, none⟩ = some (.int .i64 n) ∧ w'.cell? ⟨e2, o2 + q * 7 + 3, none⟩ = some (.int .i64 tt) ∧ w'.cell? ⟨e2, o2 + q * 7 + 4, none⟩ = some (.slice B2 ar.length k2) ∧ w'.cell? ⟨e2, o2 + q * 7 + 5, none⟩ = some (.int .i64 x) ∧ w'.cell? ⟨e2, o2 + q * 7 + 6, none⟩ = some (.int .i64 y))) (by kernel_rfl) ?_
   change wpAnyH _ _ _ _ _ _ _ _ wr.drew
   have hHeld : (fun w' => (w'.cell? ⟨g, 3, none⟩ = some (.slice (some ⟨e1, o1, none⟩) m c1) ∧ w'.cell? ⟨g + 1, 3, none⟩ = some (.slice (some ⟨e2, o2, none⟩) m c2)) ∧ (w'.cell? ⟨e1, o1 + q * 7, none⟩ = some (.int .i64 kd) ∧ w'.cell? ⟨e1, o1 + q * 7 + 1, none⟩ = some (.string tx) ∧ w'.cell? ⟨e1, o1 + q * 7 + 2, none⟩ = some (.int .i64 n) ∧ w'.cell? ⟨e1, o1 + q * 7 + 3, none⟩ = some (.int .i64 tt) ∧ w'.cell? ⟨e1, o1 + q * 7 + 4, none⟩ = some (.slice B1 ar.length k1) ∧ w'.cell? ⟨e1, o1 + q * 7 + 5, none⟩ = some (.int .i64 x) ∧ w'.cell? ⟨e1, o1 + q * 7 + 6, none⟩ = some (.int .i64 y)) ∧ (w'.cell? ⟨e2, o2 + q * 7, none⟩ = some (.int .i64 kd) ∧ w'.cell? ⟨e2, o2 + q * 7 + 1, none⟩ = some (.string tx) ∧ w'.cell? ⟨e2, o2 + q * 7 + 2, none⟩ = some (.int .i64 n) ∧ w'.cell? ⟨e2, o2 + q * 7 + 3, none⟩ = some (.int .i64 tt) ∧ w'.cell? ⟨e2, o2 + q * 7 + 4, none⟩ = some (.slice B2 ar.length k2) ∧ w'.cell? ⟨e2, o2 + q * 7 + 5, none⟩ = some (.int .i64 x) ∧ w'.cell? ⟨e2, o2 + q * 7 + 6, none⟩ = some (.int .i64 y))) wr.drew := (by rw [← hV0]; exact HA.out V0 HK0.out HX0.out)
   rw [← hV0] at hHeld ⊢
   simp only [List.size_toArray, List.length_cons, List.length_nil, Nat.zero_add, Nat.reduceAdd]
   clear hV0
   refine tk 0 ?_ rfl ?_ ?_
   rotate_left
   ·(intro w9 hS9; (try simp only [ga]); go_simp <;> rfl)
   refine tk 1 ?_ rfl ?_ ?_
   rotate_left
   ·(intro w9 hS9; (try simp only [ga]); go_simp <;> rfl)
   refine tk 2 ?_ rfl ?_ ?_
   rotate_left
   ·(intro w9 hS9; (try simp only [ga]); go_simp <;> rfl)
   refine tk 3 ?_ rfl ?_ ?_
   rotate_left
   ·(intro w9 hS9; (try simp only [ga]); go_simp <;> rfl)
   refine tk 4 ?_ rfl ?_ ?_
   rotate_left
   ·(intro w9 hS9; (try simp only [ga]); go_simp <;> rfl)
   refine tk 5 ?_ rfl ?_ ?_
   rotate_left
   ·(intro w9 hS9; (try simp only [ga]); go_simp <;> rfl)
   refine tk 6 ?_ rfl ?_ ?_
   rotate_left
   ·(intro w9 hS9; (try simp only [ga]); go_simp <;> rfl)
   refine tk 7 ?_ rfl ?_ ?_
   rotate_left
   ·(intro w9 hS9; (try simp only [ga]); go_simp <;> rfl)
   refine tk 8 ?_ rfl ?_ ?_
   rotate_left
   ·(intro w9 hS9; (try simp only [ga]); go_simp <;> rfl)
   refine tk 9 ?_ rfl ?_ ?_
   rotate_left
   ·(intro w9 hS9; (try simp only [ga]); go_simp <;> rfl)
   try simp only [Act.put, gp]
   refine rdy 10 rfl (fun K hK => ?_)
   try simp only [ga]
   try go_simp
   go_at_call 45
   refine (HC.out _ HK0.out).mono ?_
   rintro e V2 ⟨rfl, hk2⟩
   have HK2 := hide (HK0.out.trans hk2)
   have HX2 := hide (HX0.out.trans hk2)
   clear hk2
   refine hK.out _ _ (HA.out V2 HK2.out HX2.out) (fun hHeld => ?_)
   clear hK K
   refine tk 11 ?_ rfl ?_ ?_
   rotate_left
   ·(intro w9 hS9; (try simp only [ga]); go_simp <;> rfl)
   try simp only [Act.put, gp]
   refine wpAnyH_done (by kernel_rfl) ?_ _
   try simp only [Exit.then]
   clear hHeld
   go_wp2_with fail
   go_roundw
   ·exact ⟨q + 1, by omega, by simp, HK2, HX2⟩
   ·simp only [intOf]; omega
structure Vars (w : World) : Prop where
 len : LenV w
 err : ErrV w
 lt : 8 < w.heap.size
theorem Vars.only {w w' : World} (h : Vars w) (k : Only NoBlk w w') : Vars w' :=
 ⟨h.len.elim fun m h1 => ⟨m, okeep k (fun h => h) h1⟩, h.err.only h.lt (OnB.none k), Nat.lt_of_lt_of_le h.lt k.size⟩
set_option maxRecDepth 100000 in
set_option maxHeartbeats 12800000 in
theorem cut02_c (s : ByteArray) (n : Nat) (w : World) (hs : s.size ≤ 9223372036854775807) : Calls Tryz.prog 12 #[.string s, .int .i64 n] w fun e w' => (∃ t : ByteArray, e = .returned (.string t) ∧ t.size ≤ n) ∧ w' = w := by
 go_enter Tryz.func12, Tryz.ntmps12
 have hss : ((s.size : Nat) : Int) = s.size := rfl
 by_cases hc : n < s.size
 case pos =>
  have d1 : decide ((n : Int) < (s.size : Int)) = true := by simp; omega
  have d2 : decide (n < s.size) = true := by simp; omega
  have j1 : (0 : Int) ≤ (n : Int) := by omega
  have j2 : (n : Int) ≤ (s.size : Int) := by omega
  go_wp2_with fail
  refine bodyPost_ret (v := .string (s.extract 0 n)) (by simp [results, Tryz.results12, go_sem]; try rfl) rfl ?_
  exact ⟨⟨_, rfl, by rw [ByteArray.size_extract]; omega⟩, rfl⟩
 case neg =>
  have d1 : decide ((n : Int) < (s.size : Int)) = false := by simp; omega
  have d2 : decide (n < s.size) = false := by simp; omega
  go_wp2_with fail
  refine bodyPost_ret (v := .string s) (by simp [results, Tryz.results12, go_sem]; try rfl) rfl ?_
  exact ⟨⟨_, rfl, by omega⟩, rfl⟩
theorem firstAt_noneG : ∀ (l : List Int) (i : Nat), (firstAt i l).2 = 0 → ∀ e ∈ l, e = 0 := by
 intro l
 induction l with
 | nil => intro i _ e he; cases he
 | cons a r ih =>
  intro i h e he
  unfold firstAt at h
  by_cases ha : a = 0
  ·rw [if_neg (by omega)] at h
   rcases List.mem_cons.1 he with rfl | he
   ·exact ha
   ·exact ih _ h e he
  ·rw [if_pos ha] at h
   exact absurd h ha
theorem firstE_noneG : ∀ (l : List Int), firstE l = 0 → ∀ e ∈ l, e = 0 := by
 intro l
 induction l with
 | nil => intro _ e he; cases he
 | cons a r ih =>
  intro h e he
  unfold firstE at h
  by_cases ha : a = 0
  ·rw [if_neg (by omega)] at h
   rcases List.mem_cons.1 he with rfl | he
   ·exact ha
   ·exact ih h e he
  ·rw [if_pos ha] at h
   exact absurd h ha
theorem opE_sz {k : Nat} {o : OpM} (h : opE k o = 0) : o.arms.length ≤ 100 ∧ o.text.size ≤ 256 ∧ ∀ a ∈ o.arms, a.pat.size ≤ 64 := by
 unfold opE at h
 split at h
 ·simp at h
 split at h
 ·simp at h
 rename_i h0 hb
 have hb' : bareB o = true := by simpa using hb
 unfold bareB at hb'
 simp only [Bool.and_eq_true, Bool.or_eq_true, decide_eq_true_eq] at hb'
 obtain ⟨⟨⟨b1, b2⟩, b3⟩, b4⟩ := hb'
 by_cases h2 : o.kind = 2
 ·rw [if_neg (by omega), if_pos h2] at h
  unfold expectE at h
  split at h
  ·simp at h
  split at h
  ·simp at h
  rename_i ha
  split at h
  ·rename_i h1; exact absurd h h1
  rename_i hf
  have hf' : firstE (o.arms.map (armE k)) = 0 := by omega
  refine ⟨by omega, by omega, fun a hm => ?_⟩
  have e := firstE_noneG _ hf' _ (List.mem_map.2 ⟨a, hm, rfl⟩)
  unfold armE at e
  split at e
  ·simp at e
  ·omega
 ·have b5 : o.arms.length = 0 := by
   rcases b4 with b4 | ⟨⟨b4, b5⟩, b6⟩
   ·exact absurd b4 h2
   ·exact b4
  have c4 : o.arms = [] := List.length_eq_zero_iff.1 b5
  refine ⟨by omega, ?_, by rw [c4]; simp⟩
  rcases b1 with b1 | b1
  ·rw [if_pos b1] at h
   split at h
   ·simp at h
   split at h
   ·simp at h
   omega
  ·omega
theorem good_sz {p : ProgM} (h : goodM p = true) : p.ops.length ≤ 200 ∧ p.name.size ≤ 16 ∧ ∀ o ∈ p.ops, o.arms.length ≤ 100 ∧ o.text.size ≤ 256 ∧ ∀ a ∈ o.arms, a.pat.size ≤ 64 := by
 have hw : (wrongM p).2 = 0 := by
  unfold goodM at h
  rwa [decide_eq_true_eq] at h
 have hh : headE p = 0 := by
  unfold wrongM at hw
  by_cases hh : headE p = 0
  ·exact hh
  ·rw [if_pos hh] at hw; exact hw
 have ho : ∀ o ∈ p.ops, opE p.ops.length o = 0 := fun o ho => by
  unfold wrongM at hw
  rw [if_neg (by omega)] at hw
  exact firstAt_noneG _ _ hw _ (List.mem_map.2 ⟨o, ho, rfl⟩)
 unfold headE at hh
 split at hh
 ·simp at hh
 rename_i h1
 split at hh
 ·simp at hh
 split at hh
 ·simp at hh
 have h1' : nameB p.name = true := by simpa using h1
 unfold nameB nameL at h1'
 simp at h1'
 refine ⟨by omega, ?_, fun o hm => opE_sz (ho o hm)⟩
 have := h1'.1.1.2
 simpa using this
end Go.Proofs.YtaioaojfdngfdaaGreatDoor
namespace Go.Proofs.YtaioaojfdngfdaaGreatDoor
open Go.ChangeShapes Go.WideShapes Go.ChangeAt Go.RowKit
/-- a row's step that keeps both what is laid and the world's shape -/
theorem handed_and_shaped {H : Type} {enc : TypeId × Value → H} {a : Assume} {C : Checked} {os : Os} {f : FuncId} {fn : Func} {s : ChangeSpec} {conds : List PathCond} {apart fresh handsOn again : Bool} {X : World → Array Value → Prop}
 (hX : ∀ (w w' : World) (args : Array Value), w.heap = w'.heap → X w args → X w' args)
 (own : ownKnob C.prog.godebug = none) (started : os.Started) (noInit : C.prog.inits.idxOf? f = none) (hfn : C.prog.funcs[f]? = some fn)
 (witness : ∃ (w : World) (tape : Tape) (i : Input), w.os = os ∧ (w.forCall tape i).Shaped C.prog ∧ i.vars = [] ∧ Input.okWide C.prog (w.forCall tape i) .any w.heap.size f i ∧
   ((s.pre enc C.prog fn conds apart (w.forCall tape i).memory i.args ∧ X (w.forCall tape i).memory i.args) ∧ sizedMet enc C.prog fn (OpenSpec.ofChange s) apart (w.forCall tape i).memory i.args) ∧ a.holds C.prog (lone (Frame.enter C.prog f i.args .normal) [] (w.forCall tape i)))
 (contract : ∀ (W : World) (base : Nat) (args : Array Value) (ds gs : List (DataW H)) (before : List MemPlace),
   (∀ (j : Nat) t v, fn.params[j]? = some t → args[j]? = some v → Value.okWide C.prog W .any base t v) →
   DataW.Whole enc C.prog fn.params.toList s.vars apart W args.toList ds gs before → X W args → W.ShapedOpen C.prog →
   Calls C.prog f args W fun e W' => ∃ v, e = .returned v ∧ s.post enc C.prog fn apart fresh handsOn again W args v W') :
 ReturnsInHanded a C os f .any (fun w args => (s.pre enc C.prog fn conds apart w args ∧ X w args) ∧ sizedMet enc C.prog fn (OpenSpec.ofChange s) apart w args) (s.post enc C.prog fn apart fresh handsOn again) := by
 refine returnsInHanded_of_calls own started noInit witness ?_
 intro w tape i _ hsh _ hok hpre _
 obtain ⟨_, _, _, fn', hfn', _, _, _, _, hval⟩ := hok
 obtain rfl : fn' = fn := Option.some.inj (hfn'.symm.trans hfn)
 obtain ⟨⟨⟨ds, gs, before, hw, hc⟩, hx⟩, hz⟩ := hpre
 refine (contract (w.forCall tape i) w.heap.size i.args ds gs before hval (DataW.Whole.of_heap (w' := w.forCall tape i) (by rfl) hw) (hX _ _ _ (by rfl) hx) hsh).mono fun e W' ⟨v, he, hp⟩ => ?_
 subst he
 exact ChangeSpec.post_blind hp
theorem Tryz.gErr : Tryz.prog.globalNamed "strconv.ErrRange" = some 8 := by kernel_rfl
theorem Tryz.tErr : (Tryz.prog.globals[8]?).map (·.type) = some 62 := by kernel_rfl
theorem vars_of_laid {W : World} (h : laidMetH Tryz.prog Rows.parseReadsRow.laid W) (hsh : W.ShapedOpen Tryz.prog) : Vars W := by
 have h1 : LenV W := cell_of_shapedOpen_int (P := Tryz.prog) (g := 2) (t := 3) (zero := #[.int .i64 0]) hsh (of_decide_eq_true (by kernel_rfl)) (by kernel_rfl) rfl (by kernel_rfl) (by kernel_rfl) Tryz.underlying3
 rw [MakeChecks.laidMetH_plain _ _ _ (by kernel_rfl)] at h
 obtain ⟨ps, ⟨g0, t0, cs0, f0, p0, q0, hg0, ht0, hv0, hd0, ⟨g1, t1, cs1, f1, p1, q1, hg1, ht1, hv1, hd1, ⟨g2, t2, cs2, f2, p2, q2, hg2, ht2, hv2, hd2, ⟨g3, t3, cs3, f3, p3, q3, hg3, ht3, hv3, hd3, ⟨g4, t4, cs4, f4, p4, q4, hg4, ht4, hv4, hd4, _, _⟩, _⟩, _⟩, _⟩, _⟩, _, _⟩ := h
 obtain rfl := Option.some.inj (Tryz.gErr.symm.trans hg4)
 obtain rfl := Option.some.inj (Tryz.tErr.symm.trans ht4)
 obtain ⟨_, u, v, hcs, _, _⟩ := iface_of_trod Tryz.underlying62 hd4
 have hc : W.cell? ⟨8, 0, none⟩ = some (.iface u v) := by
  have := World.var?_cell hg4 hv4 0
  rw [this]
  obtain ⟨l⟩ := cs4
  simp at hcs
  subst hcs
  rfl
 refine ⟨h1, ⟨_, hc, Or.inr ⟨u, v, rfl⟩⟩, ?_⟩
 rcases Nat.lt_or_ge 8 W.heap.size with hl | hl
 ·exact hl
 ·exfalso
  unfold World.cell? at hc
  simp [Array.getElem?_eq_none hl] at hc
end Go.Proofs.YtaioaojfdngfdaaGreatDoor
namespace Go.Proofs.YtaioaojfdngfdaaGreatDoor
end Go.Proofs.YtaioaojfdngfdaaGreatDoor
namespace Go.Proofs.YtaioaojfdngfdaaGreatDoor
open Go.RowKit
def headB (s : List UInt8) : Bool := decide (s = kScript) || decide (s.take 7 = [115, 99, 114, 105, 112, 116, 32])
theorem head_says {s : List UInt8} (h : headB s = true) : idleB s = false := by
 unfold headB at h
 rw [Bool.or_eq_true, decide_eq_true_eq, decide_eq_true_eq] at h
 rcases h with h | h
 ·subst h; rfl
 ·cases s with
  | nil => simp at h
  | cons a r =>
   rw [List.take_succ_cons] at h
   injection h with h1 _
   subst h1
   simp [idleB, atB]
structure PartM where
 line : Nat
 l : List (List UInt8)
structure ScrM where
 prog : ProgM
 line : Int
 x : Int
 y : Int
 err : Int
def cutGo : List (List UInt8) → Nat → PartM → List PartM
 | [], _, at_ => [at_]
 | s :: r, i, at_ => if headB s = true then at_ :: cutGo r (i + 1) ⟨i + 1, [s]⟩ else cutGo r (i + 1) ⟨at_.line, at_.l ++ [s]⟩
def saysL (l : List (List UInt8)) : Bool := l.any fun s => !idleB s
def dropP (o : List PartM) : List PartM := match o with
 | [] => []
 | p :: r => if saysL p.l = true then p :: r else r
def cutM (s : List UInt8) : List PartM := dropP (cutGo (linesM s) 0 ⟨1, []⟩)
def sayB (s : List UInt8) : Bool := !idleB s
/-- the place of the first line that says something; -1: there is none -/
def idxS (l : List (List UInt8)) : Int := if l.any sayB = true then (l.findIdx sayB : Int) else -1
def isScr (name : ByteArray) (s : ScrM) : Bool := decide (s.err = 0) && decide (s.prog.name = name)
def findM (l : List ScrM) (name : ByteArray) : Nat := l.findIdx (isScr name)
def hasM (l : List ScrM) (name : ByteArray) : Bool := l.any (isScr name)
def readScr (r : ProgM × (Int × Int) × Int) (p : PartM) (ahead : List ScrM) : ScrM :=
 if r.2.2 ≠ 0 then ⟨noProg, p.line, r.2.1.1 + p.line - 1, r.2.1.2, r.2.2⟩
 else if hasM ahead r.1.name = true then ⟨noProg, p.line, p.line + idxS p.l, 8, 6⟩
 else ⟨r.1, p.line, 0, 0, 0⟩
def readM (p : PartM) (ahead : List ScrM) : ScrM := readScr (parseM (Lib.join p.l [10])) p ahead
def readAll : List PartM → List ScrM → List ScrM
 | [], o => o
 | p :: r, o => readAll r (o ++ [readM p o])
def loadM (s : List UInt8) : List ScrM × Int :=
 if 40000 < s.length then ([], 4) else if 64 < (cutM s).length then ([], 4) else (readAll (cutM s) [], 0)
/-- by the document: a script's lines, if they say anything, are read behind those ahead -/
def addD (p : PartM) (o : List ScrM) : List ScrM := if saysL p.l = true then o ++ [readM p o] else o
def docGo : List (List UInt8) → Nat → List (List UInt8) → List ScrM → List ScrM
 | [], k, cur, o => addD ⟨k + 1, cur⟩ o
 | s :: r, k, cur, o => if headB s = true then docGo r (k + cur.length) [s] (addD ⟨k + 1, cur⟩ o) else docGo r k (cur ++ [s]) o
def docStart (l : List (List UInt8)) : List ScrM := match l with
 | [] => []
 | s :: r => docGo r 0 [s] []
def loadD (s : List UInt8) : List ScrM × Int :=
 if 40000 < s.length then ([], 4) else if 64 < (docStart (linesM s)).length then ([], 4) else (docStart (linesM s), 0)
def addAll : List PartM → List ScrM → List ScrM
 | [], o => o
 | p :: r, o => addAll r (addD p o)
theorem docGo_eq : ∀ (r : List (List UInt8)) (k : Nat) (cur : List (List UInt8)) (o : List ScrM), docGo r k cur o = addAll (cutGo r (k + cur.length) ⟨k + 1, cur⟩) o
 | [], k, cur, o => rfl
 | s :: r, k, cur, o => by
  unfold docGo cutGo
  by_cases h : headB s = true
  ·rw [if_pos h, if_pos h, docGo_eq r]
   rfl
  ·rw [if_neg h, if_neg h, docGo_eq r]
   simp [Nat.add_assoc]
theorem says_cons {s : List UInt8} (h : headB s = true) (r : List (List UInt8)) : saysL (s :: r) = true := by
 unfold saysL
 rw [List.any_cons, head_says h]
 rfl
theorem says_app {a : List (List UInt8)} (h : saysL a = true) (b : List (List UInt8)) : saysL (a ++ b) = true := by
 unfold saysL at h ⊢
 rw [List.any_append, h]
 rfl
/-- what comes behind a part says something -/
theorem cut_says : ∀ (r : List (List UInt8)) (i : Nat) (p : PartM), ∃ q o, cutGo r i p = q :: o ∧ q.line = p.line ∧ (saysL p.l = true → saysL q.l = true) ∧ ∀ x ∈ o, saysL x.l = true
 | [], _, p => ⟨p, [], rfl, rfl, id, fun _ h => by cases h⟩
 | s :: r, i, p => by
  unfold cutGo
  by_cases h : headB s = true
  ·rw [if_pos h]
   obtain ⟨q, o, e, _, h2, h3⟩ := cut_says r (i + 1) ⟨i + 1, [s]⟩
   refine ⟨p, _, rfl, rfl, id, fun x hx => ?_⟩
   rw [e] at hx
   rcases List.mem_cons.1 hx with rfl | hx
   ·exact h2 (says_cons h [])
   ·exact h3 x hx
  ·rw [if_neg h]
   obtain ⟨q, o, e, h1, h2, h3⟩ := cut_says r (i + 1) ⟨p.line, p.l ++ [s]⟩
   exact ⟨q, o, e, h1, fun h => h2 (says_app h _), h3⟩
theorem addAll_says : ∀ (l : List PartM) (o : List ScrM), (∀ x ∈ l, saysL x.l = true) → addAll l o = readAll l o
 | [], _, _ => rfl
 | p :: r, o, h => by
  unfold addAll readAll addD
  rw [if_pos (h p (List.mem_cons_self ..)), addAll_says r _ fun x hx => h x (List.mem_cons_of_mem _ hx)]
theorem readAll_len : ∀ (l : List PartM) (o : List ScrM), (readAll l o).length = o.length + l.length
 | [], _ => rfl
 | p :: r, o => by unfold readAll; rw [readAll_len r]; simp; omega
theorem drop_pos {p : PartM} (h : saysL p.l = true) (r : List PartM) : dropP (p :: r) = p :: r := if_pos h
theorem drop_neg {p : PartM} (h : ¬ saysL p.l = true) (r : List PartM) : dropP (p :: r) = r := if_neg h
theorem addAll_drop (r : List (List UInt8)) (i : Nat) (p : PartM) : addAll (cutGo r i p) [] = readAll (dropP (cutGo r i p)) [] := by
 obtain ⟨q, o, e, _, _, h3⟩ := cut_says r i p
 rw [e]
 by_cases h : saysL q.l = true
 ·rw [drop_pos h]
  refine addAll_says _ _ fun x hx => ?_
  rcases List.mem_cons.1 hx with rfl | hx
  ·exact h
  ·exact h3 x hx
 ·rw [drop_neg h]
  show addAll o (addD q []) = _
  unfold addD
  rw [if_neg h]
  exact addAll_says _ _ h3
theorem doc_same (l : List (List UInt8)) (hl : 0 < l.length) : docStart l = readAll (dropP (cutGo l 0 ⟨1, []⟩)) [] := by
 cases l with
 | nil => simp at hl
 | cons s r =>
  show docGo r 0 [s] [] = _
  rw [docGo_eq]
  show addAll (cutGo r 1 ⟨1, [s]⟩) [] = _
  rw [addAll_drop]
  by_cases h : headB s = true
  ·have e : cutGo (s :: r) 0 ⟨1, []⟩ = ⟨1, []⟩ :: cutGo r 1 ⟨1, [s]⟩ := by
    show (if headB s = true then _ else _) = _
    rw [if_pos h]
   rw [e]
   obtain ⟨q, o, e2, _, h2, h3⟩ := cut_says r 1 ⟨1, [s]⟩
   rw [e2, drop_pos (h2 (says_cons h [])), drop_neg (by decide)]
  ·have e : cutGo (s :: r) 0 ⟨1, []⟩ = cutGo r 1 ⟨1, [s]⟩ := by
    show (if headB s = true then _ else _) = _
    rw [if_neg h]
    rfl
   rw [e]
theorem load_same (s : List UInt8) : loadM s = loadD s := by
 unfold loadM loadD
 rw [doc_same _ (linesM_pos s)]
 rw [readAll_len]
 simp only [List.length_nil, Nat.zero_add]
 rfl
section
variable {P : Program} {ops : Array Oper} {Q : Exit → Act → World → Prop} {md : Region.Mode} {S S' : World → Prop}
end
theorem flat_ln_cells (l : List (List UInt8)) (j : Nat) (h : j < l.length) : (flat encLn l)[j]? = some (.string (bs (l.getD j []))) := by
 induction l generalizing j with
 | nil => simp at h
 | cons x l ih =>
  cases j with
  | zero => simp [flat, encLn]
  | succ j =>
   have := ih j (by simpa using h)
   simp [flat, encLn] at this ⊢
   simpa using this
theorem flat_ln_len (l : List (List UInt8)) : (flat encLn l).length = l.length := by
 induction l with
 | nil => rfl
 | cons x l ih => simp [flat, encLn] at ih ⊢; exact ih
/-- a line of a text, in memory -/
theorem line_cell {w : World} {base n c : Nat} {A : Option Addr} {L : List (List UInt8)} (h : w.ownsRow base 9 1 (.slice A n c) n (flat encLn L)) (j : Nat) (hj : j < L.length) :
 ∃ b o, A = some ⟨b, o, none⟩ ∧ b < w.heap.size ∧ ∀ j, j < L.length → w.cell? ⟨b, o + j, none⟩ = some (.string (bs (L.getD j []))) := by
 obtain ⟨b, o, hA, _, hb, hc⟩ := (Rd.of_own (M := NoBlk) h (fun _ h => h.elim)).at_ (j := j) (by rw [flat_ln_len]; exact hj)
 exact ⟨b, o, hA, hb, fun j hj => by rw [hc j (by rw [flat_ln_len]; exact hj), flat_ln_cells L j hj]⟩
end Go.Proofs.YtaioaojfdngfdaaGreatDoor
