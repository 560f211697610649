/- Parts of a chain of lemmas: Same, Same2, ParV, Live14, ParCut, RefCls1. Conditions: those of each theorem. -/
import Derived.Test.YtaioaojfdngfdaaGreatDoorNb21
import Derived.BigRegion
import Derived.Test.YtaioaojfdngfdaaGreatDoorNb08
import Derived.Deep.RegionHeld3
import Derived.Test.YtaioaojfdngfdaaGreatDoorNb04
import Derived.Test.YtaioaojfdngfdaaGreatDoorNb30
import Derived.Test.YtaioaojfdngfdaaGreatDoorNb10
import Derived.Test.YtaioaojfdngfdaaGreatDoorNb14
set_option linter.unusedVariables false
set_option linter.unusedSimpArgs false
namespace Go.Proofs.YtaioaojfdngfdaaGreatDoor
open Go.RowKit
set_option maxRecDepth 100000
set_option maxHeartbeats 12800000 in
theorem refSameOp_c (kd n tt x y : Int) (tx : ByteArray) (ar : List ArmM) (A1 A2 : Option Addr) (c1 c2 : Nat) (w : World) (h1 : Rd w NoBlk A1 (flat encArm ar)) (h2 : Rd w NoBlk A2 (flat encArm ar)) (hn : ar.length ≤ 1000000) :
 Calls Tryz.prog 45 #[.agg #[.int .i64 kd, .string tx, .int .i64 n, .int .i64 tt, .slice A1 ar.length c1, .int .i64 x, .int .i64 y], .agg #[.int .i64 kd, .string tx, .int .i64 n, .int .i64 tt, .slice A2 ar.length c2, .int .i64 x, .int .i64 y]] w fun e w' => e = .returned (.bool true) ∧ Only NoBlk w w' := by
 obtain ⟨m, hm⟩ : ∃ m, m = ar.length := ⟨_, rfl⟩
 rw [← hm] at hn ⊢
 have Hm := hide hm
 have HR1 := hide (fun (w' : World) (kk : Only NoBlk w w') (q : Nat) (hq : q < ar.length) => arm_cells (h1.only kk (fun _ h => h)) q hq)
 have HR2 := hide (fun (w' : World) (kk : Only NoBlk w w') (q : Nat) (hq : q < ar.length) => arm_cells (h2.only kk (fun _ h => h)) q hq)
 clear h1 h2 hm
 go_enter Tryz.func45, Tryz.ntmps45
 go_upto_region 1 with fail
 generalize hX : World.alloc (World.alloc w _) _ = X
 have HK := hide (show Only NoBlk w X by rw [← hX]; exact ((Only.refl NoBlk w).alloc _).alloc _)
 have hP1 : Blk X w.heap.size 92 #[.int .i64 kd, .string tx, .int .i64 n, .int .i64 tt, .slice A1 m c1, .int .i64 x, .int .i64 y] := by rw [← hX]; exact (Blk.new _ _ _).alloc _
 have hP2 : Blk X (w.heap.size + 1) 92 #[.int .i64 kd, .string tx, .int .i64 n, .int .i64 tt, .slice A2 m c2, .int .i64 x, .int .i64 y] := by rw [← hX]; exact Blk.new' (by simp)
 obtain ⟨g, hg⟩ : ∃ g, g = w.heap.size := ⟨_, rfl⟩
 rw [← hg] at hP1 hP2 ⊢
 clear hX hg
 obtain ⟨a0, a1, a2, a3, a4, a5, a6⟩ := hP1.seven
 obtain ⟨b0, b1, b2, b3, b4, b5, b6⟩ := hP2.seven
 have HP1 := hide hP1
 have HP2 := hide hP2
 clear hP1 hP2
 go_wp2_with fail
 go_loopw [5] (fun i wr => ∃ (q : Nat), q ≤ m ∧ i = .int .i64 q ∧ Hid (Only NoBlk w wr) ∧ Hid (Only NoBlk X wr)) (fun i _ => m - (intOf i).toNat)
 case atStart => exact ⟨0, Nat.zero_le _, rfl, HK, hide (Only.refl _ _)⟩
 case round =>
  clear a0 a1 a2 a3 a4 a5 a6 b0 b1 b2 b3 b4 b5 b6
  obtain ⟨q, hqm, rfl, HKr, HKx⟩ := hrel
  have a4 : wr.cell? ⟨g, 4, none⟩ = some (.slice A1 m c1) := (HP1.out.only HKx.out (fun h => h)).cell 4
  have b4 : wr.cell? ⟨g + 1, 4, none⟩ = some (.slice A2 m c2) := (HP2.out.only HKx.out (fun h => h)).cell 4
  by_cases hlt : q < m
  case neg =>
   have d1 : decide ((q : Int) < (m : Int)) = false := by simp; omega
   have d2 : decide (q < m) = false := by simp; omega
   clear hlt
   go_wp2_with fail
   refine bodyPost_ret (v := .bool true) (by simp [results, Tryz.results45, go_sem]; try rfl) rfl ?_
   exact ⟨rfl, HKr.out⟩
  case pos =>
   have d1 : decide ((q : Int) < (m : Int)) = true := by simp; omega
   have d2 : decide (q < m) = true := by simp; omega
   have j1 : (0 : Int) ≤ (q : Int) := by omega
   have j2 : (q : Int) < (m : Int) := by omega
   have w1' : IntKind.i64.wrap ((q : Int) + 1) = (q : Int) + 1 := IntWalk.i64_in _ (by omega)
   have hqa : q < ar.length := by have := Hm.out; omega
   obtain ⟨e1, o1, rfl, _, p0, p1⟩ := HR1.out wr HKr.out q hqa
   obtain ⟨e2, o2, rfl, _, q0, q1⟩ := HR2.out wr HKr.out q hqa
   obtain ⟨AR, hAR⟩ : ∃ AR, AR = armAt ar q := ⟨_, rfl⟩
   rw [← hAR] at p0 p1 q0 q1
   clear hlt hAR
   go_upto_region 6 with fail
   go_region
   go_wp2_with fail
   go_roundw
   ·exact ⟨q + 1, by omega, by simp, hide HKr.out.drew, hide HKx.out.drew⟩
   ·simp only [intOf]; omega
set_option maxRecDepth 100000
set_option maxHeartbeats 12800000 in
theorem refSame_c (s : ByteArray) (d j : Int) (A1 A2 : Option Addr) (c1 c2 : Nat) (L1 L2 : List OpV) (w : World) (h1 : OpsRd w NoBlk A1 L1) (h2 : OpsRd w NoBlk A2 L2) (hL : L1.map (·.o) = L2.map (·.o)) (hn : L1.length ≤ 1000000) (ha : ∀ v ∈ L1, v.o.arms.length ≤ 1000000) :
 Calls Tryz.prog 15 #[.agg #[.string s, .int .i64 d, .int .i64 j, .slice A1 L1.length c1], .agg #[.string s, .int .i64 d, .int .i64 j, .slice A2 L2.length c2]] w fun e w' => e = .returned (.bool true) ∧ Only NoBlk w w' := by
 have hlen : L2.length = L1.length := by have e := congrArg List.length hL; rw [List.length_map, List.length_map] at e; exact e.symm
 obtain ⟨m, hm⟩ : ∃ m, m = L1.length := ⟨_, rfl⟩
 have HO := hide (show ∀ q, q < m → (opAt L2 q).o = (opAt L1 q).o from fun q hq => by
  have e : (L1.map (·.o))[q]? = (L2.map (·.o))[q]? := by rw [hL]
  rw [List.getElem?_map, List.getElem?_map, opAt_some (by omega), opAt_some (by omega)] at e
  exact (Option.some.inj e).symm)
 have HR1 := hide (fun (w' : World) (kk : Only NoBlk w w') (q : Nat) (hq : q < m) => op_cells ((h1.only kk (fun _ h => h)).1) q (show q < L1.length by omega))
 have HR2 := hide (fun (w' : World) (kk : Only NoBlk w w') (q : Nat) (hq : q < m) => op_cells ((h2.only kk (fun _ h => h)).1) q (show q < L2.length by omega))
 have HCo := hide (fun (w' : World) (kk : Only NoBlk w w') (q : Nat) (hq : q < m) => refSameOp_c (opAt L1 q).o.kind (opAt L1 q).o.n (opAt L1 q).o.to (opAt L1 q).o.onT (opAt L1 q).o.onE (opAt L1 q).o.text (opAt L1 q).o.arms (opAt L1 q).A (opAt L2 q).A (opAt L1 q).c (opAt L2 q).c w' ((h1.only kk (fun _ h => h)).2 _ (opAt_mem (by omega))) (by have q9 := (h2.only kk (fun _ h => h)).2 _ (opAt_mem (l := L2) (k := q) (by omega)); rw [HO.out q hq] at q9; exact q9) (ha _ (opAt_mem (by omega))))
 rw [hlen, ← hm]
 rw [← hm] at hn
 clear h1 h2 hL hlen hm
 go_enter Tryz.func15, Tryz.ntmps15
 go_upto_region 1 with fail
 generalize hX : World.alloc (World.alloc w _) _ = X
 have HK := hide (show Only NoBlk w X by rw [← hX]; exact ((Only.refl NoBlk w).alloc _).alloc _)
 have hP1 : Blk X w.heap.size 25 #[.string s, .int .i64 d, .int .i64 j, .slice A1 m c1] := by rw [← hX]; exact (Blk.new _ _ _).alloc _
 have hP2 : Blk X (w.heap.size + 1) 25 #[.string s, .int .i64 d, .int .i64 j, .slice A2 m c2] := by rw [← hX]; exact Blk.new' (by simp)
 obtain ⟨g, hg⟩ : ∃ g, g = w.heap.size := ⟨_, rfl⟩
 rw [← hg] at hP1 hP2 ⊢
 clear hX hg
 obtain ⟨⟨a0, a1, a2, a3⟩, _⟩ := hP1.four
 obtain ⟨⟨b0, b1, b2, b3⟩, _⟩ := hP2.four
 have HP1 := hide hP1
 have HP2 := hide hP2
 clear hP1 hP2
 go_wp2_with fail
 go_loopw [5] (fun i wr => ∃ (q : Nat), q ≤ m ∧ i = .int .i64 q ∧ Hid (Only NoBlk w wr) ∧ Hid (Only NoBlk X wr)) (fun i _ => m - (intOf i).toNat)
 case atStart => exact ⟨0, Nat.zero_le _, rfl, HK, hide (Only.refl _ _)⟩
 case round =>
  clear a0 a1 a2 a3 b0 b1 b2 b3
  obtain ⟨q, hqm, rfl, HKr, HKx⟩ := hrel
  have a3 : wr.cell? ⟨g, 3, none⟩ = some (.slice A1 m c1) := (HP1.out.only HKx.out (fun h => h)).cell 3
  by_cases hlt : q < m
  case neg =>
   have d1 : decide ((q : Int) < (m : Int)) = false := by simp; omega
   have d2 : decide (q < m) = false := by simp; omega
   clear hlt
   go_wp2_with fail
   refine bodyPost_ret (v := .bool true) (by simp [results, Tryz.results15, go_sem]; try rfl) rfl ?_
   exact ⟨rfl, HKr.out⟩
  case pos =>
   have d1 : decide ((q : Int) < (m : Int)) = true := by simp; omega
   have d2 : decide (q < m) = true := by simp; omega
   have j1 : (0 : Int) ≤ (q : Int) := by omega
   have j2 : (q : Int) < (m : Int) := by omega
   have w1' : IntKind.i64.wrap ((q : Int) + 1) = (q : Int) + 1 := IntWalk.i64_in _ (by omega)
   obtain ⟨e1, o1, rfl, _, _⟩ := HR1.out wr HKr.out q hlt
   obtain ⟨e2, o2, rfl, _, _⟩ := HR2.out wr HKr.out q hlt
   obtain ⟨O1, hO1⟩ : ∃ O1, O1 = opAt L1 q := ⟨_, rfl⟩
   obtain ⟨O2, hO2⟩ : ∃ O2, O2 = opAt L2 q := ⟨_, rfl⟩
   have HOq := hide (HO.out q hlt)
   have HC := hide (fun (w' : World) (kk : Only NoBlk w w') => HCo.out w' kk q hlt)
   have HA1 := hide (fun (w' : World) (kk : Only NoBlk w w') => HR1.out w' kk q hlt)
   have HA2 := hide (fun (w' : World) (kk : Only NoBlk w w') => HR2.out w' kk q hlt)
   rw [← hO1] at HC HA1 HOq
   rw [← hO2] at HC HA2 HOq
   clear hO1 hO2
   obtain ⟨⟨kd, tx, n, tt, ar, x, y⟩, B1, k1⟩ := O1
   obtain ⟨oo, B2, k2⟩ := O2
   have e9 := HOq.out
   simp only at e9
   subst e9
   have HA := hide (fun (w' : World) (kk : Only NoBlk w w') (kx : Only NoBlk X w') => (show (w'.cell? ⟨g, 3, none⟩ = some (.slice (some ⟨e1, o1, none⟩) m c1) ∧ w'.cell? ⟨g + 1, 3, none⟩ = some (.slice (some ⟨e2, o2, none⟩) m c2)) ∧
    (w'.cell? ⟨e1, o1 + q * 7, none⟩ = some (.int .i64 kd) ∧ w'.cell? ⟨e1, o1 + q * 7 + 1, none⟩ = some (.string tx) ∧ w'.cell? ⟨e1, o1 + q * 7 + 2, none⟩ = some (.int .i64 n) ∧ w'.cell? ⟨e1, o1 + q * 7 + 3, none⟩ = some (.int .i64 tt) ∧ w'.cell? ⟨e1, o1 + q * 7 + 4, none⟩ = some (.slice B1 ar.length k1) ∧ w'.cell? ⟨e1, o1 + q * 7 + 5, none⟩ = some (.int .i64 x) ∧ w'.cell? ⟨e1, o1 + q * 7 + 6, none⟩ = some (.int .i64 y)) ∧
    (w'.cell? ⟨e2, o2 + q * 7, none⟩ = some (.int .i64 kd) ∧ w'.cell? ⟨e2, o2 + q * 7 + 1, none⟩ = some (.string tx) ∧ w'.cell? ⟨e2, o2 + q * 7 + 2, none⟩ = some (.int .i64 n) ∧ w'.cell? ⟨e2, o2 + q * 7 + 3, none⟩ = some (.int .i64 tt) ∧ w'.cell? ⟨e2, o2 + q * 7 + 4, none⟩ = some (.slice B2 ar.length k2) ∧ w'.cell? ⟨e2, o2 + q * 7 + 5, none⟩ = some (.int .i64 x) ∧ w'.cell? ⟨e2, o2 + q * 7 + 6, none⟩ = some (.int .i64 y)) from (by
    obtain ⟨f1, p1, hf1, _, hc1⟩ := HA1.out w' kk
    obtain ⟨f2, p2, hf2, _, hc2⟩ := HA2.out w' kk
    injection hf1 with hf1
    injection hf2 with hf2
    injection hf1 with hf1 hp1
    injection hf2 with hf2 hp2
    subst hf1 hf2 hp1 hp2
    exact ⟨⟨(HP1.out.only kx (fun h => h)).cell 3, (HP2.out.only kx (fun h => h)).cell 3⟩, hc1, hc2⟩)))
   clear hlt HA1 HA2 HOq HO HR1 HR2 HCo
   go_upto_region 6 with fail
   obtain ⟨V0, hV0⟩ : ∃ V9, V9 = wr.drew := ⟨_, rfl⟩
   have HK0 := hide (show Only NoBlk w V0 by rw [hV0]; exact HKr.out.drew)
   have HX0 := hide (show Only NoBlk X V0 by rw [hV0]; exact HKx.out.drew)
   refine wp_region_held (S := fun w' => (w'.cell? ⟨g, 3, none⟩ = some (.slice (some ⟨e1, o1, none⟩) m c1) ∧ w'.cell? ⟨g + 1, 3, none⟩ = some (.slice (some ⟨e2, o2, none⟩) m c2)) ∧ (w'.cell? ⟨e1, o1 + q * 7, none⟩ = some (.int .i64 kd) ∧ w'.cell? ⟨e1, o1 + q * 7 + 1, none⟩ = some (.string tx) ∧ w'.cell? ⟨e1, o1 + q * 7 + 2, none⟩ = some (.int .i64 n) ∧ w'.cell? ⟨e1, o1 + q * 7 + 3, none⟩ = some (.int .i64 tt) ∧ w'.cell? ⟨e1, o1 + q * 7 + 4, none⟩ = some (.slice B1 ar.length k1) ∧ w'.cell? ⟨e1, o1 + q * 7 + 5, none⟩ = some (.int .i64 x) ∧ w'.cell? ⟨e1, o1 + q * 7 + 6, none⟩ = some (.int .i64 y)) ∧ (w'.cell? ⟨e2, o2 + q * 7, none⟩ = some (.int .i64 kd) ∧ w'.cell? ⟨e2, o2 + q * 7 + 1, none⟩ = some (.string tx) ∧ w'.cell? ⟨e2, o2 + q * 7 + 2, none⟩ = some (.int .i64 n) ∧ w'.cell? ⟨e2, o2 + q * 7 + 3, none⟩ = some (.int .i64 tt) ∧ w'.cell? ⟨e2, o2 + q * 7 + 4, none⟩ = some (.slice B2 ar.length k2) ∧ w'.cell? ⟨e2, o2 + q * 7 + 5, none⟩ = some (.int .i64 x) ∧ w'.cell? ⟨e2, o2 + q * 7 + 6, none⟩ = some (.int .i64 y))) (by kernel_rfl) ?_
   change wpAnyH _ _ _ _ _ _ _ _ wr.drew
   have hHeld : (fun w' => (w'.cell? ⟨g, 3, none⟩ = some (.slice (some ⟨e1, o1, none⟩) m c1) ∧ w'.cell? ⟨g + 1, 3, none⟩ = some (.slice (some ⟨e2, o2, none⟩) m c2)) ∧ (w'.cell? ⟨e1, o1 + q * 7, none⟩ = some (.int .i64 kd) ∧ w'.cell? ⟨e1, o1 + q * 7 + 1, none⟩ = some (.string tx) ∧ w'.cell? ⟨e1, o1 + q * 7 + 2, none⟩ = some (.int .i64 n) ∧ w'.cell? ⟨e1, o1 + q * 7 + 3, none⟩ = some (.int .i64 tt) ∧ w'.cell? ⟨e1, o1 + q * 7 + 4, none⟩ = some (.slice B1 ar.length k1) ∧ w'.cell? ⟨e1, o1 + q * 7 + 5, none⟩ = some (.int .i64 x) ∧ w'.cell? ⟨e1, o1 + q * 7 + 6, none⟩ = some (.int .i64 y)) ∧ (w'.cell? ⟨e2, o2 + q * 7, none⟩ = some (.int .i64 kd) ∧ w'.cell? ⟨e2, o2 + q * 7 + 1, none⟩ = some (.string tx) ∧ w'.cell? ⟨e2, o2 + q * 7 + 2, none⟩ = some (.int .i64 n) ∧ w'.cell? ⟨e2, o2 + q * 7 + 3, none⟩ = some (.int .i64 tt) ∧ w'.cell? ⟨e2, o2 + q * 7 + 4, none⟩ = some (.slice B2 ar.length k2) ∧ w'.cell? ⟨e2, o2 + q * 7 + 5, none⟩ = some (.int .i64 x) ∧ w'.cell? ⟨e2, o2 + q * 7 + 6, none⟩ = some (.int .i64 y))) wr.drew := (by rw [← hV0]; exact HA.out V0 HK0.out HX0.out)
   rw [← hV0] at hHeld ⊢
   simp only [List.size_toArray, List.length_cons, List.length_nil, Nat.zero_add, Nat.reduceAdd]
   clear hV0
   refine tk 0 ?_ rfl ?_ ?_
   rotate_left
   ·(intro w9 hS9; (try simp only [ga]); go_simp <;> rfl)
   refine tk 1 ?_ rfl ?_ ?_
   rotate_left
   ·(intro w9 hS9; (try simp only [ga]); go_simp <;> rfl)
   refine tk 2 ?_ rfl ?_ ?_
   rotate_left
   ·(intro w9 hS9; (try simp only [ga]); go_simp <;> rfl)
   refine tk 3 ?_ rfl ?_ ?_
   rotate_left
   ·(intro w9 hS9; (try simp only [ga]); go_simp <;> rfl)
   refine tk 4 ?_ rfl ?_ ?_
   rotate_left
   ·(intro w9 hS9; (try simp only [ga]); go_simp <;> rfl)
   refine tk 5 ?_ rfl ?_ ?_
   rotate_left
   ·(intro w9 hS9; (try simp only [ga]); go_simp <;> rfl)
   refine tk 6 ?_ rfl ?_ ?_
   rotate_left
   ·(intro w9 hS9; (try simp only [ga]); go_simp <;> rfl)
   refine tk 7 ?_ rfl ?_ ?_
   rotate_left
   ·(intro w9 hS9; (try simp only [ga]); go_simp <;> rfl)
   refine tk 8 ?_ rfl ?_ ?_
   rotate_left
   ·(intro w9 hS9; (try simp only [ga]); go_simp <;> rfl)
   refine tk 9 ?_ rfl ?_ ?_
   rotate_left
   ·(intro w9 hS9; (try simp only [ga]); go_simp <;> rfl)
   try simp only [Act.put, gp]
   refine rdy 10 rfl (fun K hK => ?_)
   try simp only [ga]
   try go_simp
   go_at_call 45
   refine (HC.out _ HK0.out).mono ?_
   rintro e V2 ⟨rfl, hk2⟩
   have HK2 := hide (HK0.out.trans hk2)
   have HX2 := hide (HX0.out.trans hk2)
   clear hk2
   refine hK.out _ _ (HA.out V2 HK2.out HX2.out) (fun hHeld => ?_)
   clear hK K
   refine tk 11 ?_ rfl ?_ ?_
   rotate_left
   ·(intro w9 hS9; (try simp only [ga]); go_simp <;> rfl)
   try simp only [Act.put, gp]
   refine wpAnyH_done (by kernel_rfl) ?_ _
   try simp only [Exit.then]
   clear hHeld
   go_wp2_with fail
   go_roundw
   ·exact ⟨q + 1, by omega, by simp, HK2, HX2⟩
   ·simp only [intOf]; omega
def live1 : List UInt8 := [115, 99, 114, 105, 112, 116, 32, 97, 32, 110, 101, 118, 101, 114, 32, 51, 10, 115, 101, 110, 100, 32, 34, 120, 34, 10]
def live2 : List UInt8 := [115, 99, 114, 105, 112, 116, 32, 97, 32, 110, 101, 118, 101, 114, 32, 51, 10, 103, 111, 116, 111, 32, 98]
theorem live1_err : (parseM live1).2.2 = 0 := by decide +kernel
theorem live1_jumps : (parseM live1).1.jumps = 3 := by decide +kernel
theorem live1_texts : (parseM live1).1.ops.map (·.text) = [⟨#[120]⟩] := by decide +kernel
theorem live2_end : (parseM live2).2 = ((2, 6), 13) := by decide +kernel
structure Vars (w : World) : Prop where
 len : LenV w
 err : ErrV w
 lt : 8 < w.heap.size
theorem Vars.only {w w' : World} (h : Vars w) (k : Only NoBlk w w') : Vars w' :=
 ⟨h.len.elim fun m h1 => ⟨m, okeep k (fun h => h) h1⟩, h.err.only h.lt (OnB.none k), Nat.lt_of_lt_of_le h.lt k.size⟩
theorem live1_c (w : World) (h : Vars w) : Calls Tryz.prog 13 #[.string ⟨#[115, 99, 114, 105, 112, 116, 32, 97, 32, 110, 101, 118, 101, 114, 32, 51, 10, 115, 101, 110, 100, 32, 34, 120, 34, 10]⟩] w fun e w' => (∃ nm d b o c v, e = .returned (.tuple #[.agg #[.string nm, .int .i64 d, .int .i64 3, .slice (some ⟨b, o, none⟩) 1 c], .agg #[.int .i64 (parseM live1).2.1.1, .int .i64 (parseM live1).2.1.2], .int .i64 0]) ∧ w'.cell? ⟨b, o + 1, none⟩ = some (.string ⟨#[120]⟩) ∧ v = b) ∧ Only NoBlk w w' := by
 refine (pparse_c ⟨live1.toArray⟩ w (by decide) h.len h.err h.lt).mono ?_
 rintro e w' ⟨⟨oA, oc, L, rfl, hL, ho⟩, k⟩
 refine ⟨?_, k⟩
 have e1 : (parseM live1).1.ops.map (·.text) = [⟨#[120]⟩] := live1_texts
 have hL' : L.map (·.o) = (parseM live1).1.ops := hL
 rw [← hL', List.map_map] at e1
 have hlen : L.length = 1 := by have e2 := congrArg List.length e1; rw [List.length_map] at e2; exact e2
 obtain ⟨b, o, rfl, _, hc0, hc1, _⟩ := op_cells ho.1 0 (by omega)
 refine ⟨(parseM live1).1.name, (parseM live1).1.deadline, b, o, oc, b, ?_, ?_, rfl⟩
 ·rw [hlen]
  show Ending.returned (.tuple #[.agg #[_, _, .int .i64 (parseM live1).1.jumps, _], _, .int .i64 (parseM live1).2.2]) = _
  rw [live1_jumps, live1_err]
 ·have e3 : (opAt L 0).o.text = ⟨#[120]⟩ := by
   obtain ⟨v, r, rfl⟩ : ∃ v r, L = v :: r := by cases L with
    | nil => simp at hlen
    | cons v r => exact ⟨v, r, rfl⟩
   injection e1
  rw [e3] at hc1
  simpa using hc1
theorem live2_c (w : World) (h : Vars w) : Calls Tryz.prog 13 #[.string ⟨#[115, 99, 114, 105, 112, 116, 32, 97, 32, 110, 101, 118, 101, 114, 32, 51, 10, 103, 111, 116, 111, 32, 98]⟩] w fun e w' => (∃ nm d j A n c, e = .returned (.tuple #[.agg #[.string nm, .int .i64 d, .int .i64 j, .slice A n c], .agg #[.int .i64 2, .int .i64 6], .int .i64 13])) ∧ Only NoBlk w w' := by
 refine (pparse_c ⟨live2.toArray⟩ w (by decide) h.len h.err h.lt).mono ?_
 rintro e w' ⟨⟨oA, oc, L, rfl, hL, ho⟩, k⟩
 refine ⟨⟨(parseM live2).1.name, (parseM live2).1.deadline, (parseM live2).1.jumps, oA, L.length, oc, ?_⟩, k⟩
 show Ending.returned (.tuple #[_, .agg #[.int .i64 (parseM live2).2.1.1, .int .i64 (parseM live2).2.1.2], .int .i64 (parseM live2).2.2]) = _
 rw [live2_end]
set_option maxRecDepth 100000 in
set_option maxHeartbeats 12800000 in
theorem lives14_c (w : World) (h : Vars w) : Calls Tryz.prog 17 #[] w fun e w' => e = .returned (.bool true) ∧ Only NoBlk w w' := by
 have H1 := hide (fun (X : World) (k : Only NoBlk w X) => live1_c X (h.only k))
 have H2 := hide (fun (X : World) (k : Only NoBlk w X) => live2_c X (h.only k))
 obtain ⟨S1, hS1⟩ : ∃ S1, S1 = (parseM live1).2.1.1 := ⟨_, rfl⟩
 obtain ⟨S2, hS2⟩ : ∃ S2, S2 = (parseM live1).2.1.2 := ⟨_, rfl⟩
 rw [← hS1, ← hS2] at H1
 clear hS1 hS2 h
 go_enter Tryz.func17, Tryz.ntmps17
 go_wp2_with fail
 refine (H1.out _ (Only.refl _ _)).mono ?_
 rintro e w1 ⟨⟨nm, d, b, o, c, v, rfl, hc, -⟩, k1⟩
 have HC := hide hc
 have K1 := hide k1
 clear hc k1
 go_wp2_with fail
 generalize hX : World.alloc (World.alloc w1 _) _ = X
 obtain ⟨g, hg⟩ : ∃ g, g = w1.heap.size := ⟨_, rfl⟩
 have HX := hide (show Only NoBlk w X by rw [← hX]; exact (K1.out.alloc _).alloc _)
 have HX1 := hide (show Only NoBlk w1 X by rw [← hX]; exact ((Only.refl _ w1).alloc _).alloc _)
 have HG := hide (show Blk X g 25 #[.string nm, .int .i64 d, .int .i64 3, .slice (some ⟨b, o, none⟩) 1 c] by rw [← hX, hg]; exact (Blk.new _ _ _).alloc _)
 rw [← hg]
 clear hX hg
 refine (H2.out X HX.out).mono ?_
 rintro e w2 ⟨⟨nm2, d2, j2, A2, n2, c2, rfl⟩, k2⟩
 have HY1 := hide (HX.out.trans k2)
 have HG2 := hide (HG.out.only k2 (fun h => h))
 have HC2 := hide (okeep k2 (fun h => h) (okeep HX1.out (fun h => h) HC.out))
 clear k2
 go_upto_region 3 with fail
 generalize hY : World.alloc (World.alloc w2 _) _ = Y
 obtain ⟨h, hh⟩ : ∃ h, h = w2.heap.size := ⟨_, rfl⟩
 have HY := hide (show Only NoBlk w Y by rw [← hY]; exact (HY1.out.alloc _).alloc _)
 have HY2 := hide (show Only NoBlk w2 Y by rw [← hY]; exact ((Only.refl _ w2).alloc _).alloc _)
 have HS := hide (show Blk Y (h + 1) 27 #[.int .i64 2, .int .i64 6] by rw [← hY, hh]; exact Blk.new' (by simp))
 rw [← hh]
 clear hY hh
 have c0 := okeep HY2.out (fun h => h) HC2.out
 have c3 : Y.cell? ⟨g, 3, none⟩ = some (.slice (some ⟨b, o, none⟩) 1 c) := (HG2.out.only HY2.out (fun h => h)).cell 3
 have c2' : Y.cell? ⟨g, 2, none⟩ = some (.int .i64 3) := (HG2.out.only HY2.out (fun h => h)).cell 2
 have s0 : Y.cell? ⟨h + 1, 0, none⟩ = some (.int .i64 2) := HS.out.cell 0
 have s1 : Y.cell? ⟨h + 1, 1, none⟩ = some (.int .i64 6) := HS.out.cell 1
 go_wp2_with fail
 refine bodyPost_ret (v := .bool true) (by simp [results, Tryz.results17, go_sem]; try rfl) rfl ?_
 exact ⟨rfl, HY.out⟩
set_option maxRecDepth 100000 in
set_option maxHeartbeats 12800000 in
theorem cut02_c (s : ByteArray) (n : Nat) (w : World) (hs : s.size ≤ 9223372036854775807) : Calls Tryz.prog 12 #[.string s, .int .i64 n] w fun e w' => (∃ t : ByteArray, e = .returned (.string t) ∧ t.size ≤ n) ∧ w' = w := by
 go_enter Tryz.func12, Tryz.ntmps12
 have hss : ((s.size : Nat) : Int) = s.size := rfl
 by_cases hc : n < s.size
 case pos =>
  have d1 : decide ((n : Int) < (s.size : Int)) = true := by simp; omega
  have d2 : decide (n < s.size) = true := by simp; omega
  have j1 : (0 : Int) ≤ (n : Int) := by omega
  have j2 : (n : Int) ≤ (s.size : Int) := by omega
  go_wp2_with fail
  refine bodyPost_ret (v := .string (s.extract 0 n)) (by simp [results, Tryz.results12, go_sem]; try rfl) rfl ?_
  exact ⟨⟨_, rfl, by rw [ByteArray.size_extract]; omega⟩, rfl⟩
 case neg =>
  have d1 : decide ((n : Int) < (s.size : Int)) = false := by simp; omega
  have d2 : decide (n < s.size) = false := by simp; omega
  go_wp2_with fail
  refine bodyPost_ret (v := .string s) (by simp [results, Tryz.results12, go_sem]; try rfl) rfl ?_
  exact ⟨⟨_, rfl, by omega⟩, rfl⟩
theorem head14_c (w : World) : Calls Tryz.prog 19 #[] w fun e w' => e = .returned (.string ⟨#[115, 99, 114, 105, 112, 116, 32, 97, 32, 110, 101, 118, 101, 114, 32, 51, 10]⟩) ∧ w' = w := by
 go_enter Tryz.func19, Tryz.ntmps19
 go_wp2_with fail
 refine bodyPost_ret (v := .string ⟨#[115, 99, 114, 105, 112, 116, 32, 97, 32, 110, 101, 118, 101, 114, 32, 51, 10]⟩) (by simp [results, Tryz.results19, go_sem]; try rfl) rfl ?_
 exact ⟨rfl, rfl⟩
theorem Tryz.infoBool : (Tryz.prog.info? 4).map (fun i => (i.zero, i.size, i.bytes)) = some (some (.bool false), 1, 1) := by kernel_rfl
def encB (b : Bool) : List Value := [.bool b]
theorem encB_len (b : Bool) : (encB b).length = 1 := rfl
theorem encB_one (b : Bool) : ∀ u ∈ encB b, u.oneCell' = true := by intro u hu; simp [encB] at hu; subst hu; rfl
def bAt (l : List Bool) (k : Nat) : Bool := l.getD k false
theorem flat_b (l : List Bool) : flat encB l = l.map Value.bool := by
 induction l with
 | nil => rfl
 | cons a r ih => rw [flat_cons, ih]; rfl
theorem own_b {w : World} {base n : Nat} {A : Option Addr} {c : Nat} {s : List Bool} (h : w.ownsRow base 4 1 (.slice A n c) n (flat encB s)) (j : Nat) (hj : j < n) : ∃ g, A = some ⟨g, 0, none⟩ ∧ base ≤ g ∧ g < w.heap.size ∧ w.cell? ⟨g, j, none⟩ = some (.bool (bAt s j)) ∧ w.frozen? ⟨g, j, none⟩ = false := by
 obtain ⟨hl, h2⟩ := h
 rcases h2 with ⟨hv, hn⟩ | ⟨g, cap, cur, hv, hb, hh, hnc, hcm, hsz, htk⟩
 ·omega
 ·injection hv with hv _ _
  have hB : Blk w g 4 cur := hh
  refine ⟨g, hv, hb, hB.lt, ?_, hB.frozen j⟩
  rw [hB.cell j]
  have e : cur[j]? = (cur.toList.take (n * 1))[j]? := by rw [List.getElem?_take, if_pos (by omega)]; simp
  rw [e, htk, flat_b]
  rw [flat_b] at hl
  have hjl : j < s.length := by simp at hl; omega
  simp [bAt, List.getD, hjl]
set_option maxRecDepth 100000 in
set_option maxHeartbeats 1600000 in
theorem refHas_c (a b c d : Int) (x : Nat) (w : World) (hx : x < 256) : Calls Tryz.prog 240 #[.agg (setA a b c d), .int .i64 x] w fun e w' => ∃ v, e = .returned (.bool v) ∧ Below w.heap.size w w' := by
 unfold setA
 have hr1 : Int.tmod (x : Int) 64 = ((x % 64 : Nat) : Int) := by rw [Int.tmod_eq_emod_of_nonneg (by omega)]; omega
 have hr2 : (x : Int) % 64 = ((x % 64 : Nat) : Int) := by omega
 have hr3 : x % 64 < 64 := Nat.mod_lt _ (by omega)
 have h4 : x / 64 = 0 ∨ x / 64 = 1 ∨ x / 64 = 2 ∨ x / 64 = 3 := by omega
 rcases h4 with h4 | h4 | h4 | h4
 all_goals
  have hq1 : Int.tdiv (x : Int) 64 = ((x / 64 : Nat) : Int) := by rw [Int.tdiv_eq_ediv_of_nonneg (by omega)]; omega
  have hq2 : (x : Int) / 64 = ((x / 64 : Nat) : Int) := by omega
  have hw1 : IntKind.i64.wrap ((x / 64 : Nat) : Int) = ((x / 64 : Nat) : Int) := IntWalk.i64_in _ (by omega)
  have hw2 : IntKind.i64.wrap ((x % 64 : Nat) : Int) = ((x % 64 : Nat) : Int) := IntWalk.i64_in _ (by omega)
  rw [h4] at hq1 hq2 hw1
  clear h4
  obtain ⟨r, hr⟩ : ∃ r, r = x % 64 := ⟨_, rfl⟩
  rw [← hr] at hr1 hr2 hr3 hw2
  clear hr
  go_enter Tryz.func240, Tryz.ntmps240
  go_wp2_with fail
  go_loopw [5, 6] (fun n i wr => ∃ (k : Nat) (v : Int), k < 64 ∧ i = .int .i64 k ∧ n = .int .u64 v ∧ Hid (Below w.heap.size w wr)) (fun _ i _ => (intOf i).toNat)
  case atStart => exact ⟨r, _, by omega, by go_num, rfl, hide (below_alloc _ _)⟩
  case round =>
   obtain ⟨k, v, hk, rfl, rfl, hbel⟩ := hrel
   by_cases h0 : 0 < k
   ·have d1 : decide ((0 : Int) < (k : Int)) = true := by simp; omega
    have d2 : decide (0 < k) = true := by simp; omega
    go_wp2_with fail
    go_roundw
    case rel => exact ⟨k - 1, _, by omega, by go_num, rfl, hbel⟩
    case measure => simp [intOf]; omega
   ·have d1 : decide ((0 : Int) < (k : Int)) = false := by simp; omega
    have d2 : decide (0 < k) = false := by simp; omega
    go_wp2_with fail
    go_ret
    exact ⟨_, rfl, hbel.out⟩
set_option maxRecDepth 100000 in
set_option maxHeartbeats 1600000 in
theorem refFlags_c (a b c d : Int) (w : World) : Calls Tryz.prog 227 #[.agg (setA a b c d)] w fun e w' => ∃ v s, e = .returned v ∧ w'.ownsRow w.heap.size 4 1 v 256 (flat encB s) ∧ Below w.heap.size w w' := by
 obtain ⟨i0, hi, hz0, hz1, hz2⟩ := info_parts Tryz.infoBool
 go_enter Tryz.func227, Tryz.ntmps227
 go_wp2_with fail
 unfold setA
 go_loopw [3, 4] (fun v i wr => ∃ (k : Nat) (s : List Bool), k ≤ 256 ∧ i = .int .i64 k ∧ Hid (wr.ownsRow w.heap.size 4 1 v k (flat encB s)) ∧ Hid (Below w.heap.size w wr) ∧ Hid (Blk wr w.heap.size 249 (setA a b c d))) (fun _ i _ => 256 - (intOf i).toNat)
 case atStart => exact ⟨0, [], by omega, rfl, hide (own_empty' (by simp) (by simp)), hide ((below_alloc _ _).alloc (by simp) _), hide ((Blk.new _ _ _).alloc _)⟩
 case round =>
  obtain ⟨k, s, hk, rfl, hown, hbel, hB⟩ := hrel
  obtain ⟨A1, c1, rfl, hcap⟩ := own_cap hown.out
  obtain ⟨⟨g0, g1, g2, g3⟩, _⟩ := hB.out.four
  by_cases hlt : k < 256
  ·have HH := hide (show Calls Tryz.prog 240 #[.agg #[.int .u64 a, .int .u64 b, .int .u64 c, .int .u64 d], .int .i64 k] wr _ from refHas_c a b c d k wr hlt)
   go_wp2_with (first
    | (go_at_call 240
       refine HH.out.mono ?_
       rintro e w2 ⟨v, rfl, hb2⟩
       have HO2 := hide (own_only hown.out (Only.of_below hb2 NoBlk) (fun _ _ h => h.elim))
       have HL2 := hide (hbel.out.trans (hb2.mono hbel.out.size))
       have HB2 := hide (hB.out.below hb2)
       have Hrd := hide (show Rd (w2.alloc (.cells (encB v).toArray 4)) NoBlk (some ⟨w2.heap.size, 0, none⟩) (encB v) from rd_blkN (Blk.new _ _ _) (fun h => h))
       have Hone := hide (encB_one v)
       clear hb2 g0 g1 g2 g3)
    | (at_builtin; refine wpList_append_rd _ rfl (.tmp 10) (.tmp 14) _ rfl w.heap.size 4 i0 _ 1 1 Tryz.underlying276 hi hz0 hz1 hz2 rfl (by omega) _ k _ rfl (HO2.out.alloc _) NoBlk (some ⟨w2.heap.size, 0, none⟩) 1 1 (encB v) rfl Hrd.out rfl Hone.out (by simp only [maxLen]; omega) (by omega) (by have := HL2.out.size; simp; omega) ?_; intro v2 w3 hown2 hgr _; have Own2 := hide hown2; have Gr := hide hgr; clear hown2 hgr))
   have HL3 := hide ((HL2.out.alloc HL2.out.size _).grown Gr.out (by have := HL2.out.size; simp; omega) (fun j hj => by have := own_ge HO2.out j hj; omega))
   go_roundw
   case rel =>
    refine ⟨k + 1, s ++ [v], by omega, by go_num, ?_, HL3, hide (Blk.grown (HB2.out.alloc _) (HO2.out.alloc _) (by decide) Gr.out)⟩
    rw [flat_append]
    exact hide (by simpa [flat] using Own2.out)
   case measure => simp [intOf]; omega
  ·obtain rfl : k = 256 := by omega
   go_wp2_with fail
   go_ret
   exact ⟨_, s, rfl, hown.out, hbel.out⟩
set_option maxRecDepth 100000 in
set_option maxHeartbeats 1600000 in
theorem refNone_c (w : World) : Calls Tryz.prog 211 #[] w fun e w' => ∃ v s, e = .returned v ∧ w'.ownsRow w.heap.size 4 1 v 256 (flat encB s) ∧ Below w.heap.size w w' := by
 have HF := hide (show Calls Tryz.prog 227 #[.agg #[.int .u64 0, .int .u64 0, .int .u64 0, .int .u64 0]] w _ from refFlags_c 0 0 0 0 w)
 go_enter Tryz.func211, Tryz.ntmps211
 go_wp2_with fail
 refine HF.out.mono ?_
 rintro e w2 ⟨v, s, rfl, ho, hb⟩
 go_wp2_with fail
 go_ret
 exact ⟨v, s, rfl, ho, hb⟩
def SetB (w : World) (g : Nat) : Prop := ∃ a b c d : Int, Blk w g 249 (setA a b c d)
theorem setB_at {w : World} {g k : Nat} (h : SetB w g) (hk : k < 4) : ∃ v : Int, w.cell? ⟨g, k, none⟩ = some (.int .u64 v) ∧ w.frozen? ⟨g, k, none⟩ = false ∧ ∀ u : Int, SetB (w.setCell ⟨g, k, none⟩ (.int .u64 u)) g := by
 obtain ⟨a, b, c, d, h⟩ := h
 have h4 : k = 0 ∨ k = 1 ∨ k = 2 ∨ k = 3 := by omega
 rcases h4 with rfl | rfl | rfl | rfl
 ·exact ⟨a, by rw [h.cell]; rfl, h.frozen _, fun u => ⟨u, b, c, d, h.set_ 0 _⟩⟩
 ·exact ⟨b, by rw [h.cell]; rfl, h.frozen _, fun u => ⟨a, u, c, d, h.set_ 1 _⟩⟩
 ·exact ⟨c, by rw [h.cell]; rfl, h.frozen _, fun u => ⟨a, b, u, d, h.set_ 2 _⟩⟩
 ·exact ⟨d, by rw [h.cell]; rfl, h.frozen _, fun u => ⟨a, b, c, u, h.set_ 3 _⟩⟩
set_option maxRecDepth 100000 in
set_option maxHeartbeats 3200000 in
theorem refMake_c (base : Nat) (A : Option Addr) (c : Nat) (s : List Bool) (w : World) (h : w.ownsRow base 4 1 (.slice A 256 c) 256 (flat encB s)) : Calls Tryz.prog 214 #[.slice A 256 c] w (RetSet w) := by
 have H := hide h
 go_enter Tryz.func214, Tryz.ntmps214
 go_wp2_with fail
 go_loopw [4] (fun i wr => ∃ k : Nat, k ≤ 4 ∧ i = .int .i64 k ∧ Hid (∃ a b c d, Blk wr (w.heap.size + 1) 249 (setA a b c d)) ∧ Hid (Blk wr w.heap.size 249 (setA 0 0 0 0)) ∧ Hid (Below w.heap.size w wr)) (fun i _ => 4 - (intOf i).toNat)
 case atStart => exact ⟨0, by omega, rfl, hide ⟨0, 0, 0, 0, Blk.new' (by simp)⟩, hide ((Blk.new _ _ _).alloc _), hide ((below_alloc _ _).alloc (by simp) _)⟩
 case round =>
  obtain ⟨k, hk, rfl, hb, hz, hbel⟩ := hrel
  by_cases hle : k < 4
  ·have d1 : decide ((k : Int) < 4) = true := by simp; omega
   have d2 : decide (k < 4) = true := by simp; omega
   go_wp2_with fail
   go_loopw [5] (fun i w2 => ∃ j : Nat, j ≤ 64 ∧ i = .int .i64 ((j : Int) - 1) ∧ Hid (∃ a b c d, Blk w2 (w.heap.size + 1) 249 (setA a b c d)) ∧ Hid (Blk w2 w.heap.size 249 (setA 0 0 0 0)) ∧ Hid (Below w.heap.size w w2)) (fun i _ => (intOf i + 1).toNat)
   case atStart => exact ⟨64, by omega, by simp, hb, hz, hbel⟩
   case round =>
    obtain ⟨j, hj, rfl, hb2, hz2, hbel2⟩ := hrel
    obtain ⟨a, b, c', d, hb2⟩ := hb2.out
    have HB := hide hb2
    by_cases hj0 : 0 < j
    ·obtain ⟨q, rfl⟩ : ∃ q, j = q + 1 := ⟨j - 1, by omega⟩
     rw [show (((q + 1 : Nat) : Int) - 1) = (q : Int) by omega]
     have e1 : decide ((0 : Int) ≤ (q : Int)) = true := by simp
     have w1 : IntKind.i64.wrap (64 * (k : Int)) = 64 * (k : Int) := IntWalk.i64_in _ (by omega)
     have w2' : IntKind.i64.wrap (64 * (k : Int) + (q : Int)) = 64 * (k : Int) + (q : Int) := IntWalk.i64_in _ (by omega)
     have hA : ∃ g, A = some ⟨g, 0, none⟩ ∧ g < w.heap.size ∧ ∀ i, i < 256 → w.cell? ⟨g, i, none⟩ = some (.bool (bAt s i)) := by
      obtain ⟨g, hg, _, hgl, _⟩ := own_b H.out 0 (by omega)
      refine ⟨g, hg, hgl, fun i hi => ?_⟩
      obtain ⟨g', hg', _, _, hc, _⟩ := own_b H.out i hi
      rw [hg] at hg'
      injection hg' with hg'
      injection hg' with hg'
      subst hg'
      exact hc
     obtain ⟨g, rfl, hgl, hcell⟩ := hA
     have hgi : wr.cell? ⟨g, 64 * k + q, none⟩ = some (.bool (bAt s (64 * k + q))) := bkeepL hbel2.out hgl (hcell _ (by omega))
     have j1 : (0 : Int) ≤ 64 * (k : Int) + (q : Int) := by omega
     have j2 : 64 * (k : Int) + (q : Int) < 256 := by omega
     have j3 : (64 * (k : Int) + (q : Int)).toNat = 64 * k + q := by omega
     have hne : ¬ g = w.heap.size + 1 := by omega
     have hne2 : ¬ w.heap.size + 1 = g := by omega
     obtain ⟨bv, hbv⟩ : ∃ bv, bv = bAt s (64 * k + q) := ⟨_, rfl⟩
     rw [← hbv] at hgi
     obtain ⟨v0, g0, f0, hset⟩ := setB_at ⟨a, b, c', d, hb2⟩ hle
     have HS := hide hset
     have k1 : (0 : Int) ≤ (k : Int) := by omega
     have k2 : (k : Int) < 4 := by omega
     clear hb hb2 hcell hbv hset
     cases bv
     ·go_wp2_with fail
      go_roundw
      case rel => exact ⟨q, by omega, rfl, hide (HS.out _), hide (hz2.out.far (by simp) _), hide (hbel2.out.setCell (by simp) _)⟩
      case measure => simp [intOf]
     ·go_wp2_with fail
      go_roundw
      case rel =>
       refine ⟨q, by omega, rfl, hide ?_, hide ((hz2.out.far (by simp) _).far (by simp) _), hide ((hbel2.out.setCell (by simp) _).setCell (by simp) _)⟩
       obtain ⟨v1, _, _, hs2⟩ := setB_at (HS.out _) hle
       exact hs2 _
      case measure => simp [intOf]
    ·obtain rfl : j = 0 := by omega
     have e1 : decide ((0 : Int) ≤ (((0 : Nat) : Int) - 1)) = false := by decide
     go_wp2_with fail
     go_roundw
     case rel => exact ⟨k + 1, by omega, by go_num, hide ⟨a, b, c', d, HB.out⟩, hz2, hbel2⟩
     case measure => simp [intOf]; omega
  ·obtain rfl : k = 4 := by omega
   obtain ⟨a, b, c', d, hb⟩ := hb.out
   obtain ⟨⟨g0, g1, g2, g3⟩, _⟩ := hb.four
   obtain ⟨⟨z0, z1, z2, z3⟩, e0, e1, e2, e3⟩ := hz.out.four
   clear hb
   go_wp2_with fail
   rw [put4]
   have r2 := hz.out.put [.int .u64 a, .int .u64 b, .int .u64 c', .int .u64 d] rfl
   have r3 := below_put [.int .u64 a, .int .u64 b, .int .u64 c', .int .u64 d] 0 hbel.out (Nat.le_refl _)
   obtain ⟨wz, hz⟩ : ∃ wz, wz = putFrom wr w.heap.size 0 [.int .u64 a, .int .u64 b, .int .u64 c', .int .u64 d] := ⟨_, rfl⟩
   rw [← hz] at r2 r3 ⊢
   obtain ⟨⟨g0, g1, g2, g3⟩, _⟩ := r2.four
   refine bodyPost_ret (v := .agg #[.int .u64 a, .int .u64 b, .int .u64 c', .int .u64 d]) (by simp [results, Tryz.results214, go_sem, g0, g1, g2, g3]) rfl ?_
   exact ⟨a, b, c', d, rfl, r3⟩
end Go.Proofs.YtaioaojfdngfdaaGreatDoor
