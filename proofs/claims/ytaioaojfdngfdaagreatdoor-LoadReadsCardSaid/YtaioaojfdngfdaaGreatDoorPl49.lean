/- Parts of a chain of lemmas: Ld9, Ld10, Live17. Conditions: those of each theorem. -/
import Derived.Test.YtaioaojfdngfdaaGreatDoorPl47
import Derived.BigRegion
import Derived.Test.YtaioaojfdngfdaaGreatDoorPl48
set_option linter.unusedVariables false
set_option linter.unusedSimpArgs false
namespace Go.Proofs.YtaioaojfdngfdaaGreatDoor
open Go.RowKit
def okS (s : ScrM) : Bool := decide (s.err = 0)
def rightM (l : List ScrM) : Nat := l.countP okS
theorem right_next (V : List ScrV) (k : Nat) (h : k < V.length) : rightM ((V.take (k + 1)).map (·.m)) = rightM ((V.take k).map (·.m)) + (if (scrAt V k).err = 0 then 1 else 0) := by
 unfold rightM
 rw [List.take_add_one, scrAt_some h, List.map_append, List.countP_append]
 congr 1
 by_cases he : (scrAt V k).err = 0
 ·rw [if_pos he]
  simp [okS, ScrV.m, he]
 ·rw [if_neg he]
  simp [okS, ScrV.m, he]
theorem right_le (l : List ScrM) : rightM l ≤ l.length := List.countP_le_length
def tameP (p : ProgM) : Prop := p.ops.length ≤ 200 ∧ ∀ o ∈ p.ops, o.arms.length ≤ 100
theorem readM_tame (p : PartM) (o : List ScrM) : tameP (readM p o).prog := by
 unfold readM readScr
 have h0 : tameP noProg := ⟨by simp [noProg], fun o h => by cases h⟩
 split
 ·exact h0
 ·next h =>
  split
  ·exact h0
  ·have h1 : (parseM (Lib.join p.l [10])).2.2 = 0 := by
    rcases Decidable.em ((parseM (Lib.join p.l [10])).2.2 = 0) with h2 | h2
    ·exact h2
    ·exact absurd h2 h
   have h2 := good_sz (p := (parseM (Lib.join p.l [10])).1) (by rw [parse_same] at h1 ⊢; exact parseD_good _ h1)
   exact ⟨h2.1, fun o ho => (h2.2.2 o ho).1⟩
theorem readAll_tame : ∀ (l : List PartM) (o : List ScrM), (∀ s ∈ o, tameP s.prog) → ∀ s ∈ readAll l o, tameP s.prog
 | [], o, h => h
 | p :: r, o, h => readAll_tame r _ fun s hs => by
  rcases List.mem_append.1 hs with hs | hs
  ·exact h s hs
  ·rw [List.mem_singleton] at hs
   subst hs
   exact readM_tame p o
theorem load_tame (t : List UInt8) : ∀ s ∈ (loadM t).1, tameP s.prog := by
 unfold loadM
 split
 ·intro s hs; cases hs
 ·split
  ·intro s hs; cases hs
  ·exact readAll_tame _ _ (fun s hs => by cases hs)
theorem load_len (t : List UInt8) : (loadM t).1.length ≤ 64 := by
 unfold loadM
 split
 ·simp
 ·split
  ·simp
  ·next h =>
   simp only
   rw [readAll_len]
   simp
   omega
set_option maxRecDepth 100000 in
set_option maxHeartbeats 3200000 in
theorem Right_c (M : Nat → Prop) (A : Option Addr) (c : Nat) (l : List ScrV) (w : World) (hr : Rd w M A (flat encScr l)) (hn0 : l.length ≤ 1000000) :
 Calls Tryz.prog 23 #[.slice A l.length c] w fun e w' => e = .returned (.int .i64 (rightM (l.map (·.m)) : Nat)) ∧ Below w.heap.size w w' := by
 have Hc := hide (fun k hk => scr_cells hr k hk)
 have HNx := hide (right_next l)
 have HLe := hide (fun k => right_le ((l.take k).map (·.m)))
 obtain ⟨n, hnl⟩ : ∃ n, n = l.length := ⟨_, rfl⟩
 have HR := hide (show rightM (l.map (·.m)) = rightM ((l.take n).map (·.m)) by rw [hnl, List.take_length])
 obtain ⟨R, hR⟩ : ∃ R, R = rightM (l.map (·.m)) := ⟨_, rfl⟩
 rw [← hR] at HR ⊢
 rw [← hnl] at hn0 HNx Hc ⊢
 clear hr hnl hR
 go_enter Tryz.func23, Tryz.ntmps23
 go_wp2_with fail
 go_loopw [3, 5, 8] (fun q _ i wr => ∃ k N : Nat, k ≤ n ∧ N ≤ k ∧ i = .int .i64 k ∧ q = .int .i64 N ∧ Hid (N = rightM ((l.take k).map (·.m))) ∧ Hid (Below w.heap.size w wr)) (fun _ _ i _ => n - (intOf i).toNat)
 case atStart => exact ⟨0, 0, Nat.zero_le _, Nat.le_refl _, rfl, rfl, hide (by rfl), hide (Below.refl _ _)⟩
 case round =>
  obtain ⟨k, N, hk, hNk, rfl, rfl, HN, hbel⟩ := hrel
  have w1 : IntKind.i64.wrap ((k : Int) + 1) = (k : Int) + 1 := IntWalk.i64_in _ (by omega)
  have w2 : IntKind.i64.wrap ((N : Int) + 1) = (N : Int) + 1 := IntWalk.i64_in _ (by omega)
  by_cases hlt2 : k < n
  ·obtain ⟨b2, o, rfl, hb2, _, hc⟩ := Hc.out k hlt2
   have hnx := HNx.out k hlt2
   obtain ⟨v, hv⟩ : ∃ v, v = scrAt l k := ⟨_, rfl⟩
   rw [← hv] at hc hnx
   have gc : ∀ j, j < 8 → wr.cell? ⟨b2, o + k * 8 + j, none⟩ = (encScr v)[j]? := fun j hj => (Only.cell (Only.of_below hbel.out NoBlk) (p := ⟨b2, o + k * 8 + j, none⟩) hb2 (fun h => h)).trans (hc j hj)
   have g0 : wr.cell? ⟨b2, o + k * 8, none⟩ = some (.string v.nm) := gc 0 (by omega)
   have g1 : wr.cell? ⟨b2, o + k * 8 + 1, none⟩ = some (.int .i64 v.d) := gc 1 (by omega)
   have g2 : wr.cell? ⟨b2, o + k * 8 + 2, none⟩ = some (.int .i64 v.j) := gc 2 (by omega)
   have g3 : wr.cell? ⟨b2, o + k * 8 + 3, none⟩ = some (.slice v.A v.L.length v.c) := gc 3 (by omega)
   have g4 : wr.cell? ⟨b2, o + k * 8 + 4, none⟩ = some (.int .i64 v.line) := gc 4 (by omega)
   have g5 : wr.cell? ⟨b2, o + k * 8 + 5, none⟩ = some (.int .i64 v.x) := gc 5 (by omega)
   have g6 : wr.cell? ⟨b2, o + k * 8 + 6, none⟩ = some (.int .i64 v.y) := gc 6 (by omega)
   have g7 : wr.cell? ⟨b2, o + k * 8 + 7, none⟩ = some (.int .i64 v.err) := gc 7 (by omega)
   have d1 : decide ((k : Int) < (n : Int)) = true := by simp; exact hlt2
   have d2 : decide (k < n) = true := by simp; exact hlt2
   have j1 : (0 : Int) ≤ (k : Int) := by omega
   have j2 : (k : Int) < (n : Int) := by omega
   have HBn := hide (hbel.out.alloc hbel.out.size (.cells (encScr v).toArray 45))
   by_cases he : v.err = 0
   ·have HN2 := hide (show N + 1 = rightM ((l.take (k + 1)).map (·.m)) by rw [hnx, ← HN.out, if_pos he])
    have q1 : (v.err == 0) = true := by rw [he]; rfl
    clear hc gc hv hnx he hlt2
    go_wp2_with fail
    go_roundw
    case rel => exact ⟨k + 1, N + 1, by omega, by omega, by go_num, by go_num, HN2, HBn⟩
    case measure => simp [intOf] <;> omega
   ·have HN2 := hide (show N = rightM ((l.take (k + 1)).map (·.m)) by rw [hnx, ← HN.out, if_neg he]; rfl)
    have q1 : (v.err == 0) = false := beq_eq_false_iff_ne.2 he
    clear hc gc hv hnx he hlt2
    go_wp2_with fail
    go_roundw
    case rel => exact ⟨k + 1, N, by omega, by omega, by go_num, rfl, HN2, HBn⟩
    case measure => simp [intOf] <;> omega
  ·obtain rfl : k = n := by omega
   have HI := hide (show N = R by rw [HN.out, HR.out])
   have d1 : decide ((k : Int) < (k : Int)) = false := by simp
   have d2 : decide (k < k) = false := by simp
   go_wp2_with fail
   go_ret
   exact ⟨by rw [← HI.out]; rfl, hbel.out⟩
theorem m_parts {v1 v2 : ScrV} (h : v1.m = v2.m) : v1.nm = v2.nm ∧ v1.d = v2.d ∧ v1.j = v2.j ∧ v1.L.map (·.o) = v2.L.map (·.o) ∧ v1.line = v2.line ∧ v1.x = v2.x ∧ v1.y = v2.y ∧ v1.err = v2.err := by
 unfold ScrV.m progM at h
 injection h with h1 h2 h3 h4 h5
 injection h1 with e1 e2 e3 e4
 exact ⟨e1, e2, e3, e4, h2, h3, h4, h5⟩
set_option maxRecDepth 100000 in
set_option maxHeartbeats 25600000 in
theorem same17_c (A1 A2 : Option Addr) (c1 c2 : Nat) (S1 S2 : List ScrV) (w : World) (hr1 : Rd w NoBlk A1 (flat encScr S1)) (hr2 : Rd w NoBlk A2 (flat encScr S2)) (ho1 : ∀ v ∈ S1, OpsRd w NoBlk v.A v.L) (ho2 : ∀ v ∈ S2, OpsRd w NoBlk v.A v.L)
 (he : S1.map (·.m) = S2.map (·.m)) (ht : ∀ v ∈ S1, tameP v.m.prog) (hn : S1.length ≤ 1000000) :
 Calls Tryz.prog 25 #[.slice A1 S1.length c1, .slice A2 S2.length c2] w fun e w' => e = .returned (.bool true) ∧ Only NoBlk w w' := by
 have hlen : S2.length = S1.length := by have e := congrArg List.length he; rw [List.length_map, List.length_map] at e; exact e.symm
 have Hc1 := hide (fun k hk => scr_cells hr1 k hk)
 have Hc2 := hide (fun k hk => scr_cells hr2 k hk)
 have HEq := hide (fun (k : Nat) (hk : k < S1.length) => (show (scrAt S1 k).m = (scrAt S2 k).m ∧ scrAt S1 k ∈ S1 ∧ scrAt S2 k ∈ S2 by
  have hk2 : k < S2.length := by omega
  rw [scrAt_get hk, scrAt_get hk2]
  refine ⟨?_, List.getElem_mem _, List.getElem_mem _⟩
  have e1 : (S1.map (·.m))[k]? = (S2.map (·.m))[k]? := by rw [he]
  rw [List.getElem?_map, List.getElem?_map, List.getElem?_eq_getElem hk, List.getElem?_eq_getElem hk2] at e1
  exact Option.some.inj e1))
 have HSm := hide (fun (k : Nat) (hk : k < S1.length) (X : World) (q : Only NoBlk w X) => (show Calls Tryz.prog 15 #[.agg #[.string (scrAt S1 k).nm, .int .i64 (scrAt S1 k).d, .int .i64 (scrAt S1 k).j, .slice (scrAt S1 k).A (scrAt S1 k).L.length (scrAt S1 k).c], .agg #[.string (scrAt S2 k).nm, .int .i64 (scrAt S2 k).d, .int .i64 (scrAt S2 k).j, .slice (scrAt S2 k).A (scrAt S2 k).L.length (scrAt S2 k).c]] X fun e w' => e = .returned (.bool true) ∧ Only NoBlk X w' by
  obtain ⟨e1, m1, m2⟩ := HEq.out k hk
  obtain ⟨p1, p2, p3, p4, -⟩ := m_parts e1
  obtain ⟨t1, t2⟩ := ht _ m1
  have t1' : (scrAt S1 k).L.length ≤ 200 := by simpa [ScrV.m, progM] using t1
  rw [← p1, ← p2, ← p3]
  exact refSame_c _ _ _ _ _ _ _ _ _ X ((ho1 _ m1).only q (fun _ h => h)) ((ho2 _ m2).only q (fun _ h => h)) p4 (by omega) (fun v hv => by have := t2 v.o (List.mem_map.2 ⟨v, hv, rfl⟩); omega)))
 obtain ⟨n, hn2⟩ : ∃ n, n = S1.length := ⟨_, rfl⟩
 rw [hlen]
 rw [← hn2] at Hc1 HEq HSm hn ⊢
 have Hc2' := hide (fun (k : Nat) (hk : k < n) => Hc2.out k (by omega))
 clear hlen hr1 hr2 ho1 ho2 he ht Hc2 hn2
 go_enter Tryz.func25, Tryz.ntmps25
 go_wp2_with fail
 go_loopw [5] (fun i wr => ∃ k : Nat, k ≤ n ∧ i = .int .i64 k ∧ Hid (Only NoBlk w wr)) (fun i _ => n - (intOf i).toNat)
 case atStart => exact ⟨0, Nat.zero_le _, rfl, hide (Only.refl _ _)⟩
 case round =>
  obtain ⟨k, hk, rfl, HK⟩ := hrel
  have w1 : IntKind.i64.wrap ((k : Int) + 1) = (k : Int) + 1 := IntWalk.i64_in _ (by omega)
  by_cases hlt : k < n
  case neg =>
   have d1 : decide ((k : Int) < (n : Int)) = false := by simp; omega
   have d2 : decide (k < n) = false := by simp; omega
   go_wp2_with fail
   go_ret
   exact ⟨rfl, HK.out⟩
  case pos =>
   have d1 : decide ((k : Int) < (n : Int)) = true := by simp; exact hlt
   have d2 : decide (k < n) = true := by simp; exact hlt
   have j1 : (0 : Int) ≤ (k : Int) := by omega
   have j2 : (k : Int) < (n : Int) := by omega
   obtain ⟨b1, o1, rfl, hb1, _, hc1⟩ := Hc1.out k hlt
   obtain ⟨b2, o2, rfl, hb2, _, hc2⟩ := Hc2'.out k hlt
   obtain ⟨e1, m1, m2⟩ := HEq.out k hlt
   obtain ⟨-, -, -, -, p5, p6, p7, p8⟩ := m_parts e1
   have hsm := HSm.out k hlt
   obtain ⟨v1, hv1⟩ : ∃ v, v = scrAt S1 k := ⟨_, rfl⟩
   obtain ⟨v2, hv2⟩ : ∃ v, v = scrAt S2 k := ⟨_, rfl⟩
   rw [← hv1] at hc1 p5 p6 p7 p8 hsm
   rw [← hv2] at hc2 p5 p6 p7 p8 hsm
   have HSk := hide hsm
   have r5 : (v1.line != v2.line) = false := by rw [p5]; simp
   have r6 : (v1.x != v2.x) = false := by rw [p6]; simp
   have r7 : (v1.y != v2.y) = false := by rw [p7]; simp
   have r8 : (v1.err != v2.err) = false := by rw [p8]; simp
   have r6' : (v1.x == v2.x) = true := by rw [p6]; simp
   have r7' : (v1.y == v2.y) = true := by rw [p7]; simp
   have HCl := hide (fun (X : World) (q : Only NoBlk w X) => (show X.cell? ⟨b1, o1 + k * 8, none⟩ = some (.string v1.nm) ∧ X.cell? ⟨b1, o1 + k * 8 + 1, none⟩ = some (.int .i64 v1.d) ∧ X.cell? ⟨b1, o1 + k * 8 + 2, none⟩ = some (.int .i64 v1.j) ∧ X.cell? ⟨b1, o1 + k * 8 + 3, none⟩ = some (.slice v1.A v1.L.length v1.c) ∧ X.cell? ⟨b1, o1 + k * 8 + 4, none⟩ = some (.int .i64 v1.line) ∧ X.cell? ⟨b1, o1 + k * 8 + 5, none⟩ = some (.int .i64 v1.x) ∧ X.cell? ⟨b1, o1 + k * 8 + 6, none⟩ = some (.int .i64 v1.y) ∧ X.cell? ⟨b1, o1 + k * 8 + 7, none⟩ = some (.int .i64 v1.err) ∧ X.cell? ⟨b2, o2 + k * 8, none⟩ = some (.string v2.nm) ∧ X.cell? ⟨b2, o2 + k * 8 + 1, none⟩ = some (.int .i64 v2.d) ∧ X.cell? ⟨b2, o2 + k * 8 + 2, none⟩ = some (.int .i64 v2.j) ∧ X.cell? ⟨b2, o2 + k * 8 + 3, none⟩ = some (.slice v2.A v2.L.length v2.c) ∧ X.cell? ⟨b2, o2 + k * 8 + 4, none⟩ = some (.int .i64 v2.line) ∧ X.cell? ⟨b2, o2 + k * 8 + 5, none⟩ = some (.int .i64 v2.x) ∧ X.cell? ⟨b2, o2 + k * 8 + 6, none⟩ = some (.int .i64 v2.y) ∧ X.cell? ⟨b2, o2 + k * 8 + 7, none⟩ = some (.int .i64 v2.err) by
    have g1 : ∀ j, j < 8 → X.cell? ⟨b1, o1 + k * 8 + j, none⟩ = (encScr v1)[j]? := fun j hj => (q.cell (p := ⟨b1, o1 + k * 8 + j, none⟩) hb1 (fun h => h)).trans (hc1 j hj)
    have g2 : ∀ j, j < 8 → X.cell? ⟨b2, o2 + k * 8 + j, none⟩ = (encScr v2)[j]? := fun j hj => (q.cell (p := ⟨b2, o2 + k * 8 + j, none⟩) hb2 (fun h => h)).trans (hc2 j hj)
    exact ⟨g1 0 (by omega), g1 1 (by omega), g1 2 (by omega), g1 3 (by omega), g1 4 (by omega), g1 5 (by omega), g1 6 (by omega), g1 7 (by omega), g2 0 (by omega), g2 1 (by omega), g2 2 (by omega), g2 3 (by omega), g2 4 (by omega), g2 5 (by omega), g2 6 (by omega), g2 7 (by omega)⟩))
   clear hc1 hc2 hv1 hv2 hsm e1 m1 m2 hb1 hb2 p5 p6 p7 p8 hlt
   go_upto_region 6 with fail
   refine wp_region_held (S := fun X => X.cell? ⟨b1, o1 + k * 8, none⟩ = some (.string v1.nm) ∧ X.cell? ⟨b1, o1 + k * 8 + 1, none⟩ = some (.int .i64 v1.d) ∧ X.cell? ⟨b1, o1 + k * 8 + 2, none⟩ = some (.int .i64 v1.j) ∧ X.cell? ⟨b1, o1 + k * 8 + 3, none⟩ = some (.slice v1.A v1.L.length v1.c) ∧ X.cell? ⟨b1, o1 + k * 8 + 4, none⟩ = some (.int .i64 v1.line) ∧ X.cell? ⟨b1, o1 + k * 8 + 5, none⟩ = some (.int .i64 v1.x) ∧ X.cell? ⟨b1, o1 + k * 8 + 6, none⟩ = some (.int .i64 v1.y) ∧ X.cell? ⟨b1, o1 + k * 8 + 7, none⟩ = some (.int .i64 v1.err) ∧ X.cell? ⟨b2, o2 + k * 8, none⟩ = some (.string v2.nm) ∧ X.cell? ⟨b2, o2 + k * 8 + 1, none⟩ = some (.int .i64 v2.d) ∧ X.cell? ⟨b2, o2 + k * 8 + 2, none⟩ = some (.int .i64 v2.j) ∧ X.cell? ⟨b2, o2 + k * 8 + 3, none⟩ = some (.slice v2.A v2.L.length v2.c) ∧ X.cell? ⟨b2, o2 + k * 8 + 4, none⟩ = some (.int .i64 v2.line) ∧ X.cell? ⟨b2, o2 + k * 8 + 5, none⟩ = some (.int .i64 v2.x) ∧ X.cell? ⟨b2, o2 + k * 8 + 6, none⟩ = some (.int .i64 v2.y) ∧ X.cell? ⟨b2, o2 + k * 8 + 7, none⟩ = some (.int .i64 v2.err)) (by kernel_rfl) ?_
   change wpAnyH _ _ _ _ _ _ _ _ wr.drew
   obtain ⟨V0, hV0⟩ : ∃ V0, V0 = wr.drew := ⟨_, rfl⟩
   have K0 := hide (show Only NoBlk w V0 by rw [hV0]; exact HK.out.drew)
   have hHeld := HCl.out V0 K0.out
   rw [← hV0]
   simp only [List.size_toArray, List.length_cons, List.length_nil, Nat.zero_add, Nat.reduceAdd]
   clear hV0
   refine tk 0 ?_ rfl ?_ ?_
   rotate_left
   ·(intro w9 hS9; (try simp only [ga]); go_simp <;> rfl)
   try simp only [Act.put, gp]
   refine tk 1 ?_ rfl ?_ ?_
   rotate_left
   ·(intro w9 hS9; (try simp only [ga]); go_simp <;> rfl)
   try simp only [Act.put, gp]
   refine tk 2 ?_ rfl ?_ ?_
   rotate_left
   ·(intro w9 hS9; (try simp only [ga]); go_simp <;> rfl)
   try simp only [Act.put, gp]
   refine tk 3 ?_ rfl ?_ ?_
   rotate_left
   ·(intro w9 hS9; (try simp only [ga]); go_simp <;> rfl)
   try simp only [Act.put, gp]
   refine tk 4 ?_ rfl ?_ ?_
   rotate_left
   ·(intro w9 hS9; (try simp only [ga]); go_simp <;> rfl)
   try simp only [Act.put, gp]
   refine tk 5 ?_ rfl ?_ ?_
   rotate_left
   ·(intro w9 hS9; (try simp only [ga]); go_simp <;> rfl)
   try simp only [Act.put, gp]
   refine tk 6 ?_ rfl ?_ ?_
   rotate_left
   ·(intro w9 hS9; (try simp only [ga]); go_simp <;> rfl)
   try simp only [Act.put, gp]
   refine tk 7 ?_ rfl ?_ ?_
   rotate_left
   ·(intro w9 hS9; (try simp only [ga]); go_simp <;> rfl)
   try simp only [Act.put, gp]
   refine tk 8 ?_ rfl ?_ ?_
   rotate_left
   ·(intro w9 hS9; (try simp only [ga]); go_simp <;> rfl)
   try simp only [Act.put, gp]
   refine tk 9 ?_ rfl ?_ ?_
   rotate_left
   ·(intro w9 hS9; (try simp only [ga]); go_simp <;> rfl)
   try simp only [Act.put, gp]
   refine rdy 10 rfl (fun K hK => ?_)
   try simp only [ga]
   try go_simp
   refine (HSk.out V0 K0.out).mono ?_
   rintro e V1 ⟨rfl, k1⟩
   have K1 := hide (K0.out.trans k1)
   clear k1 hHeld
   refine hK.out _ _ (HCl.out V1 K1.out) (fun hHeld => ?_)
   clear hK K
   try simp only [Act.put, gp]
   refine tk 11 ?_ rfl ?_ ?_
   rotate_left
   ·(intro w9 hS9; (try simp only [ga]); go_simp <;> rfl)
   try simp only [Act.put, gp]
   refine tk 12 ?_ rfl ?_ ?_
   rotate_left
   ·(intro w9 hS9; (try simp only [ga]); go_simp <;> rfl)
   try simp only [Act.put, gp]
   refine tk 13 ?_ rfl ?_ ?_
   rotate_left
   ·(intro w9 hS9; (try simp only [ga]); go_simp <;> rfl)
   try simp only [Act.put, gp]
   refine tk 14 ?_ rfl ?_ ?_
   rotate_left
   ·(intro w9 hS9; (try simp only [ga]); go_simp <;> rfl)
   try simp only [Act.put, gp]
   refine tk 15 ?_ rfl ?_ ?_
   rotate_left
   ·(intro w9 hS9; (try simp only [ga]); go_simp <;> rfl)
   try simp only [Act.put, gp]
   refine tk 16 ?_ rfl ?_ ?_
   rotate_left
   ·(intro w9 hS9; (try simp only [ga]); go_simp <;> rfl)
   try simp only [Act.put, gp]
   refine tk 17 ?_ rfl ?_ ?_
   rotate_left
   ·(intro w9 hS9; (try simp only [ga]); go_simp <;> rfl)
   try simp only [Act.put, gp]
   refine tk 18 ?_ rfl ?_ ?_
   rotate_left
   ·(intro w9 hS9; (try simp only [ga]); go_simp <;> rfl)
   try simp only [Act.put, gp]
   refine tk 19 ?_ rfl ?_ ?_
   rotate_left
   ·(intro w9 hS9; (try simp only [ga]); go_simp <;> rfl)
   try simp only [Act.put, gp]
   refine tk 20 ?_ rfl ?_ ?_
   rotate_left
   ·(intro w9 hS9; (try simp only [ga]); go_simp <;> rfl)
   try simp only [Act.put, gp]
   refine tk 21 ?_ rfl ?_ ?_
   rotate_left
   ·(intro w9 hS9; (try simp only [ga]); go_simp <;> rfl)
   try simp only [Act.put, gp]
   refine tk 22 ?_ rfl ?_ ?_
   rotate_left
   ·(intro w9 hS9; (try simp only [ga]); go_simp <;> rfl)
   try simp only [Act.put, gp]
   refine tk 23 ?_ rfl ?_ ?_
   rotate_left
   ·(intro w9 hS9; (try simp only [ga]); go_simp <;> rfl)
   try simp only [Act.put, gp]
   refine tk 24 ?_ rfl ?_ ?_
   rotate_left
   ·(intro w9 hS9; (try simp only [ga]); go_simp <;> rfl)
   try simp only [Act.put, gp]
   refine tk 25 ?_ rfl ?_ ?_
   rotate_left
   ·(intro w9 hS9; (try simp only [ga]); go_simp <;> rfl)
   try simp only [Act.put, gp]
   refine tk 26 ?_ rfl ?_ ?_
   rotate_left
   ·(intro w9 hS9; (try simp only [ga]); go_simp <;> rfl)
   try simp only [Act.put, gp]
   refine tk 27 ?_ rfl ?_ ?_
   rotate_left
   ·(intro w9 hS9; (try simp only [ga]); go_simp <;> rfl)
   try simp only [Act.put, gp]
   refine tk 28 ?_ rfl ?_ ?_
   rotate_left
   ·(intro w9 hS9; (try simp only [ga]); go_simp <;> rfl)
   try simp only [Act.put, gp]
   refine tk 29 ?_ rfl ?_ ?_
   rotate_left
   ·(intro w9 hS9; (try simp only [ga]); go_simp <;> rfl)
   try simp only [Act.put, gp]
   refine tk 30 ?_ rfl ?_ ?_
   rotate_left
   ·(intro w9 hS9; (try simp only [ga]); go_simp <;> rfl)
   try simp only [Act.put, gp]
   refine tk 31 ?_ rfl ?_ ?_
   rotate_left
   ·(intro w9 hS9; (try simp only [ga]); go_simp <;> rfl)
   try simp only [Act.put, gp]
   refine tk 32 ?_ rfl ?_ ?_
   rotate_left
   ·(intro w9 hS9; (try simp only [ga]); go_simp <;> rfl)
   try simp only [Act.put, gp]
   refine tk 33 ?_ rfl ?_ ?_
   rotate_left
   ·(intro w9 hS9; (try simp only [ga]); go_simp <;> rfl)
   try simp only [Act.put, gp]
   refine tk 34 ?_ rfl ?_ ?_
   rotate_left
   ·(intro w9 hS9; (try simp only [ga]); go_simp <;> rfl)
   try simp only [Act.put, gp]
   refine tk 35 ?_ rfl ?_ ?_
   rotate_left
   ·(intro w9 hS9; (try simp only [ga]); go_simp <;> rfl)
   try simp only [Act.put, gp]
   refine tk 36 ?_ rfl ?_ ?_
   rotate_left
   ·(intro w9 hS9; (try simp only [ga]); go_simp <;> rfl)
   try simp only [Act.put, gp]
   refine tk 37 ?_ rfl ?_ ?_
   rotate_left
   ·(intro w9 hS9; (try simp only [ga]); go_simp <;> rfl)
   try simp only [Act.put, gp]
   refine tk 38 ?_ rfl ?_ ?_
   rotate_left
   ·(intro w9 hS9; (try simp only [ga]); go_simp <;> rfl)
   try simp only [Act.put, gp]
   refine tk 39 ?_ rfl ?_ ?_
   rotate_left
   ·(intro w9 hS9; (try simp only [ga]); go_simp <;> rfl)
   try simp only [Act.put, gp]
   refine tk 40 ?_ rfl ?_ ?_
   rotate_left
   ·(intro w9 hS9; (try simp only [ga]); go_simp <;> rfl)
   try simp only [Act.put, gp]
   refine tk 41 ?_ rfl ?_ ?_
   rotate_left
   ·(intro w9 hS9; (try simp only [ga]); go_simp <;> rfl)
   try simp only [Act.put, gp]
   refine tk 42 ?_ rfl ?_ ?_
   rotate_left
   ·(intro w9 hS9; (try simp only [ga]); go_simp <;> rfl)
   try simp only [Act.put, gp]
   refine tk 43 ?_ rfl ?_ ?_
   rotate_left
   ·(intro w9 hS9; (try simp only [ga]); go_simp <;> rfl)
   try simp only [Act.put, gp]
   refine tk 44 ?_ rfl ?_ ?_
   rotate_left
   ·(intro w9 hS9; (try simp only [ga]); go_simp <;> rfl)
   try simp only [Act.put, gp]
   refine tk 45 ?_ rfl ?_ ?_
   rotate_left
   ·(intro w9 hS9; (try simp only [ga]); go_simp <;> rfl)
   try simp only [Act.put, gp]
   refine tk 46 ?_ rfl ?_ ?_
   rotate_left
   ·(intro w9 hS9; (try simp only [ga]); go_simp <;> rfl)
   try simp only [Act.put, gp]
   refine tk 47 ?_ rfl ?_ ?_
   rotate_left
   ·(intro w9 hS9; (try simp only [ga]); go_simp <;> rfl)
   try simp only [Act.put, gp]
   refine tk 48 ?_ rfl ?_ ?_
   rotate_left
   ·(intro w9 hS9; (try simp only [ga]); go_simp <;> rfl)
   try simp only [Act.put, gp]
   refine tk 49 ?_ rfl ?_ ?_
   rotate_left
   ·(intro w9 hS9; (try simp only [ga]); go_simp <;> rfl)
   try simp only [Act.put, gp]
   refine tk 50 ?_ rfl ?_ ?_
   rotate_left
   ·(intro w9 hS9; (try simp only [ga]); go_simp <;> rfl)
   try simp only [Act.put, gp]
   refine wpAnyH_done (by kernel_rfl) ?_ _
   try simp only [Exit.then]
   clear hHeld
   go_wp2_with fail
   go_roundw
   case rel => exact ⟨k + 1, by omega, by go_num, K1⟩
   case measure => simp [intOf] <;> omega
def live17 : List UInt8 := [115, 99, 114, 105, 112, 116, 32, 97, 32, 57, 32, 48, 10, 115, 99, 114, 105, 112, 116, 32, 98, 32, 120, 32, 48, 10, 115, 99, 114, 105, 112, 116, 32, 99, 32, 57, 32, 48, 10]
theorem live17_err : (loadM live17).2 = 0 := by decide +kernel
theorem live17_in : (loadM live17).1.map (fun s => (s.prog.name.data.toList, s.x, s.y, s.err)) = [([97], 0, 0, 0), ([], 2, 10, 2), ([99], 0, 0, 0)] := by decide +kernel
theorem live17_c (w : World) (h : Vars w) : Calls Tryz.prog 21 #[.string ⟨#[115, 99, 114, 105, 112, 116, 32, 97, 32, 57, 32, 48, 10, 115, 99, 114, 105, 112, 116, 32, 98, 32, 120, 32, 48, 10, 115, 99, 114, 105, 112, 116, 32, 99, 32, 57, 32, 48, 10]⟩] w fun e w' => (∃ b o c, e = .returned (.tuple #[.slice (some ⟨b, o, none⟩) 3 c, .int .i64 0]) ∧ w'.cell? ⟨b, o, none⟩ = some (.string ⟨#[97]⟩) ∧ w'.cell? ⟨b, o + 8 + 7, none⟩ = some (.int .i64 2) ∧ w'.cell? ⟨b, o + 8 + 5, none⟩ = some (.int .i64 2) ∧ w'.cell? ⟨b, o + 8 + 6, none⟩ = some (.int .i64 10) ∧ w'.cell? ⟨b, o + 16, none⟩ = some (.string ⟨#[99]⟩)) ∧ Only NoBlk w w' := by
 refine (Load_c ⟨live17.toArray⟩ w (by decide) h).mono ?_
 rintro e w' ⟨⟨A, c, S, rfl, hS, hr, _⟩, k⟩
 refine ⟨?_, k⟩
 have hS' : S.map (·.m) = (loadM live17).1 := hS
 have e1 := live17_in
 rw [← hS', List.map_map] at e1
 have hl : S.length = 3 := by have := congrArg List.length e1; rw [List.length_map] at this; exact this
 obtain ⟨v0, v1, v2, rfl⟩ : ∃ v0 v1 v2, S = [v0, v1, v2] := by
  match S, hl with
  | [a, b, c], _ => exact ⟨a, b, c, rfl⟩
 obtain ⟨b, o, rfl, _, _, hc0⟩ := scr_cells hr 0 (by simp)
 obtain ⟨b', o', hA, _, _, hc1⟩ := scr_cells hr 1 (by simp)
 injection hA with hA; injection hA with h1 h2; subst h1 h2
 obtain ⟨b', o', hA, _, _, hc2⟩ := scr_cells hr 2 (by simp)
 injection hA with hA; injection hA with h1 h2; subst h1 h2
 have q0 := congrArg (fun l => l[0]?) e1
 have q1 := congrArg (fun l => l[1]?) e1
 have q2 := congrArg (fun l => l[2]?) e1
 have q0' := Option.some.inj q0
 have q1' := Option.some.inj q1
 have q2' := Option.some.inj q2
 have n0 : v0.m.prog.name.data.toList = [97] := congrArg (·.1) q0'
 have n2 : v2.m.prog.name.data.toList = [99] := congrArg (·.1) q2'
 have x1 : v1.m.x = 2 := congrArg (·.2.1) q1'
 have y1 : v1.m.y = 10 := congrArg (·.2.2.1) q1'
 have r1 : v1.m.err = 2 := congrArg (·.2.2.2) q1'
 have hn : ∀ (v : ScrV) (l : List UInt8), (v.m.prog.name.data.toList) = l → v.nm = ⟨l.toArray⟩ := fun v l h => by subst h; rfl
 refine ⟨b, o, c, ?_, ?_, ?_, ?_, ?_, ?_⟩
 ·show Ending.returned (.tuple #[_, .int .i64 (loadM live17).2]) = _
  rw [live17_err]; rfl
 ·have := hc0 0 (by omega)
  simp only [Nat.zero_mul, Nat.add_zero] at this
  rw [this]
  show some (Value.string v0.nm) = _
  rw [hn v0 _ n0]
 ·have := hc1 7 (by omega)
  rw [this]
  show some (Value.int .i64 v1.err) = _
  rw [show v1.err = 2 from r1]
 ·have := hc1 5 (by omega)
  rw [this]
  show some (Value.int .i64 v1.x) = _
  rw [show v1.x = 2 from x1]
 ·have := hc1 6 (by omega)
  rw [this]
  show some (Value.int .i64 v1.y) = _
  rw [show v1.y = 10 from y1]
 ·have := hc2 0 (by omega)
  rw [show o + 16 = o + 2 * 8 + 0 by omega, this]
  show some (Value.string v2.nm) = _
  rw [hn v2 _ n2]
set_option maxRecDepth 100000 in
set_option maxHeartbeats 12800000 in
theorem lives17_c (w : World) (h : Vars w) : Calls Tryz.prog 22 #[] w fun e w' => e = .returned (.bool true) ∧ Only NoBlk w w' := by
 have H1 := hide (live17_c w h)
 clear h
 go_enter Tryz.func22, Tryz.ntmps22
 go_wp2_with fail
 refine H1.out.mono ?_
 rintro e w1 ⟨⟨b, o, c, rfl, c0, c1, c2, c3, c4⟩, k1⟩
 have K1 := hide k1
 clear k1
 have c1' : w1.cell? ⟨b, o + 15, none⟩ = some (.int .i64 2) := c1
 have c2' : w1.cell? ⟨b, o + 13, none⟩ = some (.int .i64 2) := c2
 have c3' : w1.cell? ⟨b, o + 14, none⟩ = some (.int .i64 10) := c3
 go_wp2_with fail
 go_ret
 exact ⟨rfl, K1.out⟩
end Go.Proofs.YtaioaojfdngfdaaGreatDoor
