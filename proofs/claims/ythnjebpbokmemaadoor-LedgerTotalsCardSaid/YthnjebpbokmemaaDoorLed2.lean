/- One's row, and all rows, by the program. Conditions: those of each theorem. -/
import Derived.Test.YthnjebpbokmemaaDoorLed1
import Derived.Test.YthnjebpbokmemaaDoorIds31b
namespace Go.Proofs.YthnjebpbokmemaaDoor
open Go.RowKit
set_option linter.unusedVariables false

def rowsL (l : List Ev) : List RowM := (idsL l).map fun id => rowO id (lifeGo id 0 l)
def encR (r : RowM) : List Value := [.int .i64 r.id, .int .i64 r.script, .int .i64 r.from_, .int .i64 r.steps, .int .i64 r.looks, .int .i64 r.jumps, .int .i64 r.read, .int .i64 r.taken, .int .i64 r.status, .int .i64 r.end_]
theorem encR_len (r : RowM) : (encR r).length = 10 := rfl
theorem encR_one (r : RowM) : ∀ u ∈ encR r, u.oneCell' = true := by
  intro u hu
  simp [encR] at hu
  rcases hu with rfl | rfl | rfl | rfl | rfl | rfl | rfl | rfl | rfl | rfl <;> rfl
theorem Tryd.infoRow : (Tryd.prog.info? 23).map (fun i => (i.zero, i.size, i.bytes)) = some (some (.agg zeroRowV), 10, 80) := by kernel_rfl
set_option maxRecDepth 100000 in
set_option maxHeartbeats 1600000 in
theorem LedOf_c (A : Option Addr) (c : Nat) (l : List Ev) (id : Int) (w : World) (hr : Rd w NoBlk A (flat encEv l)) (hn : l.length ≤ 10000) (hx : ∀ x ∈ l, x.s.size ≤ 100) (hlc : l.length ≤ c) :
    Calls Tryd.prog 15 #[.slice A l.length c, .int .i64 id] w fun e w' => e = .returned (.tuple #[.agg (rowV (rowO id (lifeGo id 0 l))), .bool (lifeGo id 0 l).isSome]) ∧ Below w.heap.size w w' := by
  obtain ⟨W, hW⟩ : ∃ W, W = w.alloc (.cells zeroRowV 23) := ⟨_, rfl⟩
  have hL : Below w.heap.size w W := by rw [hW]; exact below_alloc _ _
  have hb0 : Blk W w.heap.size 23 zeroRowV := by rw [hW]; exact Blk.new _ _ _
  have HO := hide (ledOf_c A c l id W (hr.below hL) hn hx hlc)
  obtain ⟨r, hr2⟩ : ∃ r, r = rowO id (lifeGo id 0 l) := ⟨_, rfl⟩
  obtain ⟨ok, hok⟩ : ∃ ok, ok = (lifeGo id 0 l).isSome := ⟨_, rfl⟩
  rw [← hr2, ← hok] at HO ⊢
  obtain ⟨a0, a1, a2, a3, a4, a5, a6, a7, a8, a9⟩ := r
  have HW := hide hW
  have HL := hide hL
  have HB0 := hide hb0
  clear hW hL hb0 hr hx hr2 hok
  go_enter Tryd.func15, Tryd.ntmps15
  go_upto_region 1 with fail
  change Code.wp _ _ _ _ (w.alloc (.cells zeroRowV 23))
  rw [← HW.out]
  go_wp2_with fail
  refine HO.out.mono ?_
  rintro e w3 ⟨rfl, hb3⟩
  obtain ⟨y0, y1, y2, y3, y4, y5, y6, y7, y8, y9⟩ := (HB0.out.below hb3).tenR
  have hfz := fun i => (HB0.out.below hb3).frozen i
  have f0 := hfz 0; have f1 := hfz 1; have f2 := hfz 2; have f3 := hfz 3; have f4 := hfz 4; have f5 := hfz 5; have f6 := hfz 6; have f7 := hfz 7; have f8 := hfz 8; have f9 := hfz 9
  have HB3 := hide (HL.out.trans (hb3.mono HL.out.size))
  have HB03 := hide (HB0.out.below hb3)
  clear hfz hb3
  go_wp2_with fail
  obtain ⟨wz, hz⟩ : ∃ wz, wz = ((((((((((w3.setCell ⟨w.heap.size, 0, none⟩ (.int .i64 a0)).setCell ⟨w.heap.size, 1, none⟩ (.int .i64 a1)).setCell ⟨w.heap.size, 2, none⟩ (.int .i64 a2)).setCell ⟨w.heap.size, 3, none⟩ (.int .i64 a3)).setCell ⟨w.heap.size, 4, none⟩ (.int .i64 a4)).setCell ⟨w.heap.size, 5, none⟩ (.int .i64 a5)).setCell ⟨w.heap.size, 6, none⟩ (.int .i64 a6)).setCell ⟨w.heap.size, 7, none⟩ (.int .i64 a7)).setCell ⟨w.heap.size, 8, none⟩ (.int .i64 a8)).setCell ⟨w.heap.size, 9, none⟩ (.int .i64 a9)) := ⟨_, rfl⟩
  have tB : Blk wz w.heap.size 23 #[.int .i64 a0, .int .i64 a1, .int .i64 a2, .int .i64 a3, .int .i64 a4, .int .i64 a5, .int .i64 a6, .int .i64 a7, .int .i64 a8, .int .i64 a9] := by rw [hz]; exact HB03.out.put10 (.int .i64 a0) (.int .i64 a1) (.int .i64 a2) (.int .i64 a3) (.int .i64 a4) (.int .i64 a5) (.int .i64 a6) (.int .i64 a7) (.int .i64 a8) (.int .i64 a9)
  have lB := hide (show Below w.heap.size w wz from by rw [hz]; exact below_put10 HB3.out (Nat.le_refl _) (.int .i64 a0) (.int .i64 a1) (.int .i64 a2) (.int .i64 a3) (.int .i64 a4) (.int .i64 a5) (.int .i64 a6) (.int .i64 a7) (.int .i64 a8) (.int .i64 a9))
  rw [← hz]
  clear hz y0 y1 y2 y3 y4 y5 y6 y7 y8 y9 f0 f1 f2 f3 f4 f5 f6 f7 f8 f9
  obtain ⟨z0, z1, z2, z3, z4, z5, z6, z7, z8, z9⟩ := tB.tenR
  refine bodyPost_ret (v := .tuple #[.agg #[.int .i64 a0, .int .i64 a1, .int .i64 a2, .int .i64 a3, .int .i64 a4, .int .i64 a5, .int .i64 a6, .int .i64 a7, .int .i64 a8, .int .i64 a9], .bool ok]) (by simp [results, Tryd.results15, go_sem, z0, z1, z2, z3, z4, z5, z6, z7, z8, z9]) rfl ?_
  exact ⟨rfl, lB.out⟩
theorem rows_succ (l : List Ev) (L : List Int) (k : Nat) (h : k < L.length) : (L.take (k + 1)).map (fun id => rowO id (lifeGo id 0 l)) = (L.take k).map (fun id => rowO id (lifeGo id 0 l)) ++ [rowO (nth L k) (lifeGo (nth L k) 0 l)] := by
  rw [List.take_succ_eq_append_getElem h, List.map_append, nth_of_lt h]
  rfl
set_option maxRecDepth 100000 in
set_option maxHeartbeats 3200000 in
theorem rowsM_c (A : Option Addr) (c : Nat) (l : List Ev) (w : World) (hr : Rd w NoBlk A (flat encEv l)) (hn : l.length ≤ 10000) (hx : ∀ x ∈ l, x.s.size ≤ 100) (hlc : l.length ≤ c) :
    Calls Tryd.prog 22 #[.slice A l.length c] w fun e w' => Below w.heap.size w w' ∧ ∃ A1 c1, e = .returned (.slice A1 (rowsL l).length c1) ∧ Rd w' (fun b => b < w.heap.size) A1 (flat encR (rowsL l)) := by
  obtain ⟨i0, hi, hz0, hz1, hz2⟩ := info_parts Tryd.infoRow
  have hidn := ids_uniq l
  have hids := Ids_c NoBlk A c l w hr (by omega) (fun k h => h.elim)
  rw [show Lib.compact ((openedL l).mergeSort fun x y => decide (x ≤ y)) = idsL l from hidn.symm] at hids
  have hile := ids_le l
  have HOf := hide (fun (id : Int) (w' : World) (hb : Below w.heap.size w w') => ledOf_c A c l id w' (hr.below hb) hn hx hlc)
  have Hrl := hide (show (rowsL l).length = (idsL l).length ∧ flat encR (rowsL l) = flat encR ((idsL l).map fun id => rowO id (lifeGo id 0 l)) from ⟨by simp [rowsL], rfl⟩)
  obtain ⟨L, hLL⟩ : ∃ L, L = idsL l := ⟨_, rfl⟩
  rw [← hLL] at hids hile Hrl
  obtain ⟨N, hN⟩ : ∃ N, N = L.length := ⟨_, rfl⟩
  rw [← hN] at hids hile Hrl
  have HIds := hide hids
  have HN := hide hN
  obtain ⟨n, hnl⟩ : ∃ n, n = l.length := ⟨_, rfl⟩
  rw [← hnl] at HIds HOf hn hlc hile ⊢
  clear hids hN hnl hLL hidn hr hx
  go_enter Tryd.func22, Tryd.ntmps22
  go_wp2_with fail
  refine HIds.out.mono ?_
  rintro e w3 ⟨hb3, A3, c3, rfl, hr3⟩
  have HR3 := hide hr3
  have HB3 := hide hb3
  clear hb3 hr3
  go_wp2_with fail
  go_loopw [3, 11] (fun v i wr => ∃ k m : Nat, k ≤ N ∧ m = k ∧ i = .int .i64 k ∧ wr.ownsRow w3.heap.size 23 10 v m (flat encR ((L.take k).map fun id => rowO id (lifeGo id 0 l))) ∧ Hid (Below w3.heap.size w3 wr)) (fun _ i _ => N - (intOf i).toNat)
  case atStart => exact ⟨0, 0, Nat.zero_le _, rfl, rfl, ⟨rfl, Or.inl ⟨rfl, rfl⟩⟩, hide (Below.refl _ _)⟩
  case round =>
    obtain ⟨k, m, hk, hm, rfl, hown, hbel⟩ := hrel
    by_cases hlt : k < N
    · obtain ⟨b, o, rfl, hbl, g0⟩ := encI_cell HR3.out k (by rw [← HN.out]; exact hlt)
      replace g0 := bkeepL hbel.out hbl g0
      have HS := hide (rows_succ l L k (by rw [← HN.out]; exact hlt))
      obtain ⟨id, hid⟩ : ∃ id, id = nth L k := ⟨_, rfl⟩
      rw [← hid] at g0 HS
      clear hid
      have hof := HOf.out id wr (HB3.out.trans (hbel.out.mono HB3.out.size))
      obtain ⟨r, hrr⟩ : ∃ r, r = rowO id (lifeGo id 0 l) := ⟨_, rfl⟩
      obtain ⟨ok, hok⟩ : ∃ ok, ok = (lifeGo id 0 l).isSome := ⟨_, rfl⟩
      rw [← hrr] at HS hof
      rw [← hok] at hof
      clear hrr hok
      obtain ⟨a0, a1, a2, a3, a4, a5, a6, a7, a8, a9⟩ := r
      have HOo := hide hof
      clear hof
      have j1 : (0 : Int) ≤ (k : Int) := by omega
      have j2 : (k : Int) < (N : Int) := by omega
      have j3 : decide ((k : Int) < (N : Int)) = true := by simp; exact hlt
      go_wp2_with fail
      refine HOo.out.mono ?_
      rintro e w4 ⟨rfl, hb4⟩
      have hown4 := own_only hown (Only.of_below hb4 NoBlk) (fun _ _ h => h.elim)
      have HB4 := hide (hbel.out.trans (hb4.mono hbel.out.size))
      have hrd : Rd ((w4.alloc (.cells #[.int .i64 a0, .int .i64 a1, .int .i64 a2, .int .i64 a3, .int .i64 a4, .int .i64 a5, .int .i64 a6, .int .i64 a7, .int .i64 a8, .int .i64 a9] 23)).alloc (.cells (encR ⟨a0, a1, a2, a3, a4, a5, a6, a7, a8, a9⟩).toArray 23)) NoBlk (some ⟨w4.heap.size + 1, 0, none⟩) (encR ⟨a0, a1, a2, a3, a4, a5, a6, a7, a8, a9⟩) := rd_blkN (Blk.new' (by simp)) (fun h => h)
      have Hrd := hide hrd
      have Hone := hide (encR_one ⟨a0, a1, a2, a3, a4, a5, a6, a7, a8, a9⟩)
      clear hrd hb4 hown g0
      go_wp2_with (first
        | (at_builtin; refine wpList_append_rd _ rfl (.tmp 21) (.tmp 23) _ rfl w3.heap.size 23 i0 _ 10 80 Tryd.underlying31 hi hz0 hz1 hz2 rfl (by omega) _ m _ rfl ((hown4.alloc _).alloc _) NoBlk (some ⟨w4.heap.size + 1, 0, none⟩) 1 1 (encR ⟨a0, a1, a2, a3, a4, a5, a6, a7, a8, a9⟩) rfl Hrd.out rfl Hone.out (by simp only [maxLen]; omega) (by omega) (by have := HB4.out.size; simp; omega) ?_; intro v2 w5 hown5 hgr hat; have Own5 := hide hown5; have Gr := hide hgr; clear hown5 hgr hat))
      go_roundw
      case rel =>
        refine ⟨k + 1, m + 1, by omega, by omega, by go_num, ?_, ?_⟩
        · rw [HS.out, flat_append]
          have := Own5.out
          simpa [flat] using this
        · exact hide (((HB4.out.alloc HB4.out.size _).alloc (by have := HB4.out.size; simp; omega) _).grown Gr.out (by have := HB4.out.size; simp; omega) (fun j hj => by have := own_ge hown4 j hj; omega))
      case measure => simp [intOf]; omega
    · have hke : k = N := by omega
      subst hke
      subst hm
      have hd : decide ((m : Int) < (m : Int)) = false := by simp
      have hd2 : decide (m < m) = false := by simp
      have ht : L.take m = L := List.take_of_length_le (by rw [← HN.out]; omega)
      rw [ht] at hown
      obtain ⟨A9, c9, rfl⟩ := own_form hown
      have hR := hide (Rd.of_own (M := fun b => b < w.heap.size) hown (fun k h => by have := HB3.out.size; omega))
      clear ht hlt hown
      go_wp2_with fail
      go_ret
      refine ⟨HB3.out.trans (hbel.out.mono HB3.out.size), A9, c9, ?_, by rw [Hrl.out.2]; exact hR.out⟩
      rw [Hrl.out.1]
      rfl
theorem rows_c (A : Option Addr) (c : Nat) (l : List Ev) (w : World) (hr : Rd w NoBlk A (flat encEv l)) (hn : l.length ≤ 10000) (hx : ∀ x ∈ l, x.s.size ≤ 100) (hlc : l.length ≤ c) :
    Calls Tryd.prog 22 #[.slice A l.length c] w fun e w' => Below w.heap.size w w' ∧ ∃ A1 c1, e = .returned (.slice A1 (rowsL l).length c1) ∧ Rd w' NoBlk A1 (flat encR (rowsL l)) := by
  refine (rowsM_c A c l w hr hn hx hlc).mono ?_
  rintro e w' ⟨hb, A1, c1, he, h⟩
  exact ⟨hb, A1, c1, he, h.mono (fun _ h => h.elim)⟩
theorem Rows_c (A : Option Addr) (c : Nat) (l : List Ev) (w : World) (hr : Rd w NoBlk A (flat encEv l)) (hn : l.length ≤ 10000) (hx : ∀ x ∈ l, x.s.size ≤ 100) (hlc : l.length ≤ c) :
    Calls Tryd.prog 10 #[.slice A l.length c] w fun e w' => Below w.heap.size w w' ∧ ∃ A1 c1, e = .returned (.slice A1 (rowsL l).length c1) ∧ Rd w' NoBlk A1 (flat encR (rowsL l)) := by
  have HC := hide (rows_c A c l w hr hn hx hlc)
  clear hr hx
  go_enter Tryd.func10, Tryd.ntmps10
  go_wp2_with fail
  refine HC.out.mono ?_
  rintro e w1 ⟨hb1, A1, c1, rfl, hr1⟩
  go_wp2_with fail
  go_ret
  exact ⟨hb1, A1, c1, rfl, hr1⟩
end Go.Proofs.YthnjebpbokmemaaDoor
