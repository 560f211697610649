/- The walk of LedgerRows. Conditions: those of each theorem. -/
import Derived.Test.YthnjebpbokmemaaDoorLed6
import Derived.Test.YthnjebpbokmemaaDoorTellsP
import Derived.OrdersHeld
namespace Go.Proofs.YthnjebpbokmemaaDoor
open Go.RowKit
set_option linter.unusedVariables false

set_option maxRecDepth 100000 in
set_option maxHeartbeats 1600000 in
theorem same38_c (r : RowM) (w : World) : Calls Tryd.prog 14 #[.agg (rowV r), .agg (rowV r)] w fun e w' => e = .returned (.bool true) ∧ Below w.heap.size w w' := by
  obtain ⟨a0, a1, a2, a3, a4, a5, a6, a7, a8, a9⟩ := r
  have HL := hide (show Below w.heap.size w ((w.alloc (.cells #[.int .i64 a0, .int .i64 a1, .int .i64 a2, .int .i64 a3, .int .i64 a4, .int .i64 a5, .int .i64 a6, .int .i64 a7, .int .i64 a8, .int .i64 a9] 23)).alloc (.cells #[.int .i64 a0, .int .i64 a1, .int .i64 a2, .int .i64 a3, .int .i64 a4, .int .i64 a5, .int .i64 a6, .int .i64 a7, .int .i64 a8, .int .i64 a9] 26)) from ((Below.refl _ _).alloc (Nat.le_refl _) _).alloc (by simp) _)
  go_enter Tryd.func14, Tryd.ntmps14
  go_wp2_with fail
  go_ret
  exact ⟨rfl, HL.out⟩
/-- where one's row stands among the first: the last place, -1 where none is -/
def AtOk (L : List RowM) (id : Int) (k : Nat) (a : Int) : Prop := (a = -1 ∧ ∀ j, j < k → (rowAt L j).id ≠ id) ∨ ∃ j : Nat, j < k ∧ a = j ∧ (rowAt L j).id = id
theorem atOk_yes {L : List RowM} {id : Int} {k : Nat} {a : Int} (h : (rowAt L k).id = id) : AtOk L id (k + 1) (k : Int) := Or.inr ⟨k, by omega, rfl, h⟩
theorem atOk_no {L : List RowM} {id : Int} {k : Nat} {a : Int} (h : AtOk L id k a) (hn : ¬ (rowAt L k).id = id) : AtOk L id (k + 1) a := by
  rcases h with ⟨h1, h2⟩ | ⟨j, hj, h1, h2⟩
  · refine Or.inl ⟨h1, fun j hj => ?_⟩
    by_cases e : j = k
    · subst e; exact hn
    · exact h2 j (by omega)
  · exact Or.inr ⟨j, by omega, h1, h2⟩
theorem some_ids {l : List Ev} {id : Int} (h : (lifeGo id 0 l).isSome = true) : id ∈ idsL l := by
  rw [ids_uniq, (uniq_spec (openedL l)).2]
  have key : ∀ (l : List Ev) (c : Int), (lifeGo id c l).isSome = true → ∃ x ∈ l, opens id x = true := by
    intro l
    induction l with
    | nil => intro c h; simp [lifeGo] at h
    | cons y r ih =>
      intro c h
      unfold lifeGo at h
      by_cases ho : opens id y = true
      · exact ⟨y, by simp, ho⟩
      · rw [if_neg ho] at h
        obtain ⟨x, hx, hxo⟩ := ih _ h
        exact ⟨x, by simp [hx], hxo⟩
  obtain ⟨x, hx, ho⟩ := key l 0 h
  have ho' : x.k = 2 ∧ x.id = id := by simpa [opens] using ho
  unfold openedL
  rw [List.mem_map]
  exact ⟨x, List.mem_filter.2 ⟨hx, by simpa using ho'.1⟩, ho'.2⟩
theorem rowAt_ids {l : List Ev} {j : Nat} (h : j < (rowsL l).length) : ∃ id ∈ idsL l, rowAt (rowsL l) j = rowO id (lifeGo id 0 l) ∧ (rowAt (rowsL l) j).id = id ∧ (lifeGo id 0 l).isSome = true := by
  have e : rowAt (rowsL l) j = (rowsL l)[j] := by simp [rowAt, List.getD, h]
  have hm : (rowsL l)[j] ∈ rowsL l := List.getElem_mem h
  rw [e]
  obtain ⟨v, hv⟩ : ∃ v, v = (rowsL l)[j] := ⟨_, rfl⟩
  rw [← hv] at hm ⊢
  unfold rowsL at hm
  rw [List.mem_map] at hm
  obtain ⟨id, hid, he⟩ := hm
  obtain ⟨f, hf⟩ := ids_some hid
  refine ⟨id, hid, he.symm, ?_, by rw [hf]; rfl⟩
  rw [← he, hf]
  rfl
theorem atOk_end {l : List Ev} {id : Int} {a : Int} (h : AtOk (rowsL l) id (rowsL l).length a) :
    ((lifeGo id 0 l).isSome = false ∧ a = -1) ∨ ((lifeGo id 0 l).isSome = true ∧ ∃ j : Nat, j < (rowsL l).length ∧ a = j ∧ rowAt (rowsL l) j = rowO id (lifeGo id 0 l)) := by
  rcases h with ⟨h1, h2⟩ | ⟨j, hj, h1, h2⟩
  · left
    refine ⟨?_, h1⟩
    cases hs : (lifeGo id 0 l).isSome with
    | false => rfl
    | true =>
      exfalso
      have hm : rowO id (lifeGo id 0 l) ∈ rowsL l := by unfold rowsL; rw [List.mem_map]; exact ⟨id, some_ids hs, rfl⟩
      rw [List.mem_iff_getElem] at hm
      obtain ⟨j, hj, he⟩ := hm
      apply h2 j hj
      have e : rowAt (rowsL l) j = (rowsL l)[j] := by simp [rowAt, List.getD, hj]
      rw [e, he]
      obtain ⟨f, hf⟩ := Option.isSome_iff_exists.1 hs
      rw [hf]
      rfl
  · right
    obtain ⟨id', hid', e1, e2, e3⟩ := rowAt_ids hj
    rw [e2] at h2
    subst h2
    exact ⟨e3, j, hj, h1, e1⟩
set_option maxRecDepth 100000 in
set_option maxHeartbeats 12000000 in
theorem LedgerRows_walk (A : Option Addr) (c : Nat) (l : List Ev) (id : Int) (w : World) (hr : Rd w NoBlk A (flat encEv l)) (hn : l.length ≤ maxLen) (hok : ∀ x ∈ l, EvOk x) (ht : Tab w) :
    Calls Tryd.prog 4 #[.slice A l.length c, .int .i64 id] w fun e w' => e = .returned (.bool true) ∧ Below w.heap.size w w' := by
  have HFw := hide (Few_c NoBlk A c l 18 w hr hn (by omega) (fun k h => h.elim))
  have HT := hide ht
  have hle := few_le l 18
  have htx := few_texts l 18
  have hid := fewL_idem l 18
  have hokF : ∀ x ∈ fewL l 18, EvOk x := by
    intro x hx
    unfold fewL at hx
    rw [List.mem_map] at hx
    obtain ⟨y, hy, rfl⟩ := hx
    have := hok y (List.mem_of_mem_take hy)
    exact ⟨this.k, this.id, this.n, this.tick, this.err, this.st⟩
  clear hr hn hok ht
  go_enter Tryd.func4, Tryd.ntmps4
  go_wp2_with fail
  refine HFw.out.mono ?_
  rintro e w1 ⟨A1, c1, rfl, rd1, hb1, hcap⟩
  obtain ⟨F, hF⟩ : ∃ F, F = fewL l 18 := ⟨_, rfl⟩
  rw [← hF] at rd1 hcap hle hid htx hokF ⊢
  have HF2 := hide (fun (w' : World) (hb : Below w1.heap.size w1 w') => show Calls Tryd.prog 9 #[.slice A1 F.length c1, .int .i64 (18 : Nat)] w' (RetEvs NoBlk F w') from by
    have h := Few_c NoBlk A1 c1 F 18 w' (rd1.below hb) (by unfold maxLen; omega) (by omega) (fun k h => h.elim)
    rw [hid] at h
    exact h)
  have HPr := hide (fun (A' : Option Addr) (c' : Nat) (w' : World) (hr : Rd w' NoBlk A' (flat encEv F)) (hc : F.length ≤ c') => Rows_c A' c' F w' hr (by omega) htx hc)
  have HPo := hide (fun (A' : Option Addr) (c' : Nat) (w' : World) (hr : Rd w' NoBlk A' (flat encEv F)) (hc : F.length ≤ c') => LedOf_c A' c' F id w' hr (by omega) htx hc)
  have HPt := hide (fun (A' : Option Addr) (c' : Nat) (w' : World) (hr : Rd w' NoBlk A' (flat encEv F)) (hc : F.length ≤ c') (ht : Tab w') => Table_c A' c' F w' hr (by omega) htx hc hokF ht)
  have HRr := hide (fun (w' : World) (hb : Below w1.heap.size w1 w') => refRows_c A1 c1 F w' (rd1.below hb) (by omega) htx)
  have HRt := hide (fun (w' : World) (hb : Below w1.heap.size w1 w') => refTable_c A1 c1 F w' (rd1.below hb) (by omega) htx hokF)
  have Hend := hide (fun a (h : AtOk (rowsL F) id (rowsL F).length a) => atOk_end h)
  have hrl : (rowsL F).length ≤ 18 := by
    have h1 : (rowsL F).length = (idsL F).length := by simp [rowsL]
    have := ids_le F
    omega
  obtain ⟨L, hL⟩ : ∃ L, L = rowsL F := ⟨_, rfl⟩
  rw [← hL] at HPr HPt HRr HRt Hend hrl
  obtain ⟨tb, htb⟩ : ∃ tb, tb = tableT L := ⟨_, rfl⟩
  rw [← htb] at HPt HRt
  obtain ⟨N, hN⟩ : ∃ N, N = L.length := ⟨_, rfl⟩
  rw [← hN] at HPr HRr Hend hrl
  obtain ⟨o, ho⟩ : ∃ o, o = lifeGo id 0 F := ⟨_, rfl⟩
  rw [← ho] at HPo Hend
  obtain ⟨n, hnl⟩ : ∃ n, n = F.length := ⟨_, rfl⟩
  rw [← hnl] at hcap hle HF2 HPr HPo HPt HRr HRt ⊢
  have Hn := hide hnl
  have HN := hide hN
  have HB1 := hide hb1
  have HT1 := hide (HT.out.below hb1)
  clear hnl hF rd1 hb1 HFw hid hL htb hN ho htx hokF
  go_wp2_with fail
  refine (HF2.out _ (Below.refl _ _)).mono ?_
  rintro e w2 ⟨A2, c2, rfl, rd2, hb2, hcap2⟩
  rw [← Hn.out] at hcap2 ⊢
  have HB2 := hide hb2
  have HC2 := hide (HPr.out A2 c2 w2 rd2 hcap2)
  clear rd2 hb2 hcap2
  go_wp2_with fail
  refine HC2.out.mono ?_
  rintro e w3 ⟨hb3, Ax, cx, rfl, rx⟩
  have HB3 := hide (HB2.out.trans (hb3.mono HB2.out.size))
  clear hb3
  go_wp2_with fail
  refine (HRr.out _ HB3.out).mono ?_
  rintro e w4 ⟨hb4, Ay, cy, rfl, ry⟩
  have HB4 := hide (HB3.out.trans (hb4.mono HB3.out.size))
  have HX4 := hide (rx.below hb4)
  have HY4 := hide ry
  clear hb4 rx ry
  have r1 : (N != N) = false := by simp
  have r2 : ((N : Int) != (N : Int)) = false := by simp
  go_wp2_with fail
  refine (HF2.out _ HB4.out).mono ?_
  rintro e w5 ⟨A5, c5, rfl, rd5, hb5, hcap5⟩
  rw [← Hn.out] at hcap5 ⊢
  have HB5 := hide (HB4.out.trans (hb5.mono HB4.out.size))
  have HC5 := hide (HPt.out A5 c5 w5 rd5 hcap5 (HT1.out.below HB5.out))
  have HX5 := hide (HX4.out.below hb5)
  have HY5 := hide (HY4.out.below hb5)
  clear rd5 hb5 hcap5
  go_wp2_with fail
  refine HC5.out.mono ?_
  rintro e w6 ⟨rfl, hb6⟩
  have HB6 := hide (HB5.out.trans (hb6.mono HB5.out.size))
  have HX6 := hide (HX5.out.below hb6)
  have HY6 := hide (HY5.out.below hb6)
  clear hb6
  go_wp2_with fail
  refine (HRt.out _ HB6.out).mono ?_
  rintro e w7 ⟨rfl, hb7⟩
  have HB7 := hide (HB6.out.trans (hb7.mono HB6.out.size))
  have HX7 := hide (HX6.out.below hb7)
  have HY7 := hide (HY6.out.below hb7)
  clear hb7 HX4 HX5 HX6 HY4 HY5 HY6
  go_wp2_with fail
  go_loopw [7, 8] (fun a i wr => ∃ (k : Nat) (av : Int), k ≤ N ∧ i = .int .i64 k ∧ a = .int .i64 av ∧ Hid (AtOk L id k av) ∧ Hid (Below w7.heap.size w7 wr)) (fun _ i _ => N - (intOf i).toNat)
  case atStart => exact ⟨0, -1, Nat.zero_le _, rfl, rfl, hide (Or.inl ⟨rfl, fun j hj => absurd hj (by omega)⟩), hide (Below.refl _ _)⟩
  case round =>
    obtain ⟨k, av, hk, rfl, rfl, hat, hbel⟩ := hrel
    by_cases hlt : k < N
    · obtain ⟨bx, ox, rfl, _, hblx, hcx⟩ := row_cells (HX7.out.below hbel.out) k (by rw [← HN.out]; exact hlt)
      obtain ⟨by_, oy, rfl, _, hbly, hcy⟩ := row_cells (HY7.out.below hbel.out) k (by rw [← HN.out]; exact hlt)
      have Hyes := hide (fun h => atOk_yes (L := L) (id := id) (k := k) (a := av) h)
      have Hno := hide (fun h => atOk_no (L := L) (id := id) (k := k) (a := av) hat.out h)
      obtain ⟨r, hrr⟩ : ∃ r, r = rowAt L k := ⟨_, rfl⟩
      rw [← hrr] at hcx hcy Hyes Hno
      clear hrr
      obtain ⟨a0, a1, a2, a3, a4, a5, a6, a7, a8, a9⟩ := r
      have x0 : wr.cell? ⟨bx, ox + k * 10, none⟩ = some (.int .i64 a0) := hcx 0 (by omega)
      have x1 : wr.cell? ⟨bx, ox + k * 10 + 1, none⟩ = some (.int .i64 a1) := hcx 1 (by omega)
      have x2 : wr.cell? ⟨bx, ox + k * 10 + 2, none⟩ = some (.int .i64 a2) := hcx 2 (by omega)
      have x3 : wr.cell? ⟨bx, ox + k * 10 + 3, none⟩ = some (.int .i64 a3) := hcx 3 (by omega)
      have x4 : wr.cell? ⟨bx, ox + k * 10 + 4, none⟩ = some (.int .i64 a4) := hcx 4 (by omega)
      have x5 : wr.cell? ⟨bx, ox + k * 10 + 5, none⟩ = some (.int .i64 a5) := hcx 5 (by omega)
      have x6 : wr.cell? ⟨bx, ox + k * 10 + 6, none⟩ = some (.int .i64 a6) := hcx 6 (by omega)
      have x7 : wr.cell? ⟨bx, ox + k * 10 + 7, none⟩ = some (.int .i64 a7) := hcx 7 (by omega)
      have x8 : wr.cell? ⟨bx, ox + k * 10 + 8, none⟩ = some (.int .i64 a8) := hcx 8 (by omega)
      have x9 : wr.cell? ⟨bx, ox + k * 10 + 9, none⟩ = some (.int .i64 a9) := hcx 9 (by omega)
      have y0 : wr.cell? ⟨by_, oy + k * 10, none⟩ = some (.int .i64 a0) := hcy 0 (by omega)
      have y1 : wr.cell? ⟨by_, oy + k * 10 + 1, none⟩ = some (.int .i64 a1) := hcy 1 (by omega)
      have y2 : wr.cell? ⟨by_, oy + k * 10 + 2, none⟩ = some (.int .i64 a2) := hcy 2 (by omega)
      have y3 : wr.cell? ⟨by_, oy + k * 10 + 3, none⟩ = some (.int .i64 a3) := hcy 3 (by omega)
      have y4 : wr.cell? ⟨by_, oy + k * 10 + 4, none⟩ = some (.int .i64 a4) := hcy 4 (by omega)
      have y5 : wr.cell? ⟨by_, oy + k * 10 + 5, none⟩ = some (.int .i64 a5) := hcy 5 (by omega)
      have y6 : wr.cell? ⟨by_, oy + k * 10 + 6, none⟩ = some (.int .i64 a6) := hcy 6 (by omega)
      have y7 : wr.cell? ⟨by_, oy + k * 10 + 7, none⟩ = some (.int .i64 a7) := hcy 7 (by omega)
      have y8 : wr.cell? ⟨by_, oy + k * 10 + 8, none⟩ = some (.int .i64 a8) := hcy 8 (by omega)
      have y9 : wr.cell? ⟨by_, oy + k * 10 + 9, none⟩ = some (.int .i64 a9) := hcy 9 (by omega)
      have Hs := hide (fun (w' : World) => show Calls Tryd.prog 14 #[.agg #[.int .i64 a0, .int .i64 a1, .int .i64 a2, .int .i64 a3, .int .i64 a4, .int .i64 a5, .int .i64 a6, .int .i64 a7, .int .i64 a8, .int .i64 a9], .agg #[.int .i64 a0, .int .i64 a1, .int .i64 a2, .int .i64 a3, .int .i64 a4, .int .i64 a5, .int .i64 a6, .int .i64 a7, .int .i64 a8, .int .i64 a9]] w' (fun e w'' => e = .returned (.bool true) ∧ Below w'.heap.size w' w'') from same38_c ⟨a0, a1, a2, a3, a4, a5, a6, a7, a8, a9⟩ w')
      have j1 : (0 : Int) ≤ (k : Int) := by omega
      have j2 : (k : Int) < (N : Int) := by omega
      have j3 : decide ((k : Int) < (N : Int)) = true := by simp; exact hlt
      clear hcx hcy
      go_upto_region 9 with fail
      go_cut [46] from 37 to 46 (fun v wx => v = .bool false ∧ Hid (Below wr.heap.size wr wx))
      case first =>
        go_region_held3 (fun w' => w'.cell? ⟨bx, ox + k * 10, none⟩ = some (.int .i64 a0) ∧ w'.cell? ⟨bx, ox + k * 10 + 1, none⟩ = some (.int .i64 a1) ∧ w'.cell? ⟨bx, ox + k * 10 + 2, none⟩ = some (.int .i64 a2) ∧ w'.cell? ⟨bx, ox + k * 10 + 3, none⟩ = some (.int .i64 a3) ∧ w'.cell? ⟨bx, ox + k * 10 + 4, none⟩ = some (.int .i64 a4) ∧ w'.cell? ⟨bx, ox + k * 10 + 5, none⟩ = some (.int .i64 a5) ∧ w'.cell? ⟨bx, ox + k * 10 + 6, none⟩ = some (.int .i64 a6) ∧ w'.cell? ⟨bx, ox + k * 10 + 7, none⟩ = some (.int .i64 a7) ∧ w'.cell? ⟨bx, ox + k * 10 + 8, none⟩ = some (.int .i64 a8) ∧ w'.cell? ⟨bx, ox + k * 10 + 9, none⟩ = some (.int .i64 a9) ∧ w'.cell? ⟨by_, oy + k * 10, none⟩ = some (.int .i64 a0) ∧ w'.cell? ⟨by_, oy + k * 10 + 1, none⟩ = some (.int .i64 a1) ∧ w'.cell? ⟨by_, oy + k * 10 + 2, none⟩ = some (.int .i64 a2) ∧ w'.cell? ⟨by_, oy + k * 10 + 3, none⟩ = some (.int .i64 a3) ∧ w'.cell? ⟨by_, oy + k * 10 + 4, none⟩ = some (.int .i64 a4) ∧ w'.cell? ⟨by_, oy + k * 10 + 5, none⟩ = some (.int .i64 a5) ∧ w'.cell? ⟨by_, oy + k * 10 + 6, none⟩ = some (.int .i64 a6) ∧ w'.cell? ⟨by_, oy + k * 10 + 7, none⟩ = some (.int .i64 a7) ∧ w'.cell? ⟨by_, oy + k * 10 + 8, none⟩ = some (.int .i64 a8) ∧ w'.cell? ⟨by_, oy + k * 10 + 9, none⟩ = some (.int .i64 a9)) (go_keep)
          (first
            | (go_at_call 14
               refine (Hs.out _).mono ?_
               rintro e wn ⟨rfl, hbn⟩
               have HBn := hide ((below_drew' (Below.refl _ _)).trans hbn)
               replace x0 := bkeep hbn x0
               replace y0 := bkeep hbn y0
               replace x1 := bkeep hbn x1
               replace y1 := bkeep hbn y1
               replace x2 := bkeep hbn x2
               replace y2 := bkeep hbn y2
               replace x3 := bkeep hbn x3
               replace y3 := bkeep hbn y3
               replace x4 := bkeep hbn x4
               replace y4 := bkeep hbn y4
               replace x5 := bkeep hbn x5
               replace y5 := bkeep hbn y5
               replace x6 := bkeep hbn x6
               replace y6 := bkeep hbn y6
               replace x7 := bkeep hbn x7
               replace y7 := bkeep hbn y7
               replace x8 := bkeep hbn x8
               replace y8 := bkeep hbn y8
               replace x9 := bkeep hbn x9
               replace y9 := bkeep hbn y9
               clear hbn))
        all_goals
          go_wp2_with fail
          go_meet
          exact ⟨rfl, HBn⟩
      case rest =>
        obtain ⟨rfl, HBc⟩ := hcut
        have HBr := hide (hbel.out.trans (HBc.out.mono hbel.out.size))
        have z0 := bkeep HBc.out y0
        clear x0 x1 x2 x3 x4 x5 x6 x7 x8 x9 y0 y1 y2 y3 y4 y5 y6 y7 y8 y9
        cases q : (a0 == id) with
        | true =>
          have Hq := hide (show a0 = id by simpa using q)
          go_wp2_with fail
          go_roundw
          case rel => exact ⟨k + 1, k, by omega, by go_num, by go_num, hide (Hyes.out Hq.out), HBr⟩
          case measure => simp [intOf]; omega
        | false =>
          have Hq := hide (show ¬ a0 = id by simpa using q)
          go_wp2_with fail
          go_roundw
          case rel => exact ⟨k + 1, av, by omega, by go_num, rfl, hide (Hno.out Hq.out), HBr⟩
          case measure => simp [intOf]; omega
    · have hke : k = N := by omega
      subst hke
      have hd : decide ((k : Int) < (k : Int)) = false := by simp
      have hd2 : decide (k < k) = false := by simp
      have Hen := hide (Hend.out av hat.out)
      have HB8 := hide (HB7.out.trans (hbel.out.mono HB7.out.size))
      have HY8 := hide (HY7.out.below hbel.out)
      clear hat hbel
      have Hen := Hen.out
      rcases Hen with ⟨hs, rfl⟩ | ⟨hs, j, hj, rfl, hrw⟩
      · have HPo0 := hide (fun (A' : Option Addr) (c' : Nat) (w' : World) (hr : Rd w' NoBlk A' (flat encEv F)) (hc : n ≤ c') => show Calls Tryd.prog 15 #[.slice A' n c', .int .i64 id] w' (fun e w'' => e = .returned (.tuple #[.agg #[.int .i64 0, .int .i64 0, .int .i64 0, .int .i64 0, .int .i64 0, .int .i64 0, .int .i64 0, .int .i64 0, .int .i64 0, .int .i64 0], .bool false]) ∧ Below w'.heap.size w' w'') from by
          have h := HPo.out A' c' w' hr hc
          cases o with
          | none => exact h
          | some f => cases hs)
        clear HPo hs Hend
        go_wp2_with fail
        refine (HF2.out _ HB8.out).mono ?_
        rintro e w9 ⟨A9, c9, rfl, rd9, hb9, hcap9⟩
        rw [← Hn.out] at hcap9 ⊢
        have HB9 := hide (HB8.out.trans (hb9.mono HB8.out.size))
        have HC9 := hide (HPo0.out A9 c9 w9 rd9 hcap9)
        clear rd9 hb9 hcap9
        go_wp2_with fail
        refine HC9.out.mono ?_
        rintro e w10 ⟨rfl, hb10⟩
        have HB10 := hide (HB9.out.trans (hb10.mono HB9.out.size))
        have HTw := hide (HT1.out.below HB10.out)
        clear hb10
        obtain ⟨W, hW⟩ : ∃ W, W = w10.alloc (.cells #[.int .i64 0, .int .i64 0, .int .i64 0, .int .i64 0, .int .i64 0, .int .i64 0, .int .i64 0, .int .i64 0, .int .i64 0, .int .i64 0] 23) := ⟨_, rfl⟩
        have hL : Below w10.heap.size w10 W := by rw [hW]; exact below_alloc _ _
        have hb : Blk W w10.heap.size 23 #[.int .i64 0, .int .i64 0, .int .i64 0, .int .i64 0, .int .i64 0, .int .i64 0, .int .i64 0, .int .i64 0, .int .i64 0, .int .i64 0] := by rw [hW]; exact Blk.new _ _ _
        obtain ⟨z0, z1, z2, z3, z4, z5, z6, z7, z8, z9⟩ := hb.tenR
        have HTW := hide (show Tab W from HTw.out.below hL)
        have HW := hide hW
        have HC := hide (show Below w1.heap.size w1 W.drew from (HB10.out.trans (hL.mono HB10.out.size)).trans ((below_drew W).mono (HB10.out.trans (hL.mono HB10.out.size)).size))
        have HTc := hide (show Tab W.drew from (HTw.out.below hL).drew)
        clear hW hL hb
        go_upto_region 14 with fail
        change Code.wp _ _ _ _ (w10.alloc (.cells #[.int .i64 0, .int .i64 0, .int .i64 0, .int .i64 0, .int .i64 0, .int .i64 0, .int .i64 0, .int .i64 0, .int .i64 0, .int .i64 0] 23))
        rw [← HW.out]
        refine wp_region_held (S := fun w' => w'.cell? ⟨w10.heap.size, 0, none⟩ = some (.int .i64 0) ∧ w'.cell? ⟨w10.heap.size, 1, none⟩ = some (.int .i64 0) ∧ w'.cell? ⟨w10.heap.size, 2, none⟩ = some (.int .i64 0) ∧ w'.cell? ⟨w10.heap.size, 3, none⟩ = some (.int .i64 0) ∧ w'.cell? ⟨w10.heap.size, 4, none⟩ = some (.int .i64 0) ∧ w'.cell? ⟨w10.heap.size, 5, none⟩ = some (.int .i64 0) ∧ w'.cell? ⟨w10.heap.size, 6, none⟩ = some (.int .i64 0) ∧ w'.cell? ⟨w10.heap.size, 7, none⟩ = some (.int .i64 0) ∧ w'.cell? ⟨w10.heap.size, 8, none⟩ = some (.int .i64 0) ∧ w'.cell? ⟨w10.heap.size, 9, none⟩ = some (.int .i64 0)) (by kernel_rfl) ?_
        change wpAnyH _ _ _ _ _ _ _ _ W.drew
        obtain ⟨wd, hwd⟩ : ∃ wd, wd = W.drew := ⟨_, rfl⟩
        have HTd := hide (show Tab wd by rw [hwd]; exact HTW.out.drew)
        have HCd := hide (show Below w1.heap.size w1 wd by rw [hwd]; exact HC.out)
        have hHeld : (fun w' : World => w'.cell? ⟨w10.heap.size, 0, none⟩ = some (.int .i64 0) ∧ w'.cell? ⟨w10.heap.size, 1, none⟩ = some (.int .i64 0) ∧ w'.cell? ⟨w10.heap.size, 2, none⟩ = some (.int .i64 0) ∧ w'.cell? ⟨w10.heap.size, 3, none⟩ = some (.int .i64 0) ∧ w'.cell? ⟨w10.heap.size, 4, none⟩ = some (.int .i64 0) ∧ w'.cell? ⟨w10.heap.size, 5, none⟩ = some (.int .i64 0) ∧ w'.cell? ⟨w10.heap.size, 6, none⟩ = some (.int .i64 0) ∧ w'.cell? ⟨w10.heap.size, 7, none⟩ = some (.int .i64 0) ∧ w'.cell? ⟨w10.heap.size, 8, none⟩ = some (.int .i64 0) ∧ w'.cell? ⟨w10.heap.size, 9, none⟩ = some (.int .i64 0)) wd := by rw [hwd]; exact ⟨z0, z1, z2, z3, z4, z5, z6, z7, z8, z9⟩
        rw [← hwd]
        simp only [List.size_toArray, List.length_cons, List.length_nil, Nat.zero_add, Nat.reduceAdd]
        clear z0 z1 z2 z3 z4 z5 z6 z7 z8 z9
        have hH2 := hHeld
        obtain ⟨z0, z1, z2, z3, z4, z5, z6, z7, z8, z9⟩ := hH2
        clear hwd
        refine wpAnyH_take (i := 0) (v := ?_) rfl (by kernel_rfl) (by kernel_rfl) (by kernel_rfl) (fun _ _ _ h => h) (Or.inl ⟨by rfl, ?_⟩) (by assumption) ?_
        rotate_left
        · (intro w9 hS9; simp only [List.getElem_toArray, List.getElem_cons_zero]; go_simp <;> rfl)
        simp only [Act.put, List.setIfInBounds_toArray, List.set_cons_zero, List.set_cons_succ, List.getElem_toArray, List.getElem_cons_zero]
        refine wpAnyH_take (i := 1) (v := ?_) rfl (by kernel_rfl) (by kernel_rfl) (by kernel_rfl) (fun _ _ _ h => h) (Or.inl ⟨by rfl, ?_⟩) (by assumption) ?_
        rotate_left
        · (intro w9 hS9; simp only [List.getElem_toArray, List.getElem_cons_zero, List.getElem_cons_succ]; go_simp <;> rfl)
        simp only [Act.put, List.setIfInBounds_toArray, List.set_cons_zero, List.set_cons_succ, List.getElem_toArray, List.getElem_cons_zero, List.getElem_cons_succ]
        refine wpAnyH_take (i := 2) (v := ?_) rfl (by kernel_rfl) (by kernel_rfl) (by kernel_rfl) (fun _ _ _ h => h) (Or.inl ⟨by rfl, ?_⟩) (by assumption) ?_
        rotate_left
        · (intro w9 hS9; simp only [List.getElem_toArray, List.getElem_cons_zero, List.getElem_cons_succ]; go_simp <;> rfl)
        simp only [Act.put, List.setIfInBounds_toArray, List.set_cons_zero, List.set_cons_succ, List.getElem_toArray, List.getElem_cons_zero, List.getElem_cons_succ]
        refine wpAnyH_take (i := 3) (v := ?_) rfl (by kernel_rfl) (by kernel_rfl) (by kernel_rfl) (fun _ _ _ h => h) (Or.inl ⟨by rfl, ?_⟩) (by assumption) ?_
        rotate_left
        · (intro w9 hS9; simp only [List.getElem_toArray, List.getElem_cons_zero, List.getElem_cons_succ]; go_simp <;> rfl)
        simp only [Act.put, List.setIfInBounds_toArray, List.set_cons_zero, List.set_cons_succ, List.getElem_toArray, List.getElem_cons_zero, List.getElem_cons_succ]
        refine wpAnyH_take (i := 4) (v := ?_) rfl (by kernel_rfl) (by kernel_rfl) (by kernel_rfl) (fun _ _ _ h => h) (Or.inl ⟨by rfl, ?_⟩) (by assumption) ?_
        rotate_left
        · (intro w9 hS9; simp only [List.getElem_toArray, List.getElem_cons_zero, List.getElem_cons_succ]; go_simp <;> rfl)
        simp only [Act.put, List.setIfInBounds_toArray, List.set_cons_zero, List.set_cons_succ, List.getElem_toArray, List.getElem_cons_zero, List.getElem_cons_succ]
        refine wpAnyH_take (i := 5) (v := ?_) rfl (by kernel_rfl) (by kernel_rfl) (by kernel_rfl) (fun _ _ _ h => h) (Or.inl ⟨by rfl, ?_⟩) (by assumption) ?_
        rotate_left
        · (intro w9 hS9; simp only [List.getElem_toArray, List.getElem_cons_zero, List.getElem_cons_succ]; go_simp <;> rfl)
        simp only [Act.put, List.setIfInBounds_toArray, List.set_cons_zero, List.set_cons_succ, List.getElem_toArray, List.getElem_cons_zero, List.getElem_cons_succ]
        refine wpAnyH_take (i := 6) (v := ?_) rfl (by kernel_rfl) (by kernel_rfl) (by kernel_rfl) (fun _ _ _ h => h) (Or.inl ⟨by rfl, ?_⟩) (by assumption) ?_
        rotate_left
        · (intro w9 hS9; simp only [List.getElem_toArray, List.getElem_cons_zero, List.getElem_cons_succ]; go_simp <;> rfl)
        simp only [Act.put, List.setIfInBounds_toArray, List.set_cons_zero, List.set_cons_succ, List.getElem_toArray, List.getElem_cons_zero, List.getElem_cons_succ]
        refine wpAnyH_take (i := 7) (v := undef) rfl (by kernel_rfl) (by kernel_rfl) (by kernel_rfl) (fun _ _ _ h => h) (Or.inr ⟨by rfl, rfl⟩) (by assumption) ?_
        simp only [Act.put, List.setIfInBounds_toArray, List.set_cons_zero, List.set_cons_succ, List.getElem_toArray, List.getElem_cons_zero, List.getElem_cons_succ]
        refine wpAnyH_take (i := 8) (v := undef) rfl (by kernel_rfl) (by kernel_rfl) (by kernel_rfl) (fun _ _ _ h => h) (Or.inr ⟨by rfl, rfl⟩) (by assumption) ?_
        simp only [Act.put, List.setIfInBounds_toArray, List.set_cons_zero, List.set_cons_succ, List.getElem_toArray, List.getElem_cons_zero, List.getElem_cons_succ]
        refine wpAnyH_take (i := 9) (v := undef) rfl (by kernel_rfl) (by kernel_rfl) (by kernel_rfl) (fun _ _ _ h => h) (Or.inr ⟨by rfl, rfl⟩) (by assumption) ?_
        simp only [Act.put, List.setIfInBounds_toArray, List.set_cons_zero, List.set_cons_succ, List.getElem_toArray, List.getElem_cons_zero, List.getElem_cons_succ]
        refine wpAnyH_take (i := 10) (v := undef) rfl (by kernel_rfl) (by kernel_rfl) (by kernel_rfl) (fun _ _ _ h => h) (Or.inr ⟨by rfl, rfl⟩) (by assumption) ?_
        simp only [Act.put, List.setIfInBounds_toArray, List.set_cons_zero, List.set_cons_succ, List.getElem_toArray, List.getElem_cons_zero, List.getElem_cons_succ]
        refine wpAnyH_take (i := 11) (v := undef) rfl (by kernel_rfl) (by kernel_rfl) (by kernel_rfl) (fun _ _ _ h => h) (Or.inr ⟨by rfl, rfl⟩) (by assumption) ?_
        simp only [Act.put, List.setIfInBounds_toArray, List.set_cons_zero, List.set_cons_succ, List.getElem_toArray, List.getElem_cons_zero, List.getElem_cons_succ]
        refine wpAnyH_take (i := 12) (v := undef) rfl (by kernel_rfl) (by kernel_rfl) (by kernel_rfl) (fun _ _ _ h => h) (Or.inr ⟨by rfl, rfl⟩) (by assumption) ?_
        simp only [Act.put, List.setIfInBounds_toArray, List.set_cons_zero, List.set_cons_succ, List.getElem_toArray, List.getElem_cons_zero, List.getElem_cons_succ]
        refine wpAnyH_take (i := 13) (v := ?_) rfl (by kernel_rfl) (by kernel_rfl) (by kernel_rfl) (fun _ _ _ h => h) (Or.inl ⟨by rfl, ?_⟩) (by assumption) ?_
        rotate_left
        · (intro w9 hS9; simp only [List.getElem_toArray, List.getElem_cons_zero, List.getElem_cons_succ]; go_simp <;> rfl)
        simp only [Act.put, List.setIfInBounds_toArray, List.set_cons_zero, List.set_cons_succ, List.getElem_toArray, List.getElem_cons_zero, List.getElem_cons_succ]
        refine wpAnyH_take (i := 14) (v := ?_) rfl (by kernel_rfl) (by kernel_rfl) (by kernel_rfl) (fun _ _ _ h => h) (Or.inl ⟨by rfl, ?_⟩) (by assumption) ?_
        rotate_left
        · (intro w9 hS9; simp only [List.getElem_toArray, List.getElem_cons_zero, List.getElem_cons_succ]; go_simp <;> rfl)
        simp only [Act.put, List.setIfInBounds_toArray, List.set_cons_zero, List.set_cons_succ, List.getElem_toArray, List.getElem_cons_zero, List.getElem_cons_succ]
        refine wpAnyH_take (i := 15) (v := ?_) rfl (by kernel_rfl) (by kernel_rfl) (by kernel_rfl) (fun _ _ _ h => h) (Or.inl ⟨by rfl, ?_⟩) (by assumption) ?_
        rotate_left
        · (intro w9 hS9; simp only [List.getElem_toArray, List.getElem_cons_zero, List.getElem_cons_succ]; go_simp <;> rfl)
        simp only [Act.put, List.setIfInBounds_toArray, List.set_cons_zero, List.set_cons_succ, List.getElem_toArray, List.getElem_cons_zero, List.getElem_cons_succ]
        refine wpAnyH_take (i := 16) (v := ?_) rfl (by kernel_rfl) (by kernel_rfl) (by kernel_rfl) (fun _ _ _ h => h) (Or.inl ⟨by rfl, ?_⟩) (by assumption) ?_
        rotate_left
        · (intro w9 hS9; simp only [List.getElem_toArray, List.getElem_cons_zero, List.getElem_cons_succ]; go_simp <;> rfl)
        simp only [Act.put, List.setIfInBounds_toArray, List.set_cons_zero, List.set_cons_succ, List.getElem_toArray, List.getElem_cons_zero, List.getElem_cons_succ]
        refine wpAnyH_take (i := 17) (v := ?_) rfl (by kernel_rfl) (by kernel_rfl) (by kernel_rfl) (fun _ _ _ h => h) (Or.inl ⟨by rfl, ?_⟩) (by assumption) ?_
        rotate_left
        · (intro w9 hS9; simp only [List.getElem_toArray, List.getElem_cons_zero, List.getElem_cons_succ]; go_simp <;> rfl)
        simp only [Act.put, List.setIfInBounds_toArray, List.set_cons_zero, List.set_cons_succ, List.getElem_toArray, List.getElem_cons_zero, List.getElem_cons_succ]
        refine wpAnyH_take (i := 18) (v := ?_) rfl (by kernel_rfl) (by kernel_rfl) (by kernel_rfl) (fun _ _ _ h => h) (Or.inl ⟨by rfl, ?_⟩) (by assumption) ?_
        rotate_left
        · (intro w9 hS9; simp only [List.getElem_toArray, List.getElem_cons_zero, List.getElem_cons_succ]; go_simp <;> rfl)
        simp only [Act.put, List.setIfInBounds_toArray, List.set_cons_zero, List.set_cons_succ, List.getElem_toArray, List.getElem_cons_zero, List.getElem_cons_succ]
        refine wpAnyH_take (i := 19) (v := ?_) rfl (by kernel_rfl) (by kernel_rfl) (by kernel_rfl) (fun _ _ _ h => h) (Or.inl ⟨by rfl, ?_⟩) (by assumption) ?_
        rotate_left
        · (intro w9 hS9; simp only [List.getElem_toArray, List.getElem_cons_zero, List.getElem_cons_succ]; go_simp <;> rfl)
        simp only [Act.put, List.setIfInBounds_toArray, List.set_cons_zero, List.set_cons_succ, List.getElem_toArray, List.getElem_cons_zero, List.getElem_cons_succ]
        refine wpAnyH_take (i := 20) (v := ?_) rfl (by kernel_rfl) (by kernel_rfl) (by kernel_rfl) (fun _ _ _ h => h) (Or.inl ⟨by rfl, ?_⟩) (by assumption) ?_
        rotate_left
        · (intro w9 hS9; simp only [List.getElem_toArray, List.getElem_cons_zero, List.getElem_cons_succ]; go_simp <;> rfl)
        simp only [Act.put, List.setIfInBounds_toArray, List.set_cons_zero, List.set_cons_succ, List.getElem_toArray, List.getElem_cons_zero, List.getElem_cons_succ]
        refine wpAnyH_take (i := 21) (v := ?_) rfl (by kernel_rfl) (by kernel_rfl) (by kernel_rfl) (fun _ _ _ h => h) (Or.inl ⟨by rfl, ?_⟩) (by assumption) ?_
        rotate_left
        · (intro w9 hS9; simp only [List.getElem_toArray, List.getElem_cons_zero, List.getElem_cons_succ]; go_simp <;> rfl)
        simp only [Act.put, List.setIfInBounds_toArray, List.set_cons_zero, List.set_cons_succ, List.getElem_toArray, List.getElem_cons_zero, List.getElem_cons_succ]
        refine wpAnyH_take (i := 22) (v := ?_) rfl (by kernel_rfl) (by kernel_rfl) (by kernel_rfl) (fun _ _ _ h => h) (Or.inl ⟨by rfl, ?_⟩) (by assumption) ?_
        rotate_left
        · (intro w9 hS9; simp only [List.getElem_toArray, List.getElem_cons_zero, List.getElem_cons_succ]; go_simp <;> rfl)
        simp only [Act.put, List.setIfInBounds_toArray, List.set_cons_zero, List.set_cons_succ, List.getElem_toArray, List.getElem_cons_zero, List.getElem_cons_succ]
        refine wpAnyH_take (i := 23) (v := ?_) rfl (by kernel_rfl) (by kernel_rfl) (by kernel_rfl) (fun _ _ _ h => h) (Or.inl ⟨by rfl, ?_⟩) (by assumption) ?_
        rotate_left
        · (intro w9 hS9; simp only [List.getElem_toArray, List.getElem_cons_zero, List.getElem_cons_succ]; go_simp <;> rfl)
        simp only [Act.put, List.setIfInBounds_toArray, List.set_cons_zero, List.set_cons_succ, List.getElem_toArray, List.getElem_cons_zero, List.getElem_cons_succ]
        refine wpAnyH_take (i := 24) (v := ?_) rfl (by kernel_rfl) (by kernel_rfl) (by kernel_rfl) (fun _ _ _ h => h) (Or.inl ⟨by rfl, ?_⟩) (by assumption) ?_
        rotate_left
        · (intro w9 hS9; simp only [List.getElem_toArray, List.getElem_cons_zero, List.getElem_cons_succ]; go_simp <;> rfl)
        simp only [Act.put, List.setIfInBounds_toArray, List.set_cons_zero, List.set_cons_succ, List.getElem_toArray, List.getElem_cons_zero, List.getElem_cons_succ]
        refine wpAnyH_ready (rs := [25]) (by kernel_rfl) (by simp) ?_
        refine AllReadyH.cons rfl (fun K hK => ?_) AllReadyH.nil
        try simp only [List.getElem_toArray, List.getElem_cons_zero, List.getElem_cons_succ]
        try go_simp
        go_at_call 8
        refine (lives38_c _ HTd.out).mono ?_
        rintro e wn25 ⟨rfl, hbn⟩
        replace HCd := hide (HCd.out.trans (hbn.mono HCd.out.size))
        replace HTd := hide (HTd.out.below hbn)
        replace z0 := bkeep hbn z0
        replace z1 := bkeep hbn z1
        replace z2 := bkeep hbn z2
        replace z3 := bkeep hbn z3
        replace z4 := bkeep hbn z4
        replace z5 := bkeep hbn z5
        replace z6 := bkeep hbn z6
        replace z7 := bkeep hbn z7
        replace z8 := bkeep hbn z8
        replace z9 := bkeep hbn z9
        clear hbn
        refine hK.out _ _ ⟨z0, z1, z2, z3, z4, z5, z6, z7, z8, z9⟩ (fun hHeld => ?_)
        clear hK K
        refine wpAnyH_take (i := 26) (v := ?_) rfl (by kernel_rfl) (by kernel_rfl) (by kernel_rfl) (fun _ _ _ h => h) (Or.inl ⟨by rfl, ?_⟩) (by assumption) ?_
        rotate_left
        · (intro w9 hS9; simp only [List.getElem_toArray, List.getElem_cons_zero, List.getElem_cons_succ]; go_simp <;> rfl)
        simp only [Act.put, List.setIfInBounds_toArray, List.set_cons_zero, List.set_cons_succ, List.getElem_toArray, List.getElem_cons_zero, List.getElem_cons_succ]
        refine wpAnyH_take (i := 27) (v := ?_) rfl (by kernel_rfl) (by kernel_rfl) (by kernel_rfl) (fun _ _ _ h => h) (Or.inl ⟨by rfl, ?_⟩) (by assumption) ?_
        rotate_left
        · (intro w9 hS9; simp only [List.getElem_toArray, List.getElem_cons_zero, List.getElem_cons_succ]; go_simp <;> rfl)
        simp only [Act.put, List.setIfInBounds_toArray, List.set_cons_zero, List.set_cons_succ, List.getElem_toArray, List.getElem_cons_zero, List.getElem_cons_succ]
        refine wpAnyH_done (by kernel_rfl) ?_ _
        clear hHeld
        go_wp2_with fail
        go_ret
        exact ⟨rfl, HB1.out.trans (HCd.out.mono HB1.out.size)⟩
      · obtain ⟨r, hrr⟩ : ∃ r, r = rowO id o := ⟨_, rfl⟩
        obtain ⟨by_, oy, rfl, _, hbly, hcy⟩ := row_cells HY8.out j (by rw [← HN.out]; exact hj)
        rw [hrw, ← hrr] at hcy
        have HPo0 := hide (fun (A' : Option Addr) (c' : Nat) (w' : World) (hr : Rd w' NoBlk A' (flat encEv F)) (hc : n ≤ c') => show Calls Tryd.prog 15 #[.slice A' n c', .int .i64 id] w' (fun e w'' => e = .returned (.tuple #[.agg (rowV r), .bool true]) ∧ Below w'.heap.size w' w'') from by
          have h := HPo.out A' c' w' hr hc
          rw [hs, ← hrr] at h
          exact h)
        clear HPo hs Hend hrw hrr
        obtain ⟨a0, a1, a2, a3, a4, a5, a6, a7, a8, a9⟩ := r
        have y0 : wr.cell? ⟨by_, oy + j * 10, none⟩ = some (.int .i64 a0) := hcy 0 (by omega)
        have y1 : wr.cell? ⟨by_, oy + j * 10 + 1, none⟩ = some (.int .i64 a1) := hcy 1 (by omega)
        have y2 : wr.cell? ⟨by_, oy + j * 10 + 2, none⟩ = some (.int .i64 a2) := hcy 2 (by omega)
        have y3 : wr.cell? ⟨by_, oy + j * 10 + 3, none⟩ = some (.int .i64 a3) := hcy 3 (by omega)
        have y4 : wr.cell? ⟨by_, oy + j * 10 + 4, none⟩ = some (.int .i64 a4) := hcy 4 (by omega)
        have y5 : wr.cell? ⟨by_, oy + j * 10 + 5, none⟩ = some (.int .i64 a5) := hcy 5 (by omega)
        have y6 : wr.cell? ⟨by_, oy + j * 10 + 6, none⟩ = some (.int .i64 a6) := hcy 6 (by omega)
        have y7 : wr.cell? ⟨by_, oy + j * 10 + 7, none⟩ = some (.int .i64 a7) := hcy 7 (by omega)
        have y8 : wr.cell? ⟨by_, oy + j * 10 + 8, none⟩ = some (.int .i64 a8) := hcy 8 (by omega)
        have y9 : wr.cell? ⟨by_, oy + j * 10 + 9, none⟩ = some (.int .i64 a9) := hcy 9 (by omega)
        clear hcy
        have HPo1 := hide (fun (A' : Option Addr) (c' : Nat) (w' : World) (hr : Rd w' NoBlk A' (flat encEv F)) (hc : n ≤ c') => show Calls Tryd.prog 15 #[.slice A' n c', .int .i64 id] w' (fun e w'' => e = .returned (.tuple #[.agg #[.int .i64 a0, .int .i64 a1, .int .i64 a2, .int .i64 a3, .int .i64 a4, .int .i64 a5, .int .i64 a6, .int .i64 a7, .int .i64 a8, .int .i64 a9], .bool true]) ∧ Below w'.heap.size w' w'') from HPo0.out A' c' w' hr hc)
        have Hs := hide (fun (w' : World) => show Calls Tryd.prog 14 #[.agg #[.int .i64 a0, .int .i64 a1, .int .i64 a2, .int .i64 a3, .int .i64 a4, .int .i64 a5, .int .i64 a6, .int .i64 a7, .int .i64 a8, .int .i64 a9], .agg #[.int .i64 a0, .int .i64 a1, .int .i64 a2, .int .i64 a3, .int .i64 a4, .int .i64 a5, .int .i64 a6, .int .i64 a7, .int .i64 a8, .int .i64 a9]] w' (fun e w'' => e = .returned (.bool true) ∧ Below w'.heap.size w' w'') from same38_c ⟨a0, a1, a2, a3, a4, a5, a6, a7, a8, a9⟩ w')
        clear HPo0
        have j1 : (0 : Int) ≤ (j : Int) := by omega
        have j2 : (j : Int) < (k : Int) := by omega
        have j4 : decide ((j : Int) ≥ 0) = true := by simp
        have j5 : decide (0 ≤ (j : Int)) = true := by simp
        have r3 : (true == true) = true := rfl
        go_wp2_with fail
        refine (HF2.out _ HB8.out).mono ?_
        rintro e w9 ⟨A9, c9, rfl, rd9, hb9, hcap9⟩
        rw [← Hn.out] at hcap9 ⊢
        have HB9 := hide (HB8.out.trans (hb9.mono HB8.out.size))
        have HC9 := hide (HPo1.out A9 c9 w9 rd9 hcap9)
        replace y0 := bkeep hb9 y0
        replace y1 := bkeep hb9 y1
        replace y2 := bkeep hb9 y2
        replace y3 := bkeep hb9 y3
        replace y4 := bkeep hb9 y4
        replace y5 := bkeep hb9 y5
        replace y6 := bkeep hb9 y6
        replace y7 := bkeep hb9 y7
        replace y8 := bkeep hb9 y8
        replace y9 := bkeep hb9 y9
        clear rd9 hb9 hcap9
        go_wp2_with fail
        refine HC9.out.mono ?_
        rintro e w10 ⟨rfl, hb10⟩
        have HB10 := hide (HB9.out.trans (hb10.mono HB9.out.size))
        have HTw := hide (HT1.out.below HB10.out)
        replace y0 := bkeep hb10 y0
        replace y1 := bkeep hb10 y1
        replace y2 := bkeep hb10 y2
        replace y3 := bkeep hb10 y3
        replace y4 := bkeep hb10 y4
        replace y5 := bkeep hb10 y5
        replace y6 := bkeep hb10 y6
        replace y7 := bkeep hb10 y7
        replace y8 := bkeep hb10 y8
        replace y9 := bkeep hb10 y9
        clear hb10
        obtain ⟨W, hW⟩ : ∃ W, W = w10.alloc (.cells #[.int .i64 a0, .int .i64 a1, .int .i64 a2, .int .i64 a3, .int .i64 a4, .int .i64 a5, .int .i64 a6, .int .i64 a7, .int .i64 a8, .int .i64 a9] 23) := ⟨_, rfl⟩
        have hL : Below w10.heap.size w10 W := by rw [hW]; exact below_alloc _ _
        have hb : Blk W w10.heap.size 23 #[.int .i64 a0, .int .i64 a1, .int .i64 a2, .int .i64 a3, .int .i64 a4, .int .i64 a5, .int .i64 a6, .int .i64 a7, .int .i64 a8, .int .i64 a9] := by rw [hW]; exact Blk.new _ _ _
        obtain ⟨z0, z1, z2, z3, z4, z5, z6, z7, z8, z9⟩ := hb.tenR
        have HTW := hide (show Tab W from HTw.out.below hL)
        have HW := hide hW
        have HC := hide (show Below w1.heap.size w1 W.drew from (HB10.out.trans (hL.mono HB10.out.size)).trans ((below_drew W).mono (HB10.out.trans (hL.mono HB10.out.size)).size))
        have HTc := hide (show Tab W.drew from (HTw.out.below hL).drew)
        replace y0 := bkeep hL y0
        replace y1 := bkeep hL y1
        replace y2 := bkeep hL y2
        replace y3 := bkeep hL y3
        replace y4 := bkeep hL y4
        replace y5 := bkeep hL y5
        replace y6 := bkeep hL y6
        replace y7 := bkeep hL y7
        replace y8 := bkeep hL y8
        replace y9 := bkeep hL y9
        clear hW hL hb
        go_upto_region 14 with fail
        change Code.wp _ _ _ _ (w10.alloc (.cells #[.int .i64 a0, .int .i64 a1, .int .i64 a2, .int .i64 a3, .int .i64 a4, .int .i64 a5, .int .i64 a6, .int .i64 a7, .int .i64 a8, .int .i64 a9] 23))
        rw [← HW.out]
        refine wp_region_held (S := fun w' => w'.cell? ⟨w10.heap.size, 0, none⟩ = some (.int .i64 a0) ∧ w'.cell? ⟨w10.heap.size, 1, none⟩ = some (.int .i64 a1) ∧ w'.cell? ⟨w10.heap.size, 2, none⟩ = some (.int .i64 a2) ∧ w'.cell? ⟨w10.heap.size, 3, none⟩ = some (.int .i64 a3) ∧ w'.cell? ⟨w10.heap.size, 4, none⟩ = some (.int .i64 a4) ∧ w'.cell? ⟨w10.heap.size, 5, none⟩ = some (.int .i64 a5) ∧ w'.cell? ⟨w10.heap.size, 6, none⟩ = some (.int .i64 a6) ∧ w'.cell? ⟨w10.heap.size, 7, none⟩ = some (.int .i64 a7) ∧ w'.cell? ⟨w10.heap.size, 8, none⟩ = some (.int .i64 a8) ∧ w'.cell? ⟨w10.heap.size, 9, none⟩ = some (.int .i64 a9) ∧ w'.cell? ⟨by_, oy + j * 10, none⟩ = some (.int .i64 a0) ∧ w'.cell? ⟨by_, oy + j * 10 + 1, none⟩ = some (.int .i64 a1) ∧ w'.cell? ⟨by_, oy + j * 10 + 2, none⟩ = some (.int .i64 a2) ∧ w'.cell? ⟨by_, oy + j * 10 + 3, none⟩ = some (.int .i64 a3) ∧ w'.cell? ⟨by_, oy + j * 10 + 4, none⟩ = some (.int .i64 a4) ∧ w'.cell? ⟨by_, oy + j * 10 + 5, none⟩ = some (.int .i64 a5) ∧ w'.cell? ⟨by_, oy + j * 10 + 6, none⟩ = some (.int .i64 a6) ∧ w'.cell? ⟨by_, oy + j * 10 + 7, none⟩ = some (.int .i64 a7) ∧ w'.cell? ⟨by_, oy + j * 10 + 8, none⟩ = some (.int .i64 a8) ∧ w'.cell? ⟨by_, oy + j * 10 + 9, none⟩ = some (.int .i64 a9)) (by kernel_rfl) ?_
        change wpAnyH _ _ _ _ _ _ _ _ W.drew
        obtain ⟨wd, hwd⟩ : ∃ wd, wd = W.drew := ⟨_, rfl⟩
        have HTd := hide (show Tab wd by rw [hwd]; exact HTW.out.drew)
        have HCd := hide (show Below w1.heap.size w1 wd by rw [hwd]; exact HC.out)
        have hHeld : (fun w' : World => w'.cell? ⟨w10.heap.size, 0, none⟩ = some (.int .i64 a0) ∧ w'.cell? ⟨w10.heap.size, 1, none⟩ = some (.int .i64 a1) ∧ w'.cell? ⟨w10.heap.size, 2, none⟩ = some (.int .i64 a2) ∧ w'.cell? ⟨w10.heap.size, 3, none⟩ = some (.int .i64 a3) ∧ w'.cell? ⟨w10.heap.size, 4, none⟩ = some (.int .i64 a4) ∧ w'.cell? ⟨w10.heap.size, 5, none⟩ = some (.int .i64 a5) ∧ w'.cell? ⟨w10.heap.size, 6, none⟩ = some (.int .i64 a6) ∧ w'.cell? ⟨w10.heap.size, 7, none⟩ = some (.int .i64 a7) ∧ w'.cell? ⟨w10.heap.size, 8, none⟩ = some (.int .i64 a8) ∧ w'.cell? ⟨w10.heap.size, 9, none⟩ = some (.int .i64 a9) ∧ w'.cell? ⟨by_, oy + j * 10, none⟩ = some (.int .i64 a0) ∧ w'.cell? ⟨by_, oy + j * 10 + 1, none⟩ = some (.int .i64 a1) ∧ w'.cell? ⟨by_, oy + j * 10 + 2, none⟩ = some (.int .i64 a2) ∧ w'.cell? ⟨by_, oy + j * 10 + 3, none⟩ = some (.int .i64 a3) ∧ w'.cell? ⟨by_, oy + j * 10 + 4, none⟩ = some (.int .i64 a4) ∧ w'.cell? ⟨by_, oy + j * 10 + 5, none⟩ = some (.int .i64 a5) ∧ w'.cell? ⟨by_, oy + j * 10 + 6, none⟩ = some (.int .i64 a6) ∧ w'.cell? ⟨by_, oy + j * 10 + 7, none⟩ = some (.int .i64 a7) ∧ w'.cell? ⟨by_, oy + j * 10 + 8, none⟩ = some (.int .i64 a8) ∧ w'.cell? ⟨by_, oy + j * 10 + 9, none⟩ = some (.int .i64 a9)) wd := by rw [hwd]; exact ⟨z0, z1, z2, z3, z4, z5, z6, z7, z8, z9, y0, y1, y2, y3, y4, y5, y6, y7, y8, y9⟩
        rw [← hwd]
        simp only [List.size_toArray, List.length_cons, List.length_nil, Nat.zero_add, Nat.reduceAdd]
        clear z0 z1 z2 z3 z4 z5 z6 z7 z8 z9 y0 y1 y2 y3 y4 y5 y6 y7 y8 y9
        have hH2 := hHeld
        obtain ⟨z0, z1, z2, z3, z4, z5, z6, z7, z8, z9, y0, y1, y2, y3, y4, y5, y6, y7, y8, y9⟩ := hH2
        clear hwd
        refine wpAnyH_take (i := 0) (v := ?_) rfl (by kernel_rfl) (by kernel_rfl) (by kernel_rfl) (fun _ _ _ h => h) (Or.inl ⟨by rfl, ?_⟩) (by assumption) ?_
        rotate_left
        · (intro w9 hS9; simp only [List.getElem_toArray, List.getElem_cons_zero]; go_simp <;> rfl)
        simp only [Act.put, List.setIfInBounds_toArray, List.set_cons_zero, List.set_cons_succ, List.getElem_toArray, List.getElem_cons_zero]
        refine wpAnyH_take (i := 1) (v := ?_) rfl (by kernel_rfl) (by kernel_rfl) (by kernel_rfl) (fun _ _ _ h => h) (Or.inl ⟨by rfl, ?_⟩) (by assumption) ?_
        rotate_left
        · (intro w9 hS9; simp only [List.getElem_toArray, List.getElem_cons_zero, List.getElem_cons_succ]; go_simp <;> rfl)
        simp only [Act.put, List.setIfInBounds_toArray, List.set_cons_zero, List.set_cons_succ, List.getElem_toArray, List.getElem_cons_zero, List.getElem_cons_succ]
        refine wpAnyH_take (i := 2) (v := ?_) rfl (by kernel_rfl) (by kernel_rfl) (by kernel_rfl) (fun _ _ _ h => h) (Or.inl ⟨by rfl, ?_⟩) (by assumption) ?_
        rotate_left
        · (intro w9 hS9; simp only [List.getElem_toArray, List.getElem_cons_zero, List.getElem_cons_succ]; go_simp <;> rfl)
        simp only [Act.put, List.setIfInBounds_toArray, List.set_cons_zero, List.set_cons_succ, List.getElem_toArray, List.getElem_cons_zero, List.getElem_cons_succ]
        refine wpAnyH_take (i := 3) (v := ?_) rfl (by kernel_rfl) (by kernel_rfl) (by kernel_rfl) (fun _ _ _ h => h) (Or.inl ⟨by rfl, ?_⟩) (by assumption) ?_
        rotate_left
        · (intro w9 hS9; simp only [List.getElem_toArray, List.getElem_cons_zero, List.getElem_cons_succ]; go_simp <;> rfl)
        simp only [Act.put, List.setIfInBounds_toArray, List.set_cons_zero, List.set_cons_succ, List.getElem_toArray, List.getElem_cons_zero, List.getElem_cons_succ]
        refine wpAnyH_take (i := 4) (v := ?_) rfl (by kernel_rfl) (by kernel_rfl) (by kernel_rfl) (fun _ _ _ h => h) (Or.inl ⟨by rfl, ?_⟩) (by assumption) ?_
        rotate_left
        · (intro w9 hS9; simp only [List.getElem_toArray, List.getElem_cons_zero, List.getElem_cons_succ]; go_simp <;> rfl)
        simp only [Act.put, List.setIfInBounds_toArray, List.set_cons_zero, List.set_cons_succ, List.getElem_toArray, List.getElem_cons_zero, List.getElem_cons_succ]
        refine wpAnyH_take (i := 5) (v := ?_) rfl (by kernel_rfl) (by kernel_rfl) (by kernel_rfl) (fun _ _ _ h => h) (Or.inl ⟨by rfl, ?_⟩) (by assumption) ?_
        rotate_left
        · (intro w9 hS9; simp only [List.getElem_toArray, List.getElem_cons_zero, List.getElem_cons_succ]; go_simp <;> rfl)
        simp only [Act.put, List.setIfInBounds_toArray, List.set_cons_zero, List.set_cons_succ, List.getElem_toArray, List.getElem_cons_zero, List.getElem_cons_succ]
        refine wpAnyH_take (i := 6) (v := ?_) rfl (by kernel_rfl) (by kernel_rfl) (by kernel_rfl) (fun _ _ _ h => h) (Or.inl ⟨by rfl, ?_⟩) (by assumption) ?_
        rotate_left
        · (intro w9 hS9; simp only [List.getElem_toArray, List.getElem_cons_zero, List.getElem_cons_succ]; go_simp <;> rfl)
        simp only [Act.put, List.setIfInBounds_toArray, List.set_cons_zero, List.set_cons_succ, List.getElem_toArray, List.getElem_cons_zero, List.getElem_cons_succ]
        refine wpAnyH_take (i := 7) (v := ?_) rfl (by kernel_rfl) (by kernel_rfl) (by kernel_rfl) (fun _ _ _ h => h) (Or.inl ⟨by rfl, ?_⟩) (by assumption) ?_
        rotate_left
        · (intro w9 hS9; simp only [List.getElem_toArray, List.getElem_cons_zero, List.getElem_cons_succ]; go_simp <;> rfl)
        simp only [Act.put, List.setIfInBounds_toArray, List.set_cons_zero, List.set_cons_succ, List.getElem_toArray, List.getElem_cons_zero, List.getElem_cons_succ]
        refine wpAnyH_take (i := 8) (v := ?_) rfl (by kernel_rfl) (by kernel_rfl) (by kernel_rfl) (fun _ _ _ h => h) (Or.inl ⟨by rfl, ?_⟩) (by assumption) ?_
        rotate_left
        · (intro w9 hS9; simp only [List.getElem_toArray, List.getElem_cons_zero, List.getElem_cons_succ]; go_simp <;> rfl)
        simp only [Act.put, List.setIfInBounds_toArray, List.set_cons_zero, List.set_cons_succ, List.getElem_toArray, List.getElem_cons_zero, List.getElem_cons_succ]
        refine wpAnyH_take (i := 9) (v := ?_) rfl (by kernel_rfl) (by kernel_rfl) (by kernel_rfl) (fun _ _ _ h => h) (Or.inl ⟨by rfl, ?_⟩) (by assumption) ?_
        rotate_left
        · (intro w9 hS9; simp only [List.getElem_toArray, List.getElem_cons_zero, List.getElem_cons_succ]; go_simp <;> rfl)
        simp only [Act.put, List.setIfInBounds_toArray, List.set_cons_zero, List.set_cons_succ, List.getElem_toArray, List.getElem_cons_zero, List.getElem_cons_succ]
        refine wpAnyH_take (i := 10) (v := ?_) rfl (by kernel_rfl) (by kernel_rfl) (by kernel_rfl) (fun _ _ _ h => h) (Or.inl ⟨by rfl, ?_⟩) (by assumption) ?_
        rotate_left
        · (intro w9 hS9; simp only [List.getElem_toArray, List.getElem_cons_zero, List.getElem_cons_succ]; go_simp <;> rfl)
        simp only [Act.put, List.setIfInBounds_toArray, List.set_cons_zero, List.set_cons_succ, List.getElem_toArray, List.getElem_cons_zero, List.getElem_cons_succ]
        refine wpAnyH_take (i := 11) (v := ?_) rfl (by kernel_rfl) (by kernel_rfl) (by kernel_rfl) (fun _ _ _ h => h) (Or.inl ⟨by rfl, ?_⟩) (by assumption) ?_
        rotate_left
        · (intro w9 hS9; simp only [List.getElem_toArray, List.getElem_cons_zero, List.getElem_cons_succ]; go_simp <;> rfl)
        simp only [Act.put, List.setIfInBounds_toArray, List.set_cons_zero, List.set_cons_succ, List.getElem_toArray, List.getElem_cons_zero, List.getElem_cons_succ]
        refine wpAnyH_ready (rs := [12]) (by kernel_rfl) (by simp) ?_
        refine AllReadyH.cons rfl (fun K hK => ?_) AllReadyH.nil
        try simp only [List.getElem_toArray, List.getElem_cons_zero, List.getElem_cons_succ]
        try go_simp
        go_at_call 14
        refine (Hs.out _).mono ?_
        rintro e wn12 ⟨rfl, hbn⟩
        replace HCd := hide (HCd.out.trans (hbn.mono HCd.out.size))
        replace HTd := hide (HTd.out.below hbn)
        replace z0 := bkeep hbn z0
        replace y0 := bkeep hbn y0
        replace z1 := bkeep hbn z1
        replace y1 := bkeep hbn y1
        replace z2 := bkeep hbn z2
        replace y2 := bkeep hbn y2
        replace z3 := bkeep hbn z3
        replace y3 := bkeep hbn y3
        replace z4 := bkeep hbn z4
        replace y4 := bkeep hbn y4
        replace z5 := bkeep hbn z5
        replace y5 := bkeep hbn y5
        replace z6 := bkeep hbn z6
        replace y6 := bkeep hbn y6
        replace z7 := bkeep hbn z7
        replace y7 := bkeep hbn y7
        replace z8 := bkeep hbn z8
        replace y8 := bkeep hbn y8
        replace z9 := bkeep hbn z9
        replace y9 := bkeep hbn y9
        clear hbn
        refine hK.out _ _ ⟨z0, z1, z2, z3, z4, z5, z6, z7, z8, z9, y0, y1, y2, y3, y4, y5, y6, y7, y8, y9⟩ (fun hHeld => ?_)
        clear hK K
        try simp only [Act.put, List.setIfInBounds_toArray, List.set_cons_zero, List.set_cons_succ, List.getElem_toArray, List.getElem_cons_zero, List.getElem_cons_succ]
        refine wpAnyH_take (i := 13) (v := ?_) rfl (by kernel_rfl) (by kernel_rfl) (by kernel_rfl) (fun _ _ _ h => h) (Or.inl ⟨by rfl, ?_⟩) (by assumption) ?_
        rotate_left
        · (intro w9 hS9; simp only [List.getElem_toArray, List.getElem_cons_zero, List.getElem_cons_succ]; go_simp <;> rfl)
        simp only [Act.put, List.setIfInBounds_toArray, List.set_cons_zero, List.set_cons_succ, List.getElem_toArray, List.getElem_cons_zero, List.getElem_cons_succ]
        refine wpAnyH_take (i := 14) (v := ?_) rfl (by kernel_rfl) (by kernel_rfl) (by kernel_rfl) (fun _ _ _ h => h) (Or.inl ⟨by rfl, ?_⟩) (by assumption) ?_
        rotate_left
        · (intro w9 hS9; simp only [List.getElem_toArray, List.getElem_cons_zero, List.getElem_cons_succ]; go_simp <;> rfl)
        simp only [Act.put, List.setIfInBounds_toArray, List.set_cons_zero, List.set_cons_succ, List.getElem_toArray, List.getElem_cons_zero, List.getElem_cons_succ]
        refine wpAnyH_take (i := 15) (v := undef) rfl (by kernel_rfl) (by kernel_rfl) (by kernel_rfl) (fun _ _ _ h => h) (Or.inr ⟨by rfl, rfl⟩) (by assumption) ?_
        simp only [Act.put, List.setIfInBounds_toArray, List.set_cons_zero, List.set_cons_succ, List.getElem_toArray, List.getElem_cons_zero, List.getElem_cons_succ]
        refine wpAnyH_take (i := 16) (v := undef) rfl (by kernel_rfl) (by kernel_rfl) (by kernel_rfl) (fun _ _ _ h => h) (Or.inr ⟨by rfl, rfl⟩) (by assumption) ?_
        simp only [Act.put, List.setIfInBounds_toArray, List.set_cons_zero, List.set_cons_succ, List.getElem_toArray, List.getElem_cons_zero, List.getElem_cons_succ]
        refine wpAnyH_take (i := 17) (v := undef) rfl (by kernel_rfl) (by kernel_rfl) (by kernel_rfl) (fun _ _ _ h => h) (Or.inr ⟨by rfl, rfl⟩) (by assumption) ?_
        simp only [Act.put, List.setIfInBounds_toArray, List.set_cons_zero, List.set_cons_succ, List.getElem_toArray, List.getElem_cons_zero, List.getElem_cons_succ]
        refine wpAnyH_take (i := 18) (v := undef) rfl (by kernel_rfl) (by kernel_rfl) (by kernel_rfl) (fun _ _ _ h => h) (Or.inr ⟨by rfl, rfl⟩) (by assumption) ?_
        simp only [Act.put, List.setIfInBounds_toArray, List.set_cons_zero, List.set_cons_succ, List.getElem_toArray, List.getElem_cons_zero, List.getElem_cons_succ]
        refine wpAnyH_take (i := 19) (v := undef) rfl (by kernel_rfl) (by kernel_rfl) (by kernel_rfl) (fun _ _ _ h => h) (Or.inr ⟨by rfl, rfl⟩) (by assumption) ?_
        simp only [Act.put, List.setIfInBounds_toArray, List.set_cons_zero, List.set_cons_succ, List.getElem_toArray, List.getElem_cons_zero, List.getElem_cons_succ]
        refine wpAnyH_take (i := 20) (v := undef) rfl (by kernel_rfl) (by kernel_rfl) (by kernel_rfl) (fun _ _ _ h => h) (Or.inr ⟨by rfl, rfl⟩) (by assumption) ?_
        simp only [Act.put, List.setIfInBounds_toArray, List.set_cons_zero, List.set_cons_succ, List.getElem_toArray, List.getElem_cons_zero, List.getElem_cons_succ]
        refine wpAnyH_take (i := 21) (v := undef) rfl (by kernel_rfl) (by kernel_rfl) (by kernel_rfl) (fun _ _ _ h => h) (Or.inr ⟨by rfl, rfl⟩) (by assumption) ?_
        simp only [Act.put, List.setIfInBounds_toArray, List.set_cons_zero, List.set_cons_succ, List.getElem_toArray, List.getElem_cons_zero, List.getElem_cons_succ]
        refine wpAnyH_take (i := 22) (v := ?_) rfl (by kernel_rfl) (by kernel_rfl) (by kernel_rfl) (fun _ _ _ h => h) (Or.inl ⟨by rfl, ?_⟩) (by assumption) ?_
        rotate_left
        · (intro w9 hS9; simp only [List.getElem_toArray, List.getElem_cons_zero, List.getElem_cons_succ]; go_simp <;> rfl)
        simp only [Act.put, List.setIfInBounds_toArray, List.set_cons_zero, List.set_cons_succ, List.getElem_toArray, List.getElem_cons_zero, List.getElem_cons_succ]
        refine wpAnyH_take (i := 23) (v := ?_) rfl (by kernel_rfl) (by kernel_rfl) (by kernel_rfl) (fun _ _ _ h => h) (Or.inl ⟨by rfl, ?_⟩) (by assumption) ?_
        rotate_left
        · (intro w9 hS9; simp only [List.getElem_toArray, List.getElem_cons_zero, List.getElem_cons_succ]; go_simp <;> rfl)
        simp only [Act.put, List.setIfInBounds_toArray, List.set_cons_zero, List.set_cons_succ, List.getElem_toArray, List.getElem_cons_zero, List.getElem_cons_succ]
        refine wpAnyH_take (i := 24) (v := ?_) rfl (by kernel_rfl) (by kernel_rfl) (by kernel_rfl) (fun _ _ _ h => h) (Or.inl ⟨by rfl, ?_⟩) (by assumption) ?_
        rotate_left
        · (intro w9 hS9; simp only [List.getElem_toArray, List.getElem_cons_zero, List.getElem_cons_succ]; go_simp <;> rfl)
        simp only [Act.put, List.setIfInBounds_toArray, List.set_cons_zero, List.set_cons_succ, List.getElem_toArray, List.getElem_cons_zero, List.getElem_cons_succ]
        refine wpAnyH_ready (rs := [25]) (by kernel_rfl) (by simp) ?_
        refine AllReadyH.cons rfl (fun K hK => ?_) AllReadyH.nil
        try simp only [List.getElem_toArray, List.getElem_cons_zero, List.getElem_cons_succ]
        try go_simp
        go_at_call 8
        refine (lives38_c _ HTd.out).mono ?_
        rintro e wn25 ⟨rfl, hbn⟩
        replace HCd := hide (HCd.out.trans (hbn.mono HCd.out.size))
        replace HTd := hide (HTd.out.below hbn)
        replace z0 := bkeep hbn z0
        replace y0 := bkeep hbn y0
        replace z1 := bkeep hbn z1
        replace y1 := bkeep hbn y1
        replace z2 := bkeep hbn z2
        replace y2 := bkeep hbn y2
        replace z3 := bkeep hbn z3
        replace y3 := bkeep hbn y3
        replace z4 := bkeep hbn z4
        replace y4 := bkeep hbn y4
        replace z5 := bkeep hbn z5
        replace y5 := bkeep hbn y5
        replace z6 := bkeep hbn z6
        replace y6 := bkeep hbn y6
        replace z7 := bkeep hbn z7
        replace y7 := bkeep hbn y7
        replace z8 := bkeep hbn z8
        replace y8 := bkeep hbn y8
        replace z9 := bkeep hbn z9
        replace y9 := bkeep hbn y9
        clear hbn
        refine hK.out _ _ ⟨z0, z1, z2, z3, z4, z5, z6, z7, z8, z9, y0, y1, y2, y3, y4, y5, y6, y7, y8, y9⟩ (fun hHeld => ?_)
        clear hK K
        try simp only [Act.put, List.setIfInBounds_toArray, List.set_cons_zero, List.set_cons_succ, List.getElem_toArray, List.getElem_cons_zero, List.getElem_cons_succ]
        refine wpAnyH_take (i := 26) (v := ?_) rfl (by kernel_rfl) (by kernel_rfl) (by kernel_rfl) (fun _ _ _ h => h) (Or.inl ⟨by rfl, ?_⟩) (by assumption) ?_
        rotate_left
        · (intro w9 hS9; simp only [List.getElem_toArray, List.getElem_cons_zero, List.getElem_cons_succ]; go_simp <;> rfl)
        simp only [Act.put, List.setIfInBounds_toArray, List.set_cons_zero, List.set_cons_succ, List.getElem_toArray, List.getElem_cons_zero, List.getElem_cons_succ]
        refine wpAnyH_take (i := 27) (v := ?_) rfl (by kernel_rfl) (by kernel_rfl) (by kernel_rfl) (fun _ _ _ h => h) (Or.inl ⟨by rfl, ?_⟩) (by assumption) ?_
        rotate_left
        · (intro w9 hS9; simp only [List.getElem_toArray, List.getElem_cons_zero, List.getElem_cons_succ]; go_simp <;> rfl)
        simp only [Act.put, List.setIfInBounds_toArray, List.set_cons_zero, List.set_cons_succ, List.getElem_toArray, List.getElem_cons_zero, List.getElem_cons_succ]
        refine wpAnyH_done (by kernel_rfl) ?_ _
        clear hHeld
        go_wp2_with fail
        go_ret
        exact ⟨rfl, HB1.out.trans (HCd.out.mono HB1.out.size)⟩
end Go.Proofs.YthnjebpbokmemaaDoor
