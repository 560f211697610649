/- Parts of a chain of lemmas: RefSd1, RefCls1. Conditions: those of each theorem. -/
import Derived.Test.YtdmdohjdmnmabaaGreatQo05
import Derived.Test.YtdmdohjdmnmabaaGreatQo25
import Derived.Test.YtdmdohjdmnmabaaGreatQo19
import Derived.Test.YtdmdohjdmnmabaaGreatQo22
import Derived.Test.YtdmdohjdmnmabaaGreatQo21
import Derived.Test.YtdmdohjdmnmabaaGreatQo07
import Derived.Test.YtdmdohjdmnmabaaGreatQo04
namespace Go.Proofs.YtdmdohjdmnmabaaGreat
open Go.RowKit
set_option linter.unusedVariables false
set_option linter.unusedSimpArgs false

def rndT (l : List Ev) (k : Nat) : List Int := (List.range k).map (rndD l)
theorem rndT_len (l : List Ev) (k : Nat) : (rndT l k).length = k := by unfold rndT; simp
theorem rndT_succ (l : List Ev) (k : Nat) : rndT l (k + 1) = rndT l k ++ [rndD l k] := by unfold rndT; rw [List.range_succ, List.map_append]; rfl
theorem rndT_at (l : List Ev) (n k : Nat) (h : k < n) : nth (rndT l n) k = rndD l k := by
  have hl := rndT_len l n
  rw [nth_of_lt (by rw [hl]; exact h)]
  simp [rndT]
theorem within_rnd (n : Int) (h : -1 ≤ n) : within n 0 (n + 1) = max n 0 := by unfold within; split <;> (try split) <;> omega
theorem rndD_le (l : List Ev) (k : Nat) : 0 ≤ rndD l k ∧ rndD l k ≤ l.length := by
  have h1 : (clocksL (l.take (k + 1))).length ≤ (l.take (k + 1)).length := by unfold clocksL; rw [List.length_map]; exact List.length_filter_le _ _
  rw [List.length_take] at h1
  unfold rndD
  omega
set_option maxRecDepth 100000 in
set_option maxHeartbeats 6400000 in
theorem refrounds36_c (A : Option Addr) (c : Nat) (l : List Ev) (w : World) (hr : Rd w NoBlk A (flat encEv l)) (hn : l.length ≤ 10000) :
    Calls Tryz.prog 95 #[.slice A l.length c] w fun e w' => (∃ v, e = .returned v ∧ w'.ownsRow w.heap.size 3 1 v l.length (flat encI (rndT l l.length))) ∧ Below w.heap.size w w' := by
  obtain ⟨il, hil, hlz0, hlz1, hlz2⟩ := info_parts Tryz.infoI3
  have HEv := hide (fun (w' : World) (k : Below w.heap.size w w') (i : Nat) (hi : i < l.length) => ev_cells (hr.below k) i hi)
  have HCt := hide (fun i hi => cnt_of2 l i hi)
  have HCl := hide (show ∀ q, (clocksL (l.take q)).length ≤ 10000 from fun q => by
    have h1 : (clocksL (l.take q)).length ≤ (l.take q).length := by unfold clocksL; rw [List.length_map]; exact List.length_filter_le _ _
    rw [List.length_take] at h1
    omega)
  have HRd := hide (show ∀ k, rndD l k = max (((clocksL (l.take (k + 1))).length : Int) - 1) 0 from fun _ => rfl)
  have HTs := hide (fun k => rndT_succ l k)
  have HTl := hide (fun k => rndT_len l k)
  obtain ⟨n, hnl⟩ : ∃ n, n = l.length := ⟨_, rfl⟩
  rw [← hnl] at HEv HCt hn ⊢
  obtain ⟨W2, hW2⟩ : ∃ W2, W2 = w.alloc (.cells #[] 3) := ⟨_, rfl⟩
  have HB2 := hide (show Below w.heap.size w W2 by rw [hW2]; exact below_alloc _ _)
  have HO2 := hide (show W2.ownsRow w.heap.size 3 1 (.slice (some ⟨w.heap.size, 0, none⟩) 0 0) 0 (flat encI []) by rw [hW2]; simpa [flat] using own_empty' (w := w) (base := w.heap.size) (g := w.heap.size) (e := 3) (size := 1) (by omega) (by omega))
  have HWW := hide hW2
  clear hr hnl hW2
  go_enter Tryz.func95, Tryz.ntmps95
  go_upto_region 2 with fail
  rw [← HWW.out]
  go_wp2_with fail
  go_loopw [3, 4, 5] (fun v m i wr => ∃ k : Nat, k ≤ n ∧ i = .int .i64 k ∧ m = .int .i64 (((clocksL (l.take k)).length : Int) - 1) ∧ Hid (wr.ownsRow w.heap.size 3 1 v k (flat encI (rndT l k))) ∧ Hid (Below w.heap.size w wr)) (fun _ _ i _ => n - (intOf i).toNat)
  case atStart => exact ⟨0, Nat.zero_le _, rfl, by simp [clocksL], HO2, HB2⟩
  case round =>
    clear HO2 HB2
    obtain ⟨k, hk, rfl, rfl, HOw, HB⟩ := hrel
    obtain ⟨VA, vc, rfl, hvc⟩ := own_cap HOw.out
    have w1 : IntKind.i64.wrap ((k : Int) + 1) = (k : Int) + 1 := IntWalk.i64_in _ (by omega)
    by_cases hlt : k < n
    case neg =>
      obtain rfl : k = n := by omega
      have e1 : decide ((k : Int) < (k : Int)) = false := by simp
      have e2 : decide (k < k) = false := by simp
      go_wp2_with fail
      go_ret
      exact ⟨⟨_, rfl, HOw.out⟩, HB.out⟩
    case pos =>
      obtain ⟨eb, eo, rfl, _, heb, y0, y1, y2, y3, y4, y5, y6, y7, y8, y9, y10, y11⟩ := HEv.out wr HB.out k hlt
      have HC1 := hide (HCt.out k hlt)
      have hcl := HCl.out k
      have hcl2 := HCl.out (k + 1)
      have HR1 := hide (HRd.out k)
      have HTs1 := hide (HTs.out k)
      obtain ⟨ek, hek⟩ : ∃ ek, ek = (evAt l k).k := ⟨_, rfl⟩
      rw [← hek] at y0 HC1
      obtain ⟨m0, hm0⟩ : ∃ m0, m0 = (clocksL (l.take k)).length := ⟨_, rfl⟩
      rw [← hm0] at HC1 hcl ⊢
      obtain ⟨m1, hm1⟩ : ∃ m1, m1 = (clocksL (l.take (k + 1))).length := ⟨_, rfl⟩
      rw [← hm1] at HC1 hcl2 HR1
      have HM1 := hide hm1
      have d1 : decide ((k : Int) < (n : Int)) = true := by simp; exact hlt
      have d2 : decide (k < n) = true := by simp; exact hlt
      have j1 : (0 : Int) ≤ (k : Int) := by omega
      have j2 : (k : Int) < (n : Int) := by omega
      have w2 : IntKind.i64.wrap ((m0 : Int) - 1 + 1) = (m0 : Int) := by rw [IntWalk.i64_in _ (by omega)]; omega
      have w3 : IntKind.i64.wrap ((m1 : Int) - 1 + 1) = (m1 : Int) - 1 + 1 := IntWalk.i64_in _ (by omega)
      clear y1 y2 y3 y4 y5 y6 y7 y8 y9 y10 y11 hek hm0 hm1
      go_upto_region 5 with fail
      go_cut [18] from 13 to 17 (fun v wx => v = .bool (ek == 1) ∧ wr = wx)
      case first =>
        go_wp2_with fail
        go_meet
        exact ⟨rfl, rfl⟩
      case rest =>
        obtain ⟨rfl, hwx⟩ := hcut
        subst hwx
        go_upto_if 18 with fail
        go_cut [4] from 18 to 20 (fun v wx => v = .int .i64 ((m1 : Int) - 1) ∧ wr = wx)
        case first =>
          by_cases h1 : ek = 1
          · have b1 : (ek == 1) = true := by simp [h1]
            have HC2 := hide (show (m1 : Int) - 1 = (m0 : Int) by rw [HC1.out, if_pos h1]; omega)
            clear h1
            go_wp2_with fail
            go_meet
            exact ⟨by rw [HC2.out], rfl⟩
          · have b1 : (ek == 1) = false := by simp [h1]
            have HC2 := hide (show (m1 : Int) - 1 = (m0 : Int) - 1 by rw [HC1.out, if_neg h1]; omega)
            clear h1
            go_wp2_with fail
            go_meet
            exact ⟨by rw [HC2.out], rfl⟩
        case rest =>
          obtain ⟨rfl, hwx⟩ := hcut
          subst hwx
          have HWi := hide (show within ((m1 : Int) - 1) 0 (m1 : Int) = rndD l k by
            have h := within_rnd ((m1 : Int) - 1) (by omega)
            rw [Int.sub_add_cancel] at h
            rw [h, HR1.out])
          go_wp2_with fail
          refine (within_c _ _ _ _).mono ?_
          rintro e w4 ⟨rfl, h4⟩
          obtain rfl := h4.symm
          rw [HWi.out]
          obtain ⟨R, hR⟩ : ∃ R, R = rndD l k := ⟨_, rfl⟩
          rw [← hR] at HTs1 ⊢
          have HNew := hide (rd_blkN (M := NoBlk) (Blk.new wr 3 #[.int .i64 R]) (fun h => h))
          have hga : w.heap.size ≤ wr.heap.size := HB.out.size
          clear hR
          go_wp2_with (at_builtin; refine wpList_append_rd _ rfl (.tmp 21) (.tmp 26) _ rfl w.heap.size 3 il _ 1 8 Tryz.underlying86 hil hlz0 hlz1 hlz2 rfl (by omega) _ k _ rfl (own_only HOw.out ((Only.refl NoBlk wr).alloc (.cells #[.int .i64 R] 3)) (fun _ _ h => h.elim)) NoBlk (some ⟨wr.heap.size, 0, none⟩) 1 1 [.int .i64 R] rfl HNew.out rfl (by intro u hu; simp at hu; subst hu; rfl) (by simp only [maxLen]; omega) (by omega) (by simp; omega) ?_; intro v2 wb hown2 hgr _; have Own2 := hide hown2; have Gr := hide hgr; clear hown2 hgr)
          have HB7 := hide ((HB.out.alloc HB.out.size (.cells #[.int .i64 R] 3)).grown Gr.out (by simp; omega) (fun q hq => by have := own_ge HOw.out q hq; omega))
          have HOwb := hide (show wb.ownsRow w.heap.size 3 1 v2 (k + 1) (flat encI (rndT l (k + 1))) from by
            rw [HTs1.out, flat_append]
            exact Own2.out)
          clear Own2 Gr HNew
          go_roundw
          case rel => exact ⟨k + 1, by omega, by go_num, by rw [HM1.out], HOwb, HB7⟩
          case measure => simp [intOf]; omega
end Go.Proofs.YtdmdohjdmnmabaaGreat
namespace Go.Proofs.YtdmdohjdmnmabaaGreat
open Go.RowKit
set_option linter.unusedVariables false
set_option linter.unusedSimpArgs false

theorem Tryz.infoBool : (Tryz.prog.info? 4).map (fun i => (i.zero, i.size, i.bytes)) = some (some (.bool false), 1, 1) := by kernel_rfl
def encB (b : Bool) : List Value := [.bool b]
theorem encB_len (b : Bool) : (encB b).length = 1 := rfl
theorem encB_one (b : Bool) : ∀ u ∈ encB b, u.oneCell' = true := by intro u hu; simp [encB] at hu; subst hu; rfl
def bAt (l : List Bool) (k : Nat) : Bool := l.getD k false
theorem flat_b (l : List Bool) : flat encB l = l.map Value.bool := by
  induction l with
  | nil => rfl
  | cons a r ih => rw [flat_cons, ih]; rfl
theorem own_b {w : World} {base n : Nat} {A : Option Addr} {c : Nat} {s : List Bool} (h : w.ownsRow base 4 1 (.slice A n c) n (flat encB s)) (j : Nat) (hj : j < n) : ∃ g, A = some ⟨g, 0, none⟩ ∧ base ≤ g ∧ g < w.heap.size ∧ w.cell? ⟨g, j, none⟩ = some (.bool (bAt s j)) ∧ w.frozen? ⟨g, j, none⟩ = false := by
  obtain ⟨hl, h2⟩ := h
  rcases h2 with ⟨hv, hn⟩ | ⟨g, cap, cur, hv, hb, hh, hnc, hcm, hsz, htk⟩
  · omega
  · injection hv with hv _ _
    have hB : Blk w g 4 cur := hh
    refine ⟨g, hv, hb, hB.lt, ?_, hB.frozen j⟩
    rw [hB.cell j]
    have e : cur[j]? = (cur.toList.take (n * 1))[j]? := by rw [List.getElem?_take, if_pos (by omega)]; simp
    rw [e, htk, flat_b]
    rw [flat_b] at hl
    have hjl : j < s.length := by simp at hl; omega
    simp [bAt, List.getD, hjl]
set_option maxRecDepth 100000 in
set_option maxHeartbeats 1600000 in
theorem refHas_c (a b c d : Int) (x : Nat) (w : World) (hx : x < 256) : Calls Tryz.prog 187 #[.agg (setA a b c d), .int .i64 x] w fun e w' => ∃ v, e = .returned (.bool v) ∧ Below w.heap.size w w' := by
  unfold setA
  have hr1 : Int.tmod (x : Int) 64 = ((x % 64 : Nat) : Int) := by rw [Int.tmod_eq_emod_of_nonneg (by omega)]; omega
  have hr2 : (x : Int) % 64 = ((x % 64 : Nat) : Int) := by omega
  have hr3 : x % 64 < 64 := Nat.mod_lt _ (by omega)
  have h4 : x / 64 = 0 ∨ x / 64 = 1 ∨ x / 64 = 2 ∨ x / 64 = 3 := by omega
  rcases h4 with h4 | h4 | h4 | h4
  all_goals
    have hq1 : Int.tdiv (x : Int) 64 = ((x / 64 : Nat) : Int) := by rw [Int.tdiv_eq_ediv_of_nonneg (by omega)]; omega
    have hq2 : (x : Int) / 64 = ((x / 64 : Nat) : Int) := by omega
    have hw1 : IntKind.i64.wrap ((x / 64 : Nat) : Int) = ((x / 64 : Nat) : Int) := IntWalk.i64_in _ (by omega)
    have hw2 : IntKind.i64.wrap ((x % 64 : Nat) : Int) = ((x % 64 : Nat) : Int) := IntWalk.i64_in _ (by omega)
    rw [h4] at hq1 hq2 hw1
    clear h4
    obtain ⟨r, hr⟩ : ∃ r, r = x % 64 := ⟨_, rfl⟩
    rw [← hr] at hr1 hr2 hr3 hw2
    clear hr
    go_enter Tryz.func187, Tryz.ntmps187
    go_wp2_with fail
    go_loopw [5, 6] (fun n i wr => ∃ (k : Nat) (v : Int), k < 64 ∧ i = .int .i64 k ∧ n = .int .u64 v ∧ Hid (Below w.heap.size w wr)) (fun _ i _ => (intOf i).toNat)
    case atStart => exact ⟨r, _, by omega, by go_num, rfl, hide (below_alloc _ _)⟩
    case round =>
      obtain ⟨k, v, hk, rfl, rfl, hbel⟩ := hrel
      by_cases h0 : 0 < k
      · have d1 : decide ((0 : Int) < (k : Int)) = true := by simp; omega
        have d2 : decide (0 < k) = true := by simp; omega
        go_wp2_with fail
        go_roundw
        case rel => exact ⟨k - 1, _, by omega, by go_num, rfl, hbel⟩
        case measure => simp [intOf]; omega
      · have d1 : decide ((0 : Int) < (k : Int)) = false := by simp; omega
        have d2 : decide (0 < k) = false := by simp; omega
        go_wp2_with fail
        go_ret
        exact ⟨_, rfl, hbel.out⟩
set_option maxRecDepth 100000 in
set_option maxHeartbeats 1600000 in
theorem refFlags_c (a b c d : Int) (w : World) : Calls Tryz.prog 179 #[.agg (setA a b c d)] w fun e w' => ∃ v s, e = .returned v ∧ w'.ownsRow w.heap.size 4 1 v 256 (flat encB s) ∧ Below w.heap.size w w' := by
  obtain ⟨i0, hi, hz0, hz1, hz2⟩ := info_parts Tryz.infoBool
  go_enter Tryz.func179, Tryz.ntmps179
  go_wp2_with fail
  unfold setA
  go_loopw [3, 4] (fun v i wr => ∃ (k : Nat) (s : List Bool), k ≤ 256 ∧ i = .int .i64 k ∧ Hid (wr.ownsRow w.heap.size 4 1 v k (flat encB s)) ∧ Hid (Below w.heap.size w wr) ∧ Hid (Blk wr w.heap.size 217 (setA a b c d))) (fun _ i _ => 256 - (intOf i).toNat)
  case atStart => exact ⟨0, [], by omega, rfl, hide (own_empty' (by simp) (by simp)), hide ((below_alloc _ _).alloc (by simp) _), hide ((Blk.new _ _ _).alloc _)⟩
  case round =>
    obtain ⟨k, s, hk, rfl, hown, hbel, hB⟩ := hrel
    obtain ⟨A1, c1, rfl, hcap⟩ := own_cap hown.out
    obtain ⟨⟨g0, g1, g2, g3⟩, _⟩ := hB.out.four
    by_cases hlt : k < 256
    · have HH := hide (show Calls Tryz.prog 187 #[.agg #[.int .u64 a, .int .u64 b, .int .u64 c, .int .u64 d], .int .i64 k] wr _ from refHas_c a b c d k wr hlt)
      go_wp2_with (first
        | (go_at_call 187
           refine HH.out.mono ?_
           rintro e w2 ⟨v, rfl, hb2⟩
           have HO2 := hide (own_only hown.out (Only.of_below hb2 NoBlk) (fun _ _ h => h.elim))
           have HL2 := hide (hbel.out.trans (hb2.mono hbel.out.size))
           have HB2 := hide (hB.out.below hb2)
           have Hrd := hide (show Rd (w2.alloc (.cells (encB v).toArray 4)) NoBlk (some ⟨w2.heap.size, 0, none⟩) (encB v) from rd_blkN (Blk.new _ _ _) (fun h => h))
           have Hone := hide (encB_one v)
           clear hb2 g0 g1 g2 g3)
        | (at_builtin; refine wpList_append_rd _ rfl (.tmp 10) (.tmp 14) _ rfl w.heap.size 4 i0 _ 1 1 Tryz.underlying232 hi hz0 hz1 hz2 rfl (by omega) _ k _ rfl (HO2.out.alloc _) NoBlk (some ⟨w2.heap.size, 0, none⟩) 1 1 (encB v) rfl Hrd.out rfl Hone.out (by simp only [maxLen]; omega) (by omega) (by have := HL2.out.size; simp; omega) ?_; intro v2 w3 hown2 hgr _; have Own2 := hide hown2; have Gr := hide hgr; clear hown2 hgr))
      have HL3 := hide ((HL2.out.alloc HL2.out.size _).grown Gr.out (by have := HL2.out.size; simp; omega) (fun j hj => by have := own_ge HO2.out j hj; omega))
      go_roundw
      case rel =>
        refine ⟨k + 1, s ++ [v], by omega, by go_num, ?_, HL3, hide (Blk.grown (HB2.out.alloc _) (HO2.out.alloc _) (by decide) Gr.out)⟩
        rw [flat_append]
        exact hide (by simpa [flat] using Own2.out)
      case measure => simp [intOf]; omega
    · obtain rfl : k = 256 := by omega
      go_wp2_with fail
      go_ret
      exact ⟨_, s, rfl, hown.out, hbel.out⟩
set_option maxRecDepth 100000 in
set_option maxHeartbeats 1600000 in
theorem refNone_c (w : World) : Calls Tryz.prog 169 #[] w fun e w' => ∃ v s, e = .returned v ∧ w'.ownsRow w.heap.size 4 1 v 256 (flat encB s) ∧ Below w.heap.size w w' := by
  have HF := hide (show Calls Tryz.prog 179 #[.agg #[.int .u64 0, .int .u64 0, .int .u64 0, .int .u64 0]] w _ from refFlags_c 0 0 0 0 w)
  go_enter Tryz.func169, Tryz.ntmps169
  go_wp2_with fail
  refine HF.out.mono ?_
  rintro e w2 ⟨v, s, rfl, ho, hb⟩
  go_wp2_with fail
  go_ret
  exact ⟨v, s, rfl, ho, hb⟩
def SetB (w : World) (g : Nat) : Prop := ∃ a b c d : Int, Blk w g 217 (setA a b c d)
theorem setB_at {w : World} {g k : Nat} (h : SetB w g) (hk : k < 4) : ∃ v : Int, w.cell? ⟨g, k, none⟩ = some (.int .u64 v) ∧ w.frozen? ⟨g, k, none⟩ = false ∧ ∀ u : Int, SetB (w.setCell ⟨g, k, none⟩ (.int .u64 u)) g := by
  obtain ⟨a, b, c, d, h⟩ := h
  have h4 : k = 0 ∨ k = 1 ∨ k = 2 ∨ k = 3 := by omega
  rcases h4 with rfl | rfl | rfl | rfl
  · exact ⟨a, by rw [h.cell]; rfl, h.frozen _, fun u => ⟨u, b, c, d, h.set_ 0 _⟩⟩
  · exact ⟨b, by rw [h.cell]; rfl, h.frozen _, fun u => ⟨a, u, c, d, h.set_ 1 _⟩⟩
  · exact ⟨c, by rw [h.cell]; rfl, h.frozen _, fun u => ⟨a, b, u, d, h.set_ 2 _⟩⟩
  · exact ⟨d, by rw [h.cell]; rfl, h.frozen _, fun u => ⟨a, b, c, u, h.set_ 3 _⟩⟩
set_option maxRecDepth 100000 in
set_option maxHeartbeats 3200000 in
theorem refMake_c (base : Nat) (A : Option Addr) (c : Nat) (s : List Bool) (w : World) (h : w.ownsRow base 4 1 (.slice A 256 c) 256 (flat encB s)) : Calls Tryz.prog 172 #[.slice A 256 c] w (RetSet w) := by
  have H := hide h
  go_enter Tryz.func172, Tryz.ntmps172
  go_wp2_with fail
  go_loopw [4] (fun i wr => ∃ k : Nat, k ≤ 4 ∧ i = .int .i64 k ∧ Hid (∃ a b c d, Blk wr (w.heap.size + 1) 217 (setA a b c d)) ∧ Hid (Blk wr w.heap.size 217 (setA 0 0 0 0)) ∧ Hid (Below w.heap.size w wr)) (fun i _ => 4 - (intOf i).toNat)
  case atStart => exact ⟨0, by omega, rfl, hide ⟨0, 0, 0, 0, Blk.new' (by simp)⟩, hide ((Blk.new _ _ _).alloc _), hide ((below_alloc _ _).alloc (by simp) _)⟩
  case round =>
    obtain ⟨k, hk, rfl, hb, hz, hbel⟩ := hrel
    by_cases hle : k < 4
    · have d1 : decide ((k : Int) < 4) = true := by simp; omega
      have d2 : decide (k < 4) = true := by simp; omega
      go_wp2_with fail
      go_loopw [5] (fun i w2 => ∃ j : Nat, j ≤ 64 ∧ i = .int .i64 ((j : Int) - 1) ∧ Hid (∃ a b c d, Blk w2 (w.heap.size + 1) 217 (setA a b c d)) ∧ Hid (Blk w2 w.heap.size 217 (setA 0 0 0 0)) ∧ Hid (Below w.heap.size w w2)) (fun i _ => (intOf i + 1).toNat)
      case atStart => exact ⟨64, by omega, by simp, hb, hz, hbel⟩
      case round =>
        obtain ⟨j, hj, rfl, hb2, hz2, hbel2⟩ := hrel
        obtain ⟨a, b, c', d, hb2⟩ := hb2.out
        have HB := hide hb2
        by_cases hj0 : 0 < j
        · obtain ⟨q, rfl⟩ : ∃ q, j = q + 1 := ⟨j - 1, by omega⟩
          rw [show (((q + 1 : Nat) : Int) - 1) = (q : Int) by omega]
          have e1 : decide ((0 : Int) ≤ (q : Int)) = true := by simp
          have w1 : IntKind.i64.wrap (64 * (k : Int)) = 64 * (k : Int) := IntWalk.i64_in _ (by omega)
          have w2' : IntKind.i64.wrap (64 * (k : Int) + (q : Int)) = 64 * (k : Int) + (q : Int) := IntWalk.i64_in _ (by omega)
          have hA : ∃ g, A = some ⟨g, 0, none⟩ ∧ g < w.heap.size ∧ ∀ i, i < 256 → w.cell? ⟨g, i, none⟩ = some (.bool (bAt s i)) := by
            obtain ⟨g, hg, _, hgl, _⟩ := own_b H.out 0 (by omega)
            refine ⟨g, hg, hgl, fun i hi => ?_⟩
            obtain ⟨g', hg', _, _, hc, _⟩ := own_b H.out i hi
            rw [hg] at hg'
            injection hg' with hg'
            injection hg' with hg'
            subst hg'
            exact hc
          obtain ⟨g, rfl, hgl, hcell⟩ := hA
          have hgi : wr.cell? ⟨g, 64 * k + q, none⟩ = some (.bool (bAt s (64 * k + q))) := bkeepL hbel2.out hgl (hcell _ (by omega))
          have j1 : (0 : Int) ≤ 64 * (k : Int) + (q : Int) := by omega
          have j2 : 64 * (k : Int) + (q : Int) < 256 := by omega
          have j3 : (64 * (k : Int) + (q : Int)).toNat = 64 * k + q := by omega
          have hne : ¬ g = w.heap.size + 1 := by omega
          have hne2 : ¬ w.heap.size + 1 = g := by omega
          obtain ⟨bv, hbv⟩ : ∃ bv, bv = bAt s (64 * k + q) := ⟨_, rfl⟩
          rw [← hbv] at hgi
          obtain ⟨v0, g0, f0, hset⟩ := setB_at ⟨a, b, c', d, hb2⟩ hle
          have HS := hide hset
          have k1 : (0 : Int) ≤ (k : Int) := by omega
          have k2 : (k : Int) < 4 := by omega
          clear hb hb2 hcell hbv hset
          cases bv
          · go_wp2_with fail
            go_roundw
            case rel => exact ⟨q, by omega, rfl, hide (HS.out _), hide (hz2.out.far (by simp) _), hide (hbel2.out.setCell (by simp) _)⟩
            case measure => simp [intOf]
          · go_wp2_with fail
            go_roundw
            case rel =>
              refine ⟨q, by omega, rfl, hide ?_, hide ((hz2.out.far (by simp) _).far (by simp) _), hide ((hbel2.out.setCell (by simp) _).setCell (by simp) _)⟩
              obtain ⟨v1, _, _, hs2⟩ := setB_at (HS.out _) hle
              exact hs2 _
            case measure => simp [intOf]
        · obtain rfl : j = 0 := by omega
          have e1 : decide ((0 : Int) ≤ (((0 : Nat) : Int) - 1)) = false := by decide
          go_wp2_with fail
          go_roundw
          case rel => exact ⟨k + 1, by omega, by go_num, hide ⟨a, b, c', d, HB.out⟩, hz2, hbel2⟩
          case measure => simp [intOf]; omega
    · obtain rfl : k = 4 := by omega
      obtain ⟨a, b, c', d, hb⟩ := hb.out
      obtain ⟨⟨g0, g1, g2, g3⟩, _⟩ := hb.four
      obtain ⟨⟨z0, z1, z2, z3⟩, e0, e1, e2, e3⟩ := hz.out.four
      clear hb
      go_wp2_with fail
      rw [put4]
      have r2 := hz.out.put [.int .u64 a, .int .u64 b, .int .u64 c', .int .u64 d] rfl
      have r3 := below_put [.int .u64 a, .int .u64 b, .int .u64 c', .int .u64 d] 0 hbel.out (Nat.le_refl _)
      obtain ⟨wz, hz⟩ : ∃ wz, wz = putFrom wr w.heap.size 0 [.int .u64 a, .int .u64 b, .int .u64 c', .int .u64 d] := ⟨_, rfl⟩
      rw [← hz] at r2 r3 ⊢
      obtain ⟨⟨g0, g1, g2, g3⟩, _⟩ := r2.four
      refine bodyPost_ret (v := .agg #[.int .u64 a, .int .u64 b, .int .u64 c', .int .u64 d]) (by simp [results, Tryz.results172, go_sem, g0, g1, g2, g3]) rfl ?_
      exact ⟨a, b, c', d, rfl, r3⟩
end Go.Proofs.YtdmdohjdmnmabaaGreat
