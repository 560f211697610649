/- Parts of a chain of lemmas: DelLag, WtP. Conditions: those of each theorem. -/
import Derived.Test.YtdmdohjdmnmabaaGreatQp45
import Derived.BigFrame
import Derived.Deep.RegionHeld3
import Derived.Test.YtdmdohjdmnmabaaGreatQp14
import Derived.Test.YtdmdohjdmnmabaaGreatQp42
namespace Go.Proofs.YtdmdohjdmnmabaaGreat
open Go.RowKit
set_option linter.unusedVariables false
set_option linter.unusedSimpArgs false

theorem Tryz.zeroLag (w : World) : (zeroValue 96).run Tryz.prog w = .ok (.agg #[.int .i64 0, .int .i64 0, .int .i64 0, .int .i64 0, .int .i64 0, .int .i64 0]) w := by kernel_rfl
theorem Blk.cellsLag {w : World} {g : Nat} {t : TypeId} {b0 b1 b2 b3 b4 b5 : Value} (h : Blk w g t #[b0, b1, b2, b3, b4, b5]) : w.cell? ⟨g, 0, none⟩ = some b0 ∧ w.cell? ⟨g, 1, none⟩ = some b1 ∧ w.cell? ⟨g, 2, none⟩ = some b2 ∧ w.cell? ⟨g, 3, none⟩ = some b3 ∧ w.cell? ⟨g, 4, none⟩ = some b4 ∧ w.cell? ⟨g, 5, none⟩ = some b5 := by
  refine ⟨?_, ?_, ?_, ?_, ?_, ?_⟩ <;> (rw [h.cell]; rfl)
theorem storeLag (w : World) (g i : Nat) (a0 a1 a2 a3 a4 a5 : Value) : ((((((w.setCell ⟨g, i, none⟩ a0).setCell ⟨g, i + 1, none⟩ a1).setCell ⟨g, i + 2, none⟩ a2).setCell ⟨g, i + 3, none⟩ a3).setCell ⟨g, i + 4, none⟩ a4).setCell ⟨g, i + 5, none⟩ a5) = w.setCells g i [a0, a1, a2, a3, a4, a5] := rfl
set_option maxRecDepth 100000 in
set_option maxHeartbeats 3200000 in
theorem IndexLag_c (base : Nat) (Iv : World → Prop) (pr : LagM → Bool) (p0 : Value) (HI : ∀ (w1 w2 : World), Iv w1 → Only (base ≤ ·) w1 w2 → Iv w2) (l : List LagM) (HP : ∀ (w' : World) (x : LagM), x ∈ l → Iv w' → Calls Tryz.prog 52 #[.agg #[.int .i64 x.id, .int .i64 x.step, .int .i64 x.gone, .int .i64 x.read, .int .i64 x.from_, .int .i64 x.match_], p0] w' fun e w2 => e = .returned (.bool (pr x)) ∧ Below w'.heap.size w' w2) (A : Option Addr) (c : Nat) (w : World) (hb0 : base ≤ w.heap.size) (hi : Iv w) (hr : Rd w NoBlk A (flat encLag l)) (hn0 : l.length ≤ maxLen) :
    Calls Tryz.prog 88 #[.slice A l.length c, .func (.func 52) #[] #[p0]] w fun e w' => e = .returned (.int .i64 (idxG pr l)) ∧ Below w.heap.size w w' := by
  have hn : l.length ≤ 9223372036854775807 := hn0
  have Hc := hide (fun (w' : World) (hb : Below w.heap.size w w') (k : Nat) (x : LagM) (hx : l[k]? = some x) => flat_cells encLag_len (hr.below hb) k x hx (by omega))
  have HPr := hide (fun (w' : World) (hb : Below w.heap.size w w') (x : LagM) (hxm : x ∈ l) => HP w' x hxm (HI w w' hi (Only.of_below hb _)))
  obtain ⟨n, hnl⟩ : ∃ n, n = l.length := ⟨_, rfl⟩
  rw [← hnl] at hn ⊢
  have Hn := hide hnl
  clear hr hn0 hnl HP HI hi hb0
  go_enter Tryz.func88, Tryz.ntmps88
  go_wp2_with fail
  go_loopw [8] (fun i wr => ∃ k : Nat, k ≤ n ∧ i = .int .i64 k ∧ Hid (∀ y ∈ l.take k, pr y = false) ∧ Hid (Below w.heap.size w wr)) (fun i _ => n - (intOf i).toNat)
  case atStart => exact ⟨0, Nat.zero_le _, rfl, hide (by simp), hide (Below.refl _ _)⟩
  case round =>
    obtain ⟨k, hk, rfl, hnone, hbel⟩ := hrel
    by_cases hlt2 : k < n
    · obtain ⟨x, hx⟩ : ∃ x, l[k]? = some x := ⟨l[k]'(by rw [← Hn.out]; exact hlt2), List.getElem?_eq_getElem _⟩
      obtain ⟨b2, o, rfl, _, hb2, hc⟩ := Hc.out wr hbel.out k x hx
      have hpred := HPr.out wr hbel.out x (List.mem_of_getElem? hx)
      have g0 : wr.cell? ⟨b2, o + k * 6, none⟩ = some (.int .i64 x.id) := hc 0 (by omega)
      have g1 : wr.cell? ⟨b2, o + k * 6 + 1, none⟩ = some (.int .i64 x.step) := hc 1 (by omega)
      have g2 : wr.cell? ⟨b2, o + k * 6 + 2, none⟩ = some (.int .i64 x.gone) := hc 2 (by omega)
      have g3 : wr.cell? ⟨b2, o + k * 6 + 3, none⟩ = some (.int .i64 x.read) := hc 3 (by omega)
      have g4 : wr.cell? ⟨b2, o + k * 6 + 4, none⟩ = some (.int .i64 x.from_) := hc 4 (by omega)
      have g5 : wr.cell? ⟨b2, o + k * 6 + 5, none⟩ = some (.int .i64 x.match_) := hc 5 (by omega)
      have d1 : decide ((k : Int) < (n : Int)) = true := by simp; exact hlt2
      have d2 : decide (k < n) = true := by simp; exact hlt2
      have j1 : (0 : Int) ≤ (k : Int) := by omega
      have j2 : (k : Int) < (n : Int) := by omega
      have w1 : IntKind.i64.wrap ((k : Int) + 1) = (k : Int) + 1 := IntWalk.i64_in _ (by omega)
      clear hc
      cases ho : pr x with
      | true =>
        rw [ho] at hpred
        have HP := hide hpred
        have HI := hide (idxG_at pr l k x hx hnone.out ho)
        clear hpred ho hx
        go_wp2_with (go_at_call 52; refine HP.out.mono ?_; rintro e w2 ⟨rfl, hb9⟩)
        go_ret
        exact ⟨ret_int HI.out.symm, hbel.out.trans (hb9.mono hbel.out.size)⟩
      | false =>
        rw [ho] at hpred
        have HP := hide hpred
        have HIn : Hid (∀ y ∈ l.take (k + 1), pr y = false) := by
          intro y hy
          rw [List.take_add_one, hx] at hy
          rcases List.mem_append.1 hy with hy | hy
          · exact hnone.out y hy
          · simp only [Option.toList_some, List.mem_singleton] at hy
            subst hy
            exact ho
        clear hpred ho hnone hx
        go_wp2_with (go_at_call 52; refine HP.out.mono ?_; rintro e w2 ⟨rfl, hb9⟩)
        have HB2 := hide (hbel.out.trans (hb9.mono hbel.out.size))
        clear hb9
        go_roundw
        case rel => exact ⟨k + 1, by omega, by go_num, HIn, HB2⟩
        case measure => simp [intOf]; omega
    · have hd : decide ((k : Int) < n) = false := by simp; omega
      have hd2 : decide (k < n) = false := by simp; omega
      have HI := hide (idxG_none pr l (fun y hy => hnone.out y (by rw [List.take_of_length_le (by rw [← Hn.out]; omega)]; exact hy)))
      go_wp2_with fail
      go_ret
      exact ⟨ret_int HI.out.symm, hbel.out⟩
set_option maxRecDepth 100000 in
set_option maxHeartbeats 12800000 in
theorem DeleteLag_c (base : Nat) (Iv : World → Prop) (pr : LagM → Bool) (p0 : Value) (HI : ∀ (w1 w2 : World), Iv w1 → Only (base ≤ ·) w1 w2 → Iv w2) (l : List LagM) (HP : ∀ (w' : World) (x : LagM), x ∈ l → Iv w' → Calls Tryz.prog 52 #[.agg #[.int .i64 x.id, .int .i64 x.step, .int .i64 x.gone, .int .i64 x.read, .int .i64 x.from_, .int .i64 x.match_], p0] w' fun e w2 => e = .returned (.bool (pr x)) ∧ Below w'.heap.size w' w2) (v : Value) (w : World) (hb0 : base ≤ w.heap.size) (hi : Iv w) (how : w.ownsRow base 96 6 v l.length (flat encLag l)) (hn0 : l.length ≤ 100000000) :
    Calls Tryz.prog 51 #[v, .func (.func 52) #[] #[p0]] w fun e w' => (∃ A1 c1, e = .returned (.slice A1 (keepL pr l).length c1) ∧ Rd w' NoBlk A1 (flat encLag (keepL pr l))) ∧ Only (base ≤ ·) w w' := by
  obtain ⟨VA, vc, rfl, hvc⟩ := own_cap how
  have hr := Rd.of_own (M := NoBlk) how (fun _ h => h.elim)
  have HIdx := hide (IndexLag_c base Iv pr p0 HI l HP VA vc w hb0 hi hr (by simp only [maxLen]; omega))
  have HPr := hide (fun (w' : World) (hb : Only (base ≤ ·) w w') (x : LagM) (hxm : x ∈ l) => HP w' x hxm (HI w w' hi hb))
  have HOw := hide how
  have HR := hide hr
  rcases idxG_or pr l with ⟨hm, hno⟩ | ⟨k0, hk0, hm, hno⟩
  · rw [hm] at HIdx
    have HK := hide (keep_none hno)
    clear hm hno how hr HP HI hi HPr hb0
    go_enter Tryz.func51, Tryz.ntmps51
    go_wp2_with fail
    refine HIdx.out.mono ?_
    rintro e w1 ⟨rfl, hb1⟩
    have HB1 := hide hb1
    clear hb1
    go_wp2_with fail
    go_ret
    rw [HK.out]
    exact ⟨⟨VA, vc, rfl, HR.out.below HB1.out⟩, Only.of_below HB1.out _⟩
  · have hlp : 0 < l.length := by omega
    obtain ⟨g, c, hveq, hgb, hnc, hcm, hdel⟩ := del_of_own how hlp rfl encLag_len
    injection hveq with h1 _ h2
    subst h1 h2
    obtain ⟨c, hcc⟩ : ∃ c, c = vc := ⟨_, rfl⟩
    subst hcc
    have hD0 := hdel k0 (k0 + 1) (by omega) (by omega)
    have hK0 : keepL pr (l.take k0) = l.take k0 := keep_none hno
    obtain ⟨x0, hx0⟩ : ∃ x, l[k0]? = some x := ⟨l[k0], List.getElem?_eq_getElem _⟩
    have hp0 : pr x0 = true := by
      have h1 := hm
      unfold idxG at h1
      split at h1
      · rename_i ha
        have hf : l.findIdx pr < l.length := List.findIdx_lt_length.2 (by simpa using List.any_eq_true.1 ha)
        have : l.findIdx pr = k0 := by omega
        subst this
        have := List.findIdx_getElem (p := pr) (xs := l) (w := hf)
        rw [List.getElem?_eq_getElem hf] at hx0
        injection hx0 with hx0
        rw [← hx0]; exact this
      · omega
    have hKs := keep_succ pr l k0 x0 hx0
    rw [hK0, if_pos hp0, List.append_nil] at hKs
    rw [hm] at HIdx
    have HKp := hide (show ∀ (q : Nat) (x : LagM), l[q]? = some x → keepL pr (l.take (q + 1)) = keepL pr (l.take q) ++ (if pr x = true then [] else [x]) from fun q x hx => keep_succ pr l q x hx)
    have HLast := hide (show keepL pr (l.take l.length) = keepL pr l by rw [List.take_length])
    have HKl := hide (show (l.take k0).length = k0 by rw [List.length_take]; omega)
    rw [← hKs] at hD0 HKl
    obtain ⟨n, hnl⟩ : ∃ n, n = l.length := ⟨_, rfl⟩
    rw [← hnl] at hD0 HIdx HLast hk0 hlp hn0 hnc ⊢
    have Hn := hide hnl
    have HD0 := hide hD0
    have HGL := hide (show ∀ q, q < n → ∃ x, l[q]? = some x from fun q hq => ⟨l[q]'(by rw [← hnl]; exact hq), List.getElem?_eq_getElem _⟩)
    have hcm' : c ≤ 9223372036854775807 := hcm
    have w0 : IntKind.i64.wrap ((k0 : Int) + 1) = ((k0 + 1 : Nat) : Int) := by rw [IntWalk.i64_in _ (by omega)]; omega
    clear hm hno how hr HP HI hi hdel hK0 hx0 hp0 hKs hD0 hnl HOw HR hcm hb0
    have e0 : ((k0 : Int) == -1) = false := by simp
    go_enter Tryz.func51, Tryz.ntmps51
    go_wp2_with fail
    refine HIdx.out.mono ?_
    rintro e w1 ⟨rfl, hb1⟩
    have HD1 := hide (HD0.out.only (Only.of_below hb1 NoBlk) (fun h => h))
    have HO1 := hide (Only.of_below hb1 (base ≤ ·))
    clear hb1
    go_wp2_with fail
    go_loopw [5, 6] (fun i j wr => ∃ k q : Nat, k < q ∧ q ≤ n ∧ i = .int .i64 k ∧ j = .int .i64 q ∧ Hid ((keepL pr (l.take q)).length = k) ∧ Hid (DelAt encLag 6 wr g n k q (keepL pr (l.take q)) l) ∧ Hid (Only (base ≤ ·) w wr)) (fun _ j _ => n - (intOf j).toNat)
    case atStart => exact ⟨k0, k0 + 1, by omega, by omega, rfl, rfl, HKl, HD1, HO1⟩
    case round =>
      clear HD0 HD1 HO1 HKl w0 hk0 e0
      obtain ⟨k, q, hkq, hqn, rfl, rfl, HL, HD, HO⟩ := hrel
      by_cases hlt : q < n
      · obtain ⟨x, hx⟩ := HGL.out q hlt
        have hcell := fun j hj => HD.out.at_ encLag_len x hx hlt j hj
        have hpred := HPr.out (wr.alloc (.cells #[.int .i64 x.id, .int .i64 x.step, .int .i64 x.gone, .int .i64 x.read, .int .i64 x.from_, .int .i64 x.match_] 96)) (HO.out.alloc _) x (List.mem_of_getElem? hx)
        have HKq := hide (HKp.out q x hx)
        have g0 : wr.cell? ⟨g, q * 6, none⟩ = some (.int .i64 x.id) := hcell 0 (by omega)
        have g1 : wr.cell? ⟨g, q * 6 + 1, none⟩ = some (.int .i64 x.step) := hcell 1 (by omega)
        have g2 : wr.cell? ⟨g, q * 6 + 2, none⟩ = some (.int .i64 x.gone) := hcell 2 (by omega)
        have g3 : wr.cell? ⟨g, q * 6 + 3, none⟩ = some (.int .i64 x.read) := hcell 3 (by omega)
        have g4 : wr.cell? ⟨g, q * 6 + 4, none⟩ = some (.int .i64 x.from_) := hcell 4 (by omega)
        have g5 : wr.cell? ⟨g, q * 6 + 5, none⟩ = some (.int .i64 x.match_) := hcell 5 (by omega)
        obtain ⟨W2, hW2⟩ : ∃ W2, W2 = wr.alloc (.cells #[.int .i64 x.id, .int .i64 x.step, .int .i64 x.gone, .int .i64 x.read, .int .i64 x.from_, .int .i64 x.match_] 96) := ⟨_, rfl⟩
        have HD2 := hide (show DelAt encLag 6 W2 g n k q (keepL pr (l.take q)) l by rw [hW2]; exact HD.out.only ((Only.refl NoBlk _).alloc _) (fun h => h))
        have HO2 := hide (show Only (base ≤ ·) w W2 by rw [hW2]; exact HO.out.alloc _)
        obtain ⟨xg, hxg⟩ : ∃ xg, xg = wr.heap.size := ⟨_, rfl⟩
        have HX2 := hide (show Blk W2 xg 96 #[.int .i64 x.id, .int .i64 x.step, .int .i64 x.gone, .int .i64 x.read, .int .i64 x.from_, .int .i64 x.match_] by rw [hW2, hxg]; exact Blk.new _ _ _)
        have hxl : ¬ xg = g := by have := HD.out.lt; omega
        have hxl2 : ¬ g = xg := fun h => hxl h.symm
        rw [← hW2] at hpred
        have HW2 := hide hW2
        have HXg := hide hxg
        have d1 : decide ((q : Int) < (n : Int)) = true := by simp; exact hlt
        have d2 : decide (q < n) = true := by simp; exact hlt
        have j1 : (0 : Int) ≤ (q : Int) := by omega
        have j2 : (q : Int) < (n : Int) := by omega
        have w1 : IntKind.i64.wrap ((q : Int) + 1) = (q : Int) + 1 := IntWalk.i64_in _ (by omega)
        have w2' : IntKind.i64.wrap ((k : Int) + 1) = (k : Int) + 1 := IntWalk.i64_in _ (by omega)
        have i1 : (0 : Int) ≤ (k : Int) := by omega
        have i2 : (k : Int) < (n : Int) := by omega
        clear hcell hW2 hxg
        cases ho : pr x with
        | true =>
          rw [ho] at hpred HKq
          have HP := hide hpred
          have HK1 := hide (show keepL pr (l.take (q + 1)) = keepL pr (l.take q) by rw [HKq.out]; simp)
          clear hpred ho hx
          go_upto_region 8 with fail
          rw [← HW2.out, ← HXg.out]
          obtain ⟨y0, y1, y2, y3, y4, y5⟩ := HX2.out.cellsLag
          clear g0 g1 g2 g3 g4 g5
          go_wp2_with (go_at_call 52; refine HP.out.mono ?_; rintro e w3 ⟨rfl, hb3⟩)
          have HD3 := hide (show DelAt encLag 6 w3 g n k (q + 1) (keepL pr (l.take (q + 1))) l by rw [HK1.out]; exact (HD2.out.only (Only.of_below hb3 NoBlk) (fun h => h)).skip)
          have HO3 := hide (HO2.out.trans (Only.of_below hb3 (base ≤ ·)))
          have HL3 := hide (show (keepL pr (l.take (q + 1))).length = k by rw [HK1.out]; exact HL.out)
          clear hb3
          go_roundw
          case rel => exact ⟨k, q + 1, by omega, by omega, rfl, by go_num, HL3, HD3, HO3⟩
          case measure => simp [intOf]; omega
        | false =>
          rw [ho] at hpred HKq
          have HP := hide hpred
          have HK1 := hide (show keepL pr (l.take (q + 1)) = keepL pr (l.take q) ++ [x] by rw [HKq.out]; simp)
          have HXq := hide hx
          clear hpred ho hx
          go_upto_region 8 with fail
          rw [← HW2.out, ← HXg.out]
          obtain ⟨y0, y1, y2, y3, y4, y5⟩ := HX2.out.cellsLag
          clear g0 g1 g2 g3 g4 g5
          go_upto_region 9 with (go_at_call 52; refine HP.out.mono ?_; rintro e w3 ⟨rfl, hb3⟩)
          have HD3 := hide (HD2.out.only (Only.of_below hb3 NoBlk) (fun h => h))
          have HO3 := hide (HO2.out.trans (Only.of_below hb3 (base ≤ ·)))
          have HX3 := hide (HX2.out.below hb3)
          clear hb3 y0 y1 y2 y3 y4 y5
          obtain ⟨y0, y1, y2, y3, y4, y5⟩ := HX3.out.cellsLag
          obtain ⟨u0, c0⟩ := HD3.out.some_ (show k < n by omega) 0 (by omega)
          obtain ⟨u1, c1⟩ := HD3.out.some_ (show k < n by omega) 1 (by omega)
          obtain ⟨u2, c2⟩ := HD3.out.some_ (show k < n by omega) 2 (by omega)
          obtain ⟨u3, c3⟩ := HD3.out.some_ (show k < n by omega) 3 (by omega)
          obtain ⟨u4, c4⟩ := HD3.out.some_ (show k < n by omega) 4 (by omega)
          obtain ⟨u5, c5⟩ := HD3.out.some_ (show k < n by omega) 5 (by omega)
          have f0 := HD3.out.fr (k * 6 + 0)
          have f1 := HD3.out.fr (k * 6 + 1)
          have f2 := HD3.out.fr (k * 6 + 2)
          have f3 := HD3.out.fr (k * 6 + 3)
          have f4 := HD3.out.fr (k * 6 + 4)
          have f5 := HD3.out.fr (k * 6 + 5)
          simp only [Nat.add_zero] at c0 f0
          have HD4 := hide (HD3.out.store encLag_len HL.out x HXq.out hkq hlt)
          rw [← HK1.out] at HD4
          have HO4 := hide (HO3.out.trans ((only_setCells g (encLag x) (k * 6) w3).mono (fun i _ hi => by have : i = g := hi; show base ≤ i; omega)))
          have HL4 := hide (show (keepL pr (l.take (q + 1))).length = k + 1 by rw [HK1.out, List.length_append, HL.out]; rfl)
          go_wp2_with fail
          rw [storeLag]
          go_roundw
          case rel => exact ⟨k + 1, q + 1, by omega, by omega, by go_num, by go_num, HL4, HD4, HO4⟩
          case measure => simp [intOf]; omega
      · obtain rfl : q = n := by omega
        have d1 : decide ((q : Int) < (q : Int)) = false := by simp
        have d2 : decide (q < q) = false := by simp
        have i1 : (0 : Int) ≤ (k : Int) := by omega
        have i2 : (k : Int) ≤ (q : Int) := by omega
        have i3 : (k : Int) ≤ (c : Int) := by omega
        have i4 : ¬ k = c := by omega
        have i5 : ¬ c = k := by omega
        obtain ⟨vs, hcl⟩ := run_clear_rows (P := Tryz.prog) wr 47 96 (.agg #[.int .i64 0, .int .i64 0, .int .i64 0, .int .i64 0, .int .i64 0, .int .i64 0]) [.int .i64 0, .int .i64 0, .int .i64 0, .int .i64 0, .int .i64 0, .int .i64 0] Tryz.underlying47 Tryz.zeroLag rfl (by simp) (by intro u hu; simp at hu; first | (rcases hu with rfl | rfl <;> rfl) | (subst hu; rfl) | (rcases hu with rfl | rfl | rfl | rfl | rfl | rfl | rfl <;> rfl)) g (k * 6) (q - k) (c - k) (by omega)
          (fun j hj => HD.out.so _ (by simp only [List.length_cons, List.length_nil] at hj; rw [Nat.sub_mul] at hj; omega)) (fun j hj => HD.out.fr _)
        have HRd := hide (HD.out.cleared encLag_len HL.out vs)
        rw [HLast.out] at HRd HL
        have HO5 := hide (HO.out.trans ((only_setCells g vs (k * 6) wr).mono (fun i _ hi => by have : i = g := hi; show base ≤ i; omega)))
        clear HD HO HKp HGL HPr HIdx
        go_wp2_with (simp only [hcl])
        trace_state
        go_ret
        exact ⟨⟨_, c, by rw [HL.out]; rfl, HRd.out⟩, HO5.out⟩
end Go.Proofs.YtdmdohjdmnmabaaGreat
namespace Go.Proofs.YtdmdohjdmnmabaaGreat
set_option linter.unusedVariables false

/-- how one waited -/
structure WtM where
  id : Int
  op : Int
  from_ : Int
  until_ : Int
  done : Bool
  at_ : Int
  what : Int
def wt0 : WtM := ⟨0, 0, 0, 0, false, 0, 0⟩
def encWt (x : WtM) : List Value := [.int .i64 x.id, .int .i64 x.op, .int .i64 x.from_, .int .i64 x.until_, .bool x.done, .int .i64 x.at_, .int .i64 x.what]
theorem encWt_len (x : WtM) : (encWt x).length = 7 := rfl
theorem encWt_one (x : WtM) : ∀ u ∈ encWt x, u.oneCell' = true := by intro u hu; simp [encWt] at hu; rcases hu with rfl | rfl | rfl | rfl | rfl | rfl | rfl <;> rfl
def untilM (now n : Int) : Int := if n = 9223372036854775807 then 9223372036854775807 else addT now n
def beginB (p : ProgM) (op : Int) : Bool := (decide (0 ≤ op) && decide (op < p.ops.length)) && decide ((p.ops.getD op.toNat opM0).kind = 2)
def beginW (p : ProgM) (id op now : Int) : WtM := if beginB p op = true then ⟨id, op, now, untilM now (p.ops.getD op.toNat opM0).n, false, 0, 0⟩ else wt0
def closeW (w : WtM) (x : Stp) : WtM := { w with done := true, at_ := x.tick, what := x.what }
def isLook (x : Stp) : Bool := decide (x.what = 1) || decide (x.what = 5)
/-- the program's walk: what was told so far, the wait at hand, whether there is one -/
structure WkM where
  out : List WtM
  w : WtM
  on : Bool
def wk0 (p : ProgM) (id start : Int) : WkM := ⟨[], beginW p id 0 start, beginB p 0⟩
def wkStep (p : ProgM) (id : Int) (f : WkM) (x : Stp) : WkM :=
  if isLook x = true then f else ⟨if f.on = true then f.out ++ [closeW f.w x] else f.out, beginW p id (nextM p x) x.tick, beginB p (nextM p x)⟩
def wkEnd (f : WkM) : List WtM := if f.on = true then f.out ++ [f.w] else f.out
def lifeW (p : ProgM) (id start : Int) (l : List Stp) : List WtM := wkEnd (l.foldl (wkStep p id) (wk0 p id start))
/-- the document's words -/
def closeD (w : WtM) (r : List Stp) : WtM := match r.find? (fun x => !isLook x) with | none => w | some x => closeW w x
def placeD (p : ProgM) (id op now : Int) (r : List Stp) : List WtM := if beginB p op = true then [closeD (beginW p id op now) r] else []
def restD (p : ProgM) (id : Int) : List Stp → List WtM
  | [] => []
  | x :: r => (if 0 ≤ NextM p x then placeD p id (NextM p x) x.tick r else []) ++ restD p id r
def docW (p : ProgM) (id start : Int) (l : List Stp) : List WtM := placeD p id 0 start l ++ restD p id l
theorem restD_cons (p : ProgM) (id : Int) (x : Stp) (r : List Stp) : restD p id (x :: r) = (if 0 ≤ NextM p x then placeD p id (NextM p x) x.tick r else []) ++ restD p id r := rfl
theorem begin_neg {p : ProgM} {op : Int} (h : op < 0) : beginB p op = false := by
  unfold beginB
  rw [show decide (0 ≤ op) = false by simp; omega]
  rfl
theorem next_look {p : ProgM} {x : Stp} (h : isLook x = true) : nextM p x = -1 := by
  unfold isLook at h
  simp only [Bool.or_eq_true, decide_eq_true_eq] at h
  unfold nextM
  split
  · rfl
  · unfold leadsM
    rw [if_neg (by omega), if_neg (by omega)]
    split
    · rfl
    · rw [if_neg (by omega), if_neg (by omega), if_neg (by omega)]
theorem wk_doc (p : ProgM) (id : Int) (hg : goodM p = true) : ∀ (l : List Stp) (out : List WtM) (op now : Int),
    wkEnd (l.foldl (wkStep p id) ⟨out, beginW p id op now, beginB p op⟩) = out ++ placeD p id op now l ++ restD p id l := by
  intro l
  induction l with
  | nil =>
    intro out op now
    unfold wkEnd placeD restD closeD
    cases beginB p op <;> simp
  | cons x r ih =>
    intro out op now
    have hN : NextM p x = nextM p x := by unfold NextM; rw [if_pos hg]
    simp only [List.foldl_cons]
    cases hl : isLook x with
    | true =>
      have e : wkStep p id ⟨out, beginW p id op now, beginB p op⟩ x = ⟨out, beginW p id op now, beginB p op⟩ := by unfold wkStep; rw [if_pos hl]
      rw [e, ih]
      have e2 : placeD p id op now (x :: r) = placeD p id op now r := by
        unfold placeD closeD
        simp [hl]
      have e3 : restD p id (x :: r) = restD p id r := by
        rw [restD_cons, hN, next_look hl]
        simp
      rw [e2, e3]
    | false =>
      have e : wkStep p id ⟨out, beginW p id op now, beginB p op⟩ x = ⟨if beginB p op = true then out ++ [closeW (beginW p id op now) x] else out, beginW p id (nextM p x) x.tick, beginB p (nextM p x)⟩ := by unfold wkStep; rw [if_neg (by rw [hl]; simp)]
      rw [e, ih]
      have e2 : (if beginB p op = true then out ++ [closeW (beginW p id op now) x] else out) = out ++ placeD p id op now (x :: r) := by
        unfold placeD closeD
        cases beginB p op <;> simp [hl]
      have e3 : restD p id (x :: r) = placeD p id (nextM p x) x.tick r ++ restD p id r := by
        rw [restD_cons, hN]
        by_cases h0 : 0 ≤ nextM p x
        · rw [if_pos h0]
        · rw [if_neg h0]
          unfold placeD
          rw [begin_neg (by omega)]
          simp
      rw [e2, e3]
      simp
theorem lifeW_doc (p : ProgM) (id start : Int) (l : List Stp) (hg : goodM p = true) : lifeW p id start l = docW p id start l := by
  unfold lifeW wk0 docW
  rw [wk_doc p id hg l [] 0 start]
  simp
end Go.Proofs.YtdmdohjdmnmabaaGreat
