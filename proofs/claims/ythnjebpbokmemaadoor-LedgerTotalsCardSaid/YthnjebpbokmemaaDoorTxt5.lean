/- A row's line by the program. Conditions: those of each theorem. -/
import Derived.Test.YthnjebpbokmemaaDoorTxt4
import Derived.Test.YthnjebpbokmemaaDoorRefIds
namespace Go.Proofs.YthnjebpbokmemaaDoor
open Go.RowKit
set_option linter.unusedVariables false

theorem word_c (n : Int) (g : Nat) (w : World) (hb : Blk w g 9 stV) : Calls Tryd.prog 40 #[.slice (some ⟨g, 0, none⟩) 6 6, .int .i64 n] w fun e w' => e = .returned (.string (stS n)) ∧ w' = w := by
  by_cases h0 : n < 0
  · have HN := hide (show stS n = ⟨#[]⟩ by unfold stS statusT; rw [if_neg (by omega)])
    have d0 : decide (n < 0) = true := by simpa using h0
    clear hb
    go_enter Tryd.func40, Tryd.ntmps40
    go_wp2_with fail
    go_ret
    exact ⟨by rw [HN.out]; rfl, rfl⟩
  · have d0 : decide (n < 0) = false := by simpa using h0
    by_cases h5 : 6 ≤ n
    · have HN := hide (show stS n = ⟨#[]⟩ by unfold stS statusT; rw [if_neg (by omega)])
      have d1 : decide (6 ≤ n) = true := by simpa using h5
      clear hb
      go_enter Tryd.func40, Tryd.ntmps40
      go_wp2_with fail
      go_ret
      exact ⟨by rw [HN.out]; rfl, rfl⟩
    · have d1 : decide (6 ≤ n) = false := by simp; omega
      have HN := hide (show bs (stL.getD n.toNat []) = stS n by unfold stS statusT; rw [if_pos (by omega)])
      obtain ⟨k, rfl⟩ : ∃ k : Nat, n = k := ⟨n.toNat, by omega⟩
      rw [Int.toNat_natCast] at HN
      have hk : k < 6 := by omega
      have hc : w.cell? ⟨g, k, none⟩ = some (.string (bs (stL.getD k []))) := by rw [hb.cell]; exact stV_at k hk
      have k1 : (0 : Int) ≤ (k : Int) := by omega
      have k2 : (k : Int) < 6 := by omega
      clear h0 h5 hb
      go_enter Tryd.func40, Tryd.ntmps40
      go_wp2_with fail
      go_ret
      exact ⟨by rw [← HN.out]; rfl, rfl⟩
theorem statuses_c (w : World) : Calls Tryd.prog 41 #[] w fun e w' => e = .returned (.slice (some ⟨w.heap.size, 0, none⟩) 6 6) ∧ w' = w.alloc (.cells stV 9) := by
  go_enter Tryd.func41, Tryd.ntmps41
  go_wp2_with fail
  go_ret
  exact ⟨rfl, rfl⟩
theorem Status_c (n : Int) (w : World) : Calls Tryd.prog 29 #[.int .i64 n] w fun e w' => e = .returned (.string (stS n)) ∧ Below w.heap.size w w' := by
  have HC := hide (statuses_c w)
  have HW := hide (word_c n w.heap.size (w.alloc (.cells stV 9)) (Blk.new _ _ _))
  have HL := hide (below_alloc w (.cells stV 9))
  go_enter Tryd.func29, Tryd.ntmps29
  go_wp2_with fail
  refine HC.out.mono ?_
  rintro e w1 ⟨rfl, rfl⟩
  go_wp2_with fail
  refine HW.out.mono ?_
  rintro e w1 ⟨rfl, rfl⟩
  go_wp2_with fail
  go_ret
  exact ⟨rfl, HL.out⟩
theorem Itoa_i (n : Int) (w : World) (h : I64 n) (ht : Tab w) : Calls Tryd.prog 30 #[.int .i64 n] w fun e w' => e = .returned (.string (itS n)) ∧ Below w.heap.size w w' := Itoa_c n w h.1 h.2 ht
theorem Text_i (n : Int) (w : World) (h : I64 n) (ht : Tab w) : Calls Tryd.prog 31 #[.int .i64 n] w fun e w' => e = .returned (.string (tkS n)) ∧ Below w.heap.size w w' := Text_c n w h.2 ht
def encS (s : ByteArray) : List Value := [.string s]
theorem flat_encS (l : List ByteArray) : flat encS l = l.map Value.string := by
  induction l with
  | nil => rfl
  | cons a l ih => rw [flat_cons, ih]; rfl
theorem own_blk {w : World} {g base : Nat} {e : TypeId} {xs : List Value} (h : Blk w g e xs.toArray) (hb : base ≤ g) (hm : xs.length ≤ maxLen) : w.ownsRow base e 1 (.slice (some ⟨g, 0, none⟩) xs.length xs.length) xs.length xs :=
  ⟨by simp, Or.inr ⟨g, xs.length, xs.toArray, rfl, hb, h, Nat.le_refl _, hm, by simp, by simp⟩⟩
theorem Tryd.infoStr : (Tryd.prog.info? 9).map (fun i => (i.zero, i.size, i.bytes)) = some (some (.string ⟨#[]⟩), 1, 16) := by kernel_rfl
/-- the numbers in the midst of a row's line -/
def midL (a3 a4 a5 a6 a7 : Int) : List Int := [a3, a4, a5, a6, a7]
theorem mid_ok {a3 a4 a5 a6 a7 : Int} (h3 : I64 a3) (h4 : I64 a4) (h5 : I64 a5) (h6 : I64 a6) (h7 : I64 a7) (k : Nat) (hk : k < 5) : I64 (nth (midL a3 a4 a5 a6 a7) k) ∧ (#[.int .i64 a3, .int .i64 a4, .int .i64 a5, .int .i64 a6, .int .i64 a7] : Array Value)[k]? = some (.int .i64 (nth (midL a3 a4 a5 a6 a7) k)) ∧ (midL a3 a4 a5 a6 a7).take (k + 1) = (midL a3 a4 a5 a6 a7).take k ++ [nth (midL a3 a4 a5 a6 a7) k] := by
  rcases k with _ | _ | _ | _ | _ | k
  · exact ⟨h3, rfl, rfl⟩
  · exact ⟨h4, rfl, rfl⟩
  · exact ⟨h5, rfl, rfl⟩
  · exact ⟨h6, rfl, rfl⟩
  · exact ⟨h7, rfl, rfl⟩
  · omega
theorem join_len (x sep : List UInt8) : ∀ (r : List (List UInt8)) (b : Nat), (∀ y ∈ r, y.length ≤ b) → (Lib.joinTail sep r).length ≤ r.length * (sep.length + b)
  | [], b, _ => by simp [Lib.joinTail]
  | y :: r, b, h => by
    have ih := join_len x sep r b (fun z hz => h z (by simp [hz]))
    have hy := h y (by simp)
    unfold Lib.joinTail at ih ⊢
    rw [List.map_cons, List.flatten_cons, List.length_append, List.length_append, List.length_cons, Nat.add_mul]
    omega
theorem told_len (n : Int) : (toldT n).length ≤ 21 := by
  unfold toldT
  split
  · simp
  · exact Nat.le_trans (statusT_len n) (by omega)
theorem line_len (r : RowM) (h : RowOk r) : (lineT r).length ≤ 240 := by
  have i1 := fun (n : Int) (h : I64 n) => itoa_len h.1 h.2
  have i2 := fun (n : Int) (h : I64 n) => tickT_len h.2
  unfold lineT partsT
  rw [Lib.join_cons, List.length_append]
  have e0 := i1 _ h.id
  have e1 := join_len [] [32] [Lib.itoa r.script, tickT r.from_, Lib.itoa r.steps, Lib.itoa r.looks, Lib.itoa r.jumps, Lib.itoa r.read, Lib.itoa r.taken, toldT r.status, tickT r.end_] 21 (by
    intro y hy
    simp only [List.mem_cons, List.not_mem_nil, or_false] at hy
    rcases hy with rfl | rfl | rfl | rfl | rfl | rfl | rfl | rfl | rfl
    · exact i1 _ h.script
    · exact i2 _ h.from_
    · exact i1 _ h.steps
    · exact i1 _ h.looks
    · exact i1 _ h.jumps
    · exact i1 _ h.read
    · exact i1 _ h.taken
    · exact told_len _
    · exact i2 _ h.end_)
  simp only [List.length_cons, List.length_nil] at e1
  omega
/-- the texts of a row's line -/
def lineB (a0 a1 a2 a3 a4 a5 a6 a7 a9 : Int) (t : ByteArray) : List ByteArray := [itS a0, itS a1, tkS a2] ++ (midL a3 a4 a5 a6 a7).map itS ++ [t, tkS a9]
theorem line_join (a0 a1 a2 a3 a4 a5 a6 a7 a8 a9 : Int) (t : ByteArray) (ht : t = bs (toldT a8)) : Lib.join ((lineB a0 a1 a2 a3 a4 a5 a6 a7 a9 t).map (·.data.toList)) [32] = lineT ⟨a0, a1, a2, a3, a4, a5, a6, a7, a8, a9⟩ := by
  subst ht
  unfold lineT partsT lineB midL itS tkS
  rfl
set_option maxRecDepth 100000 in
set_option maxHeartbeats 3200000 in
theorem line_c (r : RowM) (w : World) (hr : RowOk r) (ht : Tab w) : Calls Tryd.prog 17 #[.agg (rowV r)] w fun e w' => e = .returned (.string (bs (lineT r))) ∧ Below w.heap.size w w' := by
  have hlen := line_len r hr
  obtain ⟨h0, h1, h2, h3, h4, h5, h6, h7, h8, h9⟩ := hr
  obtain ⟨a0, a1, a2, a3, a4, a5, a6, a7, a8, a9⟩ := r
  replace h0 : I64 a0 := h0
  replace h1 : I64 a1 := h1
  replace h2 : I64 a2 := h2
  replace h3 : I64 a3 := h3
  replace h4 : I64 a4 := h4
  replace h5 : I64 a5 := h5
  replace h6 : I64 a6 := h6
  replace h7 : I64 a7 := h7
  replace h8 : I64 a8 := h8
  replace h9 : I64 a9 := h9
  have HJ := hide (fun t ht => line_join a0 a1 a2 a3 a4 a5 a6 a7 a8 a9 t ht)
  have Hmid := hide (fun k hk => mid_ok h3 h4 h5 h6 h7 k hk)
  have hst := stS_nil a8
  obtain ⟨i0, hi, hz0, hz1, hz2⟩ := info_parts Tryd.infoStr
  obtain ⟨W, hW⟩ : ∃ W, W = w.alloc (.cells #[.int .i64 a0, .int .i64 a1, .int .i64 a2, .int .i64 a3, .int .i64 a4, .int .i64 a5, .int .i64 a6, .int .i64 a7, .int .i64 a8, .int .i64 a9] 23) := ⟨_, rfl⟩
  have hL : Below w.heap.size w W := by rw [hW]; exact below_alloc _ _
  have hb : Blk W w.heap.size 23 #[.int .i64 a0, .int .i64 a1, .int .i64 a2, .int .i64 a3, .int .i64 a4, .int .i64 a5, .int .i64 a6, .int .i64 a7, .int .i64 a8, .int .i64 a9] := by rw [hW]; exact Blk.new _ _ _
  have HT := hide (ht.below hL)
  have HW := hide hW
  have HL := hide hL
  have HB := hide hb
  have Qs := hide (fun (w : World) => Status_c a8 w)
  clear hW hL hb ht
  cases q : (stS a8).toList.isEmpty with
  | true =>
    have htold : (⟨#[63]⟩ : ByteArray) = bs (toldT a8) := by
      rw [hst] at q
      unfold toldT
      rw [if_pos (by simpa using q)]
    have HJ2 := hide (HJ.out _ htold)
    clear htold hst
    go_enter Tryd.func17, Tryd.ntmps17
    go_upto_region 1 with fail
    change Code.wp _ _ _ _ (w.alloc (.cells #[.int .i64 a0, .int .i64 a1, .int .i64 a2, .int .i64 a3, .int .i64 a4, .int .i64 a5, .int .i64 a6, .int .i64 a7, .int .i64 a8, .int .i64 a9] 23))
    rw [← HW.out]
    have y0 : W.cell? ⟨w.heap.size, 0, none⟩ = some (.int .i64 a0) := by rw [HB.out.cell]; rfl
    have y1 : W.cell? ⟨w.heap.size, 1, none⟩ = some (.int .i64 a1) := by rw [HB.out.cell]; rfl
    have y2 : W.cell? ⟨w.heap.size, 2, none⟩ = some (.int .i64 a2) := by rw [HB.out.cell]; rfl
    have y3 : W.cell? ⟨w.heap.size, 3, none⟩ = some (.int .i64 a3) := by rw [HB.out.cell]; rfl
    have y4 : W.cell? ⟨w.heap.size, 4, none⟩ = some (.int .i64 a4) := by rw [HB.out.cell]; rfl
    have y5 : W.cell? ⟨w.heap.size, 5, none⟩ = some (.int .i64 a5) := by rw [HB.out.cell]; rfl
    have y6 : W.cell? ⟨w.heap.size, 6, none⟩ = some (.int .i64 a6) := by rw [HB.out.cell]; rfl
    have y7 : W.cell? ⟨w.heap.size, 7, none⟩ = some (.int .i64 a7) := by rw [HB.out.cell]; rfl
    have y8 : W.cell? ⟨w.heap.size, 8, none⟩ = some (.int .i64 a8) := by rw [HB.out.cell]; rfl
    have y9 : W.cell? ⟨w.heap.size, 9, none⟩ = some (.int .i64 a9) := by rw [HB.out.cell]; rfl
    go_wp2_with fail
    refine (Qs.out _).mono ?_
    rintro e w1 ⟨rfl, hb1⟩
    have HB1 := hide hb1
    replace y0 := bkeep hb1 y0
    replace y1 := bkeep hb1 y1
    replace y2 := bkeep hb1 y2
    replace y3 := bkeep hb1 y3
    replace y4 := bkeep hb1 y4
    replace y5 := bkeep hb1 y5
    replace y6 := bkeep hb1 y6
    replace y7 := bkeep hb1 y7
    replace y8 := bkeep hb1 y8
    replace y9 := bkeep hb1 y9
    clear hb1
    go_upto_region 4 with fail
    go_cut [4] from 12 to 21 (fun v wx => ∃ g : Nat, v = .slice (some ⟨g, 0, none⟩) 3 3 ∧ W.heap.size ≤ g ∧ Hid (Blk wx g 9 (flat encS [itS a0, itS a1, tkS a2]).toArray) ∧ Hid (Below W.heap.size W wx))
    case first =>
      have HC := hide (below_drew' HB1.out)
      have HTc := hide (HT.out.below HC.out)
      go_region_held3 (fun w' => w'.cell? ⟨w.heap.size, 0, none⟩ = some (.int .i64 a0) ∧ w'.cell? ⟨w.heap.size, 1, none⟩ = some (.int .i64 a1) ∧ w'.cell? ⟨w.heap.size, 2, none⟩ = some (.int .i64 a2)) (go_keep)
        (first
          | (go_at_call 30
             refine (Itoa_i _ _ (by assumption) HTc.out).mono ?_
             rintro e wn ⟨rfl, hbn⟩
             replace HC := hide (HC.out.trans (hbn.mono HC.out.size))
             replace HTc := hide (HTc.out.below hbn)
             replace y0 := bkeep hbn y0
             replace y1 := bkeep hbn y1
             replace y2 := bkeep hbn y2
             clear hbn)
          | (go_at_call 31
             refine (Text_i _ _ (by assumption) HTc.out).mono ?_
             rintro e wn ⟨rfl, hbn⟩
             replace HC := hide (HC.out.trans (hbn.mono HC.out.size))
             replace HTc := hide (HTc.out.below hbn)
             replace y0 := bkeep hbn y0
             replace y1 := bkeep hbn y1
             replace y2 := bkeep hbn y2
             clear hbn))
      all_goals
        go_wp2_with fail
        go_meet
        exact ⟨_, rfl, HC.out.size, hide (Blk.new _ _ _), hide (HC.out.alloc HC.out.size _)⟩
    case rest =>
      obtain ⟨g, rfl, hgW, hbg, HB2⟩ := hcut
      have hown2 := hide (own_blk hbg.out hgW (by simp [flat_encS, maxLen]))
      have y3 : wc.cell? ⟨w.heap.size, 3, none⟩ = some (.int .i64 a3) := by rw [(HB.out.below HB2.out).cell]; rfl
      have y4 : wc.cell? ⟨w.heap.size, 4, none⟩ = some (.int .i64 a4) := by rw [(HB.out.below HB2.out).cell]; rfl
      have y5 : wc.cell? ⟨w.heap.size, 5, none⟩ = some (.int .i64 a5) := by rw [(HB.out.below HB2.out).cell]; rfl
      have y6 : wc.cell? ⟨w.heap.size, 6, none⟩ = some (.int .i64 a6) := by rw [(HB.out.below HB2.out).cell]; rfl
      have y7 : wc.cell? ⟨w.heap.size, 7, none⟩ = some (.int .i64 a7) := by rw [(HB.out.below HB2.out).cell]; rfl
      clear y0 y1 y2
      have HI := hide (show Blk (wc.alloc (.cells #[.int .i64 a3, .int .i64 a4, .int .i64 a5, .int .i64 a6, .int .i64 a7] 3)) wc.heap.size 3 #[.int .i64 a3, .int .i64 a4, .int .i64 a5, .int .i64 a6, .int .i64 a7] from Blk.new _ _ _)
      have HO3 := hide (own_only hown2.out (Only.of_below (below_alloc wc (.cells #[.int .i64 a3, .int .i64 a4, .int .i64 a5, .int .i64 a6, .int .i64 a7] 3)) NoBlk) (fun _ _ h => h.elim))
      have HB3 := hide (HB2.out.alloc HB2.out.size (.cells #[.int .i64 a3, .int .i64 a4, .int .i64 a5, .int .i64 a6, .int .i64 a7] 3))
      clear hbg hown2
      go_wp2_with fail
      go_loopw [4, 34] (fun v i wr => ∃ k m : Nat, k ≤ 5 ∧ m = 3 + k ∧ i = .int .i64 k ∧ wr.ownsRow W.heap.size 9 1 v m (flat encS ([itS a0, itS a1, tkS a2] ++ ((midL a3 a4 a5 a6 a7).take k).map itS)) ∧ Hid (Blk wr wc.heap.size 3 #[.int .i64 a3, .int .i64 a4, .int .i64 a5, .int .i64 a6, .int .i64 a7]) ∧ Hid (Below W.heap.size W wr)) (fun _ i _ => 5 - (intOf i).toNat)
      case atStart => exact ⟨0, 3, by omega, rfl, rfl, HO3.out, HI, HB3⟩
      case round =>
        obtain ⟨k, m, hk, hm, rfl, hown, hbi, hbel⟩ := hrel
        by_cases hlt : k < 5
        · obtain ⟨hok, hcell0, htake⟩ := Hmid.out k hlt
          have g0 : wr.cell? ⟨wc.heap.size, k, none⟩ = some (.int .i64 (nth (midL a3 a4 a5 a6 a7) k)) := by rw [hbi.out.cell]; exact hcell0
          have Htk := hide htake
          obtain ⟨z, hz⟩ : ∃ z, z = nth (midL a3 a4 a5 a6 a7) k := ⟨_, rfl⟩
          rw [← hz] at hok g0 Htk
          clear hz hcell0 htake
          have HTr := hide (HT.out.below hbel.out)
          have j1 : (0 : Int) ≤ (k : Int) := by omega
          have j2 : (k : Int) < 5 := by omega
          have j3 : decide ((k : Int) < 5) = true := by simp; omega
          go_wp2_with fail
          refine (Itoa_i z wr hok HTr.out).mono ?_
          rintro e w4 ⟨rfl, hb4⟩
          have hown4 := own_only hown (Only.of_below hb4 NoBlk) (fun _ _ h => h.elim)
          have HI4 := hide (hbi.out.below hb4)
          have HB4 := hide (hbel.out.trans (hb4.mono hbel.out.size))
          have hrd : Rd (w4.alloc (.cells (encS (itS z)).toArray 9)) NoBlk (some ⟨w4.heap.size, 0, none⟩) (encS (itS z)) := rd_blkN (Blk.new _ _ _) (fun h => h)
          have Hrd := hide hrd
          have Hone := hide (show ∀ u ∈ encS (itS z), u.oneCell' = true by intro u hu; simp [encS] at hu; subst hu; rfl)
          clear hrd hb4 hown HTr g0
          go_wp2_with (first
            | (at_builtin; refine wpList_append_rd _ rfl (.tmp 38) (.tmp 41) _ rfl W.heap.size 9 i0 _ 1 16 Tryd.underlying69 hi hz0 hz1 hz2 rfl (by omega) _ m _ rfl (hown4.alloc _) NoBlk (some ⟨w4.heap.size, 0, none⟩) 1 1 (encS (itS z)) rfl Hrd.out rfl Hone.out (by simp only [maxLen]; omega) (by omega) (by have := HB4.out.size; simp; omega) ?_; intro v2 w5 hown5 hgr hat; have Own5 := hide hown5; have Gr := hide hgr; clear hown5 hgr hat))
          go_roundw
          case rel =>
            refine ⟨k + 1, m + 1, by omega, by omega, by go_num, ?_, ?_, ?_⟩
            · rw [Htk.out, List.map_append, ← List.append_assoc, flat_append]
              have := Own5.out
              simpa [flat] using this
            · exact hide ((HI4.out.alloc _).grown (hown4.alloc _) (by decide) Gr.out)
            · exact hide ((HB4.out.alloc HB4.out.size _).grown Gr.out (by have := HB4.out.size; simp; omega) (fun j hj => by have := own_ge hown4 j hj; omega))
          case measure => simp [intOf]; omega
        · have hke : k = 5 := by omega
          subst hke
          subst hm
          have y9 : wr.cell? ⟨w.heap.size, 9, none⟩ = some (.int .i64 a9) := by rw [(HB.out.below hbel.out).cell]; rfl
          have HTr := hide (HT.out.below hbel.out)
          have htk : (midL a3 a4 a5 a6 a7).take 5 = midL a3 a4 a5 a6 a7 := rfl
          rw [htk] at hown
          clear htk
          go_wp2_with fail
          refine (Text_i a9 wr h9 HTr.out).mono ?_
          rintro e w4 ⟨rfl, hb4⟩
          have hown4 := own_only hown (Only.of_below hb4 NoBlk) (fun _ _ h => h.elim)
          have HB4 := hide (hbel.out.trans (hb4.mono hbel.out.size))
          have hrd : Rd (w4.alloc (.cells (flat encS [(⟨#[63]⟩ : ByteArray), tkS a9]).toArray 9)) NoBlk (some ⟨w4.heap.size, 0, none⟩) (flat encS [(⟨#[63]⟩ : ByteArray), tkS a9]) := rd_blkN (Blk.new _ _ _) (fun h => h)
          have Hrd := hide hrd
          have Hone := hide (show ∀ u ∈ flat encS [(⟨#[63]⟩ : ByteArray), tkS a9], u.oneCell' = true by intro u hu; rw [flat_encS] at hu; simp at hu; rcases hu with rfl | rfl <;> rfl)
          clear hrd hb4 hown HTr y9
          go_wp2_with (first
            | (at_builtin; refine wpList_append_rd _ rfl (.tmp 44) (.tmp 49) _ rfl W.heap.size 9 i0 _ 1 16 Tryd.underlying69 hi hz0 hz1 hz2 rfl (by omega) _ (3 + 5) _ rfl (hown4.alloc _) NoBlk (some ⟨w4.heap.size, 0, none⟩) 2 2 (flat encS [(⟨#[63]⟩ : ByteArray), tkS a9]) rfl Hrd.out rfl Hone.out (by simp only [maxLen]; omega) (by omega) (by have := HB4.out.size; simp; omega) ?_; intro v2 w5 hown5 hgr hat; have Own5 := hide hown5; have Gr := hide hgr; clear hown5 hgr hat; obtain ⟨g6, c6, rfl, hc6⟩ := own_some Own5.out (by omega))
            | (go_at_call 32
               have hB5 := ((HB4.out.alloc HB4.out.size (.cells (flat encS [(⟨#[63]⟩ : ByteArray), tkS a9]).toArray 9)).grown Gr.out (by have := HB4.out.size; simp; omega) (fun j hj => by have := own_ge hown4 j hj; omega))
               have hr5 := Rd.of_own (M := NoBlk) Own5.out (fun k h => h.elim)
               obtain ⟨b7, o7, hA7, _, hb7, hc7⟩ := hr5.at_ (j := 0) (by rw [List.length_append, flat_encS, List.length_map, flat_encS, List.length_map]; simp [midL])
               injection hA7 with hA7
               injection hA7 with e7 e8 _
               subst e7; subst e8
               have hxs : (flat encS ([itS a0, itS a1, tkS a2] ++ (midL a3 a4 a5 a6 a7).map itS) ++ flat encS [(⟨#[63]⟩ : ByteArray), tkS a9]) = (lineB a0 a1 a2 a3 a4 a5 a6 a7 a9 (⟨#[63]⟩ : ByteArray)).map Value.string := by
                 rw [← flat_append, flat_encS]; rfl
               rw [hxs] at hc7
               have hll : (lineB a0 a1 a2 a3 a4 a5 a6 a7 a9 (⟨#[63]⟩ : ByteArray)).length = 3 + 5 + 2 := rfl
               have hJ := Tryd.strings_Join g6 0 c6 (lineB a0 a1 a2 a3 a4 a5 a6 a7 a9 (⟨#[63]⟩ : ByteArray)) ⟨#[32]⟩ w5 (fun j x hx => by
                 have hj : j < (lineB a0 a1 a2 a3 a4 a5 a6 a7 a9 (⟨#[63]⟩ : ByteArray)).length := (List.getElem?_eq_some_iff.1 hx).1
                 rw [hc7 j (by rw [List.length_map]; exact hj), List.getElem?_map, hx]; rfl) hb7 (by rw [hll]; omega) (by rw [hll]; exact hc6) (by rw [show (⟨#[32]⟩ : ByteArray).data.toList = [32] from rfl, HJ2.out]; omega)
               rw [show (⟨#[32]⟩ : ByteArray).data.toList = [32] from rfl, HJ2.out, hll] at hJ
               refine hJ.mono ?_
               rintro e w8 ⟨rfl, hb8⟩
               have HB8 := hide (hB5.trans (hb8.mono hB5.size))
               clear hb8 hJ hll hxs hc7 hr5 hB5))
          go_ret
          exact ⟨rfl, HL.out.trans (HB8.out.mono HL.out.size)⟩
  | false =>
    have htold : (stS a8) = bs (toldT a8) := by
      rw [hst] at q
      unfold toldT
      rw [if_neg (by simpa using q)]; rfl
    have HJ2 := hide (HJ.out _ htold)
    clear htold hst
    go_enter Tryd.func17, Tryd.ntmps17
    go_upto_region 1 with fail
    change Code.wp _ _ _ _ (w.alloc (.cells #[.int .i64 a0, .int .i64 a1, .int .i64 a2, .int .i64 a3, .int .i64 a4, .int .i64 a5, .int .i64 a6, .int .i64 a7, .int .i64 a8, .int .i64 a9] 23))
    rw [← HW.out]
    have y0 : W.cell? ⟨w.heap.size, 0, none⟩ = some (.int .i64 a0) := by rw [HB.out.cell]; rfl
    have y1 : W.cell? ⟨w.heap.size, 1, none⟩ = some (.int .i64 a1) := by rw [HB.out.cell]; rfl
    have y2 : W.cell? ⟨w.heap.size, 2, none⟩ = some (.int .i64 a2) := by rw [HB.out.cell]; rfl
    have y3 : W.cell? ⟨w.heap.size, 3, none⟩ = some (.int .i64 a3) := by rw [HB.out.cell]; rfl
    have y4 : W.cell? ⟨w.heap.size, 4, none⟩ = some (.int .i64 a4) := by rw [HB.out.cell]; rfl
    have y5 : W.cell? ⟨w.heap.size, 5, none⟩ = some (.int .i64 a5) := by rw [HB.out.cell]; rfl
    have y6 : W.cell? ⟨w.heap.size, 6, none⟩ = some (.int .i64 a6) := by rw [HB.out.cell]; rfl
    have y7 : W.cell? ⟨w.heap.size, 7, none⟩ = some (.int .i64 a7) := by rw [HB.out.cell]; rfl
    have y8 : W.cell? ⟨w.heap.size, 8, none⟩ = some (.int .i64 a8) := by rw [HB.out.cell]; rfl
    have y9 : W.cell? ⟨w.heap.size, 9, none⟩ = some (.int .i64 a9) := by rw [HB.out.cell]; rfl
    go_wp2_with fail
    refine (Qs.out _).mono ?_
    rintro e w1 ⟨rfl, hb1⟩
    have HB1 := hide hb1
    replace y0 := bkeep hb1 y0
    replace y1 := bkeep hb1 y1
    replace y2 := bkeep hb1 y2
    replace y3 := bkeep hb1 y3
    replace y4 := bkeep hb1 y4
    replace y5 := bkeep hb1 y5
    replace y6 := bkeep hb1 y6
    replace y7 := bkeep hb1 y7
    replace y8 := bkeep hb1 y8
    replace y9 := bkeep hb1 y9
    clear hb1
    go_upto_region 4 with fail
    go_cut [4] from 12 to 21 (fun v wx => ∃ g : Nat, v = .slice (some ⟨g, 0, none⟩) 3 3 ∧ W.heap.size ≤ g ∧ Hid (Blk wx g 9 (flat encS [itS a0, itS a1, tkS a2]).toArray) ∧ Hid (Below W.heap.size W wx))
    case first =>
      have HC := hide (below_drew' HB1.out)
      have HTc := hide (HT.out.below HC.out)
      go_region_held3 (fun w' => w'.cell? ⟨w.heap.size, 0, none⟩ = some (.int .i64 a0) ∧ w'.cell? ⟨w.heap.size, 1, none⟩ = some (.int .i64 a1) ∧ w'.cell? ⟨w.heap.size, 2, none⟩ = some (.int .i64 a2)) (go_keep)
        (first
          | (go_at_call 30
             refine (Itoa_i _ _ (by assumption) HTc.out).mono ?_
             rintro e wn ⟨rfl, hbn⟩
             replace HC := hide (HC.out.trans (hbn.mono HC.out.size))
             replace HTc := hide (HTc.out.below hbn)
             replace y0 := bkeep hbn y0
             replace y1 := bkeep hbn y1
             replace y2 := bkeep hbn y2
             clear hbn)
          | (go_at_call 31
             refine (Text_i _ _ (by assumption) HTc.out).mono ?_
             rintro e wn ⟨rfl, hbn⟩
             replace HC := hide (HC.out.trans (hbn.mono HC.out.size))
             replace HTc := hide (HTc.out.below hbn)
             replace y0 := bkeep hbn y0
             replace y1 := bkeep hbn y1
             replace y2 := bkeep hbn y2
             clear hbn))
      all_goals
        go_wp2_with fail
        go_meet
        exact ⟨_, rfl, HC.out.size, hide (Blk.new _ _ _), hide (HC.out.alloc HC.out.size _)⟩
    case rest =>
      obtain ⟨g, rfl, hgW, hbg, HB2⟩ := hcut
      have hown2 := hide (own_blk hbg.out hgW (by simp [flat_encS, maxLen]))
      have y3 : wc.cell? ⟨w.heap.size, 3, none⟩ = some (.int .i64 a3) := by rw [(HB.out.below HB2.out).cell]; rfl
      have y4 : wc.cell? ⟨w.heap.size, 4, none⟩ = some (.int .i64 a4) := by rw [(HB.out.below HB2.out).cell]; rfl
      have y5 : wc.cell? ⟨w.heap.size, 5, none⟩ = some (.int .i64 a5) := by rw [(HB.out.below HB2.out).cell]; rfl
      have y6 : wc.cell? ⟨w.heap.size, 6, none⟩ = some (.int .i64 a6) := by rw [(HB.out.below HB2.out).cell]; rfl
      have y7 : wc.cell? ⟨w.heap.size, 7, none⟩ = some (.int .i64 a7) := by rw [(HB.out.below HB2.out).cell]; rfl
      clear y0 y1 y2
      have HI := hide (show Blk (wc.alloc (.cells #[.int .i64 a3, .int .i64 a4, .int .i64 a5, .int .i64 a6, .int .i64 a7] 3)) wc.heap.size 3 #[.int .i64 a3, .int .i64 a4, .int .i64 a5, .int .i64 a6, .int .i64 a7] from Blk.new _ _ _)
      have HO3 := hide (own_only hown2.out (Only.of_below (below_alloc wc (.cells #[.int .i64 a3, .int .i64 a4, .int .i64 a5, .int .i64 a6, .int .i64 a7] 3)) NoBlk) (fun _ _ h => h.elim))
      have HB3 := hide (HB2.out.alloc HB2.out.size (.cells #[.int .i64 a3, .int .i64 a4, .int .i64 a5, .int .i64 a6, .int .i64 a7] 3))
      clear hbg hown2
      go_wp2_with fail
      go_loopw [4, 34] (fun v i wr => ∃ k m : Nat, k ≤ 5 ∧ m = 3 + k ∧ i = .int .i64 k ∧ wr.ownsRow W.heap.size 9 1 v m (flat encS ([itS a0, itS a1, tkS a2] ++ ((midL a3 a4 a5 a6 a7).take k).map itS)) ∧ Hid (Blk wr wc.heap.size 3 #[.int .i64 a3, .int .i64 a4, .int .i64 a5, .int .i64 a6, .int .i64 a7]) ∧ Hid (Below W.heap.size W wr)) (fun _ i _ => 5 - (intOf i).toNat)
      case atStart => exact ⟨0, 3, by omega, rfl, rfl, HO3.out, HI, HB3⟩
      case round =>
        obtain ⟨k, m, hk, hm, rfl, hown, hbi, hbel⟩ := hrel
        by_cases hlt : k < 5
        · obtain ⟨hok, hcell0, htake⟩ := Hmid.out k hlt
          have g0 : wr.cell? ⟨wc.heap.size, k, none⟩ = some (.int .i64 (nth (midL a3 a4 a5 a6 a7) k)) := by rw [hbi.out.cell]; exact hcell0
          have Htk := hide htake
          obtain ⟨z, hz⟩ : ∃ z, z = nth (midL a3 a4 a5 a6 a7) k := ⟨_, rfl⟩
          rw [← hz] at hok g0 Htk
          clear hz hcell0 htake
          have HTr := hide (HT.out.below hbel.out)
          have j1 : (0 : Int) ≤ (k : Int) := by omega
          have j2 : (k : Int) < 5 := by omega
          have j3 : decide ((k : Int) < 5) = true := by simp; omega
          go_wp2_with fail
          refine (Itoa_i z wr hok HTr.out).mono ?_
          rintro e w4 ⟨rfl, hb4⟩
          have hown4 := own_only hown (Only.of_below hb4 NoBlk) (fun _ _ h => h.elim)
          have HI4 := hide (hbi.out.below hb4)
          have HB4 := hide (hbel.out.trans (hb4.mono hbel.out.size))
          have hrd : Rd (w4.alloc (.cells (encS (itS z)).toArray 9)) NoBlk (some ⟨w4.heap.size, 0, none⟩) (encS (itS z)) := rd_blkN (Blk.new _ _ _) (fun h => h)
          have Hrd := hide hrd
          have Hone := hide (show ∀ u ∈ encS (itS z), u.oneCell' = true by intro u hu; simp [encS] at hu; subst hu; rfl)
          clear hrd hb4 hown HTr g0
          go_wp2_with (first
            | (at_builtin; refine wpList_append_rd _ rfl (.tmp 38) (.tmp 41) _ rfl W.heap.size 9 i0 _ 1 16 Tryd.underlying69 hi hz0 hz1 hz2 rfl (by omega) _ m _ rfl (hown4.alloc _) NoBlk (some ⟨w4.heap.size, 0, none⟩) 1 1 (encS (itS z)) rfl Hrd.out rfl Hone.out (by simp only [maxLen]; omega) (by omega) (by have := HB4.out.size; simp; omega) ?_; intro v2 w5 hown5 hgr hat; have Own5 := hide hown5; have Gr := hide hgr; clear hown5 hgr hat))
          go_roundw
          case rel =>
            refine ⟨k + 1, m + 1, by omega, by omega, by go_num, ?_, ?_, ?_⟩
            · rw [Htk.out, List.map_append, ← List.append_assoc, flat_append]
              have := Own5.out
              simpa [flat] using this
            · exact hide ((HI4.out.alloc _).grown (hown4.alloc _) (by decide) Gr.out)
            · exact hide ((HB4.out.alloc HB4.out.size _).grown Gr.out (by have := HB4.out.size; simp; omega) (fun j hj => by have := own_ge hown4 j hj; omega))
          case measure => simp [intOf]; omega
        · have hke : k = 5 := by omega
          subst hke
          subst hm
          have y9 : wr.cell? ⟨w.heap.size, 9, none⟩ = some (.int .i64 a9) := by rw [(HB.out.below hbel.out).cell]; rfl
          have HTr := hide (HT.out.below hbel.out)
          have htk : (midL a3 a4 a5 a6 a7).take 5 = midL a3 a4 a5 a6 a7 := rfl
          rw [htk] at hown
          clear htk
          go_wp2_with fail
          refine (Text_i a9 wr h9 HTr.out).mono ?_
          rintro e w4 ⟨rfl, hb4⟩
          have hown4 := own_only hown (Only.of_below hb4 NoBlk) (fun _ _ h => h.elim)
          have HB4 := hide (hbel.out.trans (hb4.mono hbel.out.size))
          have hrd : Rd (w4.alloc (.cells (flat encS [(stS a8), tkS a9]).toArray 9)) NoBlk (some ⟨w4.heap.size, 0, none⟩) (flat encS [(stS a8), tkS a9]) := rd_blkN (Blk.new _ _ _) (fun h => h)
          have Hrd := hide hrd
          have Hone := hide (show ∀ u ∈ flat encS [(stS a8), tkS a9], u.oneCell' = true by intro u hu; rw [flat_encS] at hu; simp at hu; rcases hu with rfl | rfl <;> rfl)
          clear hrd hb4 hown HTr y9
          go_wp2_with (first
            | (at_builtin; refine wpList_append_rd _ rfl (.tmp 44) (.tmp 49) _ rfl W.heap.size 9 i0 _ 1 16 Tryd.underlying69 hi hz0 hz1 hz2 rfl (by omega) _ (3 + 5) _ rfl (hown4.alloc _) NoBlk (some ⟨w4.heap.size, 0, none⟩) 2 2 (flat encS [(stS a8), tkS a9]) rfl Hrd.out rfl Hone.out (by simp only [maxLen]; omega) (by omega) (by have := HB4.out.size; simp; omega) ?_; intro v2 w5 hown5 hgr hat; have Own5 := hide hown5; have Gr := hide hgr; clear hown5 hgr hat; obtain ⟨g6, c6, rfl, hc6⟩ := own_some Own5.out (by omega))
            | (go_at_call 32
               have hB5 := ((HB4.out.alloc HB4.out.size (.cells (flat encS [(stS a8), tkS a9]).toArray 9)).grown Gr.out (by have := HB4.out.size; simp; omega) (fun j hj => by have := own_ge hown4 j hj; omega))
               have hr5 := Rd.of_own (M := NoBlk) Own5.out (fun k h => h.elim)
               obtain ⟨b7, o7, hA7, _, hb7, hc7⟩ := hr5.at_ (j := 0) (by rw [List.length_append, flat_encS, List.length_map, flat_encS, List.length_map]; simp [midL])
               injection hA7 with hA7
               injection hA7 with e7 e8 _
               subst e7; subst e8
               have hxs : (flat encS ([itS a0, itS a1, tkS a2] ++ (midL a3 a4 a5 a6 a7).map itS) ++ flat encS [(stS a8), tkS a9]) = (lineB a0 a1 a2 a3 a4 a5 a6 a7 a9 (stS a8)).map Value.string := by
                 rw [← flat_append, flat_encS]; rfl
               rw [hxs] at hc7
               have hll : (lineB a0 a1 a2 a3 a4 a5 a6 a7 a9 (stS a8)).length = 3 + 5 + 2 := rfl
               have hJ := Tryd.strings_Join g6 0 c6 (lineB a0 a1 a2 a3 a4 a5 a6 a7 a9 (stS a8)) ⟨#[32]⟩ w5 (fun j x hx => by
                 have hj : j < (lineB a0 a1 a2 a3 a4 a5 a6 a7 a9 (stS a8)).length := (List.getElem?_eq_some_iff.1 hx).1
                 rw [hc7 j (by rw [List.length_map]; exact hj), List.getElem?_map, hx]; rfl) hb7 (by rw [hll]; omega) (by rw [hll]; exact hc6) (by rw [show (⟨#[32]⟩ : ByteArray).data.toList = [32] from rfl, HJ2.out]; omega)
               rw [show (⟨#[32]⟩ : ByteArray).data.toList = [32] from rfl, HJ2.out, hll] at hJ
               refine hJ.mono ?_
               rintro e w8 ⟨rfl, hb8⟩
               have HB8 := hide (hB5.trans (hb8.mono hB5.size))
               clear hb8 hJ hll hxs hc7 hr5 hB5))
          go_ret
          exact ⟨rfl, HL.out.trans (HB8.out.mono HL.out.size)⟩
end Go.Proofs.YthnjebpbokmemaaDoor
