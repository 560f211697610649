/- Same of two lists of events that read the same; Clocks. Conditions: those of each theorem. -/
import Derived.Test.YtdmdohjdmnmabaaGreatSame31
namespace Go.Proofs.YtdmdohjdmnmabaaGreat
open Go.RowKit
set_option linter.unusedVariables false

/-- the ticks of the rounds -/
def clocksL (l : List Ev) : List Int := (l.filter (fun x => decide (x.k = 1))).map (·.tick)
abbrev encI (t : Int) : List Value := [.int .i64 t]
theorem Tryz.infoI64 : (Tryz.prog.info? 2).map (fun i => (i.zero, i.size, i.bytes)) = some (some (.int .i64 0), 1, 8) := by kernel_rfl
theorem clocks_succ (l : List Ev) (k : Nat) (h : k < l.length) : clocksL (l.take (k + 1)) = clocksL (l.take k) ++ (if (evAt l k).k = 1 then [(evAt l k).tick] else []) := by
  have e : evAt l k = l[k] := by simp [evAt, List.getD, h]
  unfold clocksL
  rw [List.take_succ_eq_append_getElem h, List.filter_append, List.map_append, e]
  by_cases hp : l[k].k = 1 <;> simp [hp]
theorem clocks_le (l : List Ev) : (clocksL l).length ≤ l.length := by
  unfold clocksL
  rw [List.length_map]; exact List.length_filter_le _ _
set_option maxRecDepth 100000 in
set_option maxHeartbeats 1600000 in
theorem Clocks_c (M : Nat → Prop) (A : Option Addr) (c : Nat) (l : List Ev) (w : World) (hr : Rd w M A (flat encEv l)) (hn : l.length ≤ 100000) (hM : ∀ k, M k → k < w.heap.size) :
    Calls Tryz.prog 65 #[.slice A l.length c] w fun e w' => Below w.heap.size w w' ∧ ∃ A1 c1, e = .returned (.slice A1 (clocksL l).length c1) ∧ Rd w' M A1 (flat encI (clocksL l)) ∧ (clocksL l).length ≤ c1 := by
  have Hc := hide (fun k hk => ev_cells hr k hk)
  have HM := hide hM
  obtain ⟨i0, hi, hz0, hz1, hz2⟩ := info_parts Tryz.infoI64
  obtain ⟨n, hnl⟩ : ∃ n, n = l.length := ⟨_, rfl⟩
  rw [← hnl] at hn ⊢
  have Hn := hide hnl
  clear hr hM hnl
  go_enter Tryz.func65, Tryz.ntmps65
  go_wp2_with fail
  go_loopw [3, 8] (fun v i wr => ∃ k m : Nat, k ≤ n ∧ m ≤ k ∧ i = .int .i64 k ∧ Hid ((clocksL (l.take k)).length = m) ∧ wr.ownsRow w.heap.size 2 1 v m (flat encI (clocksL (l.take k))) ∧ Below w.heap.size w wr) (fun _ i _ => n - (intOf i).toNat)
  case atStart => exact ⟨0, 0, Nat.zero_le _, Nat.zero_le _, rfl, hide rfl, ⟨rfl, Or.inl ⟨rfl, rfl⟩⟩, Below.refl _ _⟩
  case round =>
    obtain ⟨k, m, hk, hm, rfl, hml, hown, hbel⟩ := hrel
    by_cases hlt : k < n
    · obtain ⟨b, o, rfl, _, hb, g0, g1, g2, g3, g4, g5, g6, g7, g8, g9, g10, g11⟩ := Hc.out k (by rw [← Hn.out]; exact hlt)
      replace g0 := bkeepL hbel hb g0
      replace g1 := bkeepL hbel hb g1
      replace g2 := bkeepL hbel hb g2
      replace g3 := bkeepL hbel hb g3
      replace g4 := bkeepL hbel hb g4
      replace g5 := bkeepL hbel hb g5
      replace g6 := bkeepL hbel hb g6
      replace g7 := bkeepL hbel hb g7
      replace g8 := bkeepL hbel hb g8
      replace g9 := bkeepL hbel hb g9
      replace g10 := bkeepL hbel hb g10
      replace g11 := bkeepL hbel hb g11
      have HF := hide (clocks_succ l k (by rw [← Hn.out]; exact hlt))
      obtain ⟨x, hx⟩ : ∃ x, x = evAt l k := ⟨_, rfl⟩
      rw [← hx] at g0 g1 g2 g3 g4 g5 g6 g7 g8 g9 g10 g11 HF
      clear hx
      cases q1 : (x.k == 1) with
      | true =>
        have HT := hide (show x.k = 1 by simpa using q1)
        have hrd : Rd ((wr.alloc (.cells (evV x) 82)).alloc (.cells (encI x.tick).toArray 2)) NoBlk (some ⟨wr.heap.size + 1, 0, none⟩) (encI x.tick) := rd_blkN (Blk.new' (by simp)) (fun h => h)
        have Hrd := hide hrd
        have Hone := hide (show ∀ u ∈ encI x.tick, u.oneCell' = true by intro u hu; simp at hu; subst hu; rfl)
        clear hrd
        go_wp2_with (first
          | (at_builtin; refine wpList_append_rd _ rfl (.tmp 15) (.tmp 18) _ rfl w.heap.size 2 i0 _ 1 8 Tryz.underlying103 hi hz0 hz1 hz2 rfl (by omega) _ m _ rfl ((hown.alloc _).alloc _) NoBlk (some ⟨wr.heap.size + 1, 0, none⟩) 1 1 (encI x.tick) rfl Hrd.out rfl Hone.out (by simp only [maxLen]; omega) (by omega) (by have := hbel.size; simp; omega) ?_; intro v2 w2 hown2 hgr _; have Own2 := hide hown2; have Gr := hide hgr; clear hown2 hgr))
        go_roundw
        case rel =>
          refine ⟨k + 1, m + 1, by omega, by omega, by go_num, ?_, ?_, ?_⟩
          · rw [HF.out, if_pos HT.out, List.length_append, hml.out]; rfl
          · rw [HF.out, if_pos HT.out, flat_append]
            have := Own2.out
            simpa [flat] using this
          · exact ((hbel.alloc hbel.size _).alloc (by have := hbel.size; simp; omega) _).grown Gr.out (by have := hbel.size; simp; omega) (fun j hj => by have := own_ge hown j hj; omega)
        case measure => simp [intOf]; omega
      | false =>
        have HT := hide (show ¬ x.k = 1 by simpa using q1)
        go_wp2_with fail
        go_roundw
        case rel =>
          refine ⟨k + 1, m, by omega, by omega, by go_num, ?_, ?_, hbel.alloc hbel.size _⟩
          · rw [HF.out, if_neg HT.out, List.append_nil]; exact hml
          · rw [HF.out, if_neg HT.out]; simpa using hown.alloc _
        case measure => simp [intOf]; omega
    · have hke : k = n := by omega
      subst hke
      have hd : decide ((k : Int) < k) = false := by simp
      have hd2 : decide (k < k) = false := by simp
      have ht : l.take k = l := List.take_of_length_le (by rw [← Hn.out]; omega)
      rw [ht] at hml hown
      obtain ⟨A1, c1, rfl, hcap⟩ := own_cap hown
      have Hr := hide (Rd.of_own hown HM.out)
      clear ht hown hlt
      go_wp2_with fail
      go_ret
      exact ⟨hbel, A1, c1, by rw [hml.out]; rfl, Hr.out, by rw [hml.out]; exact hcap⟩
end Go.Proofs.YtdmdohjdmnmabaaGreat
