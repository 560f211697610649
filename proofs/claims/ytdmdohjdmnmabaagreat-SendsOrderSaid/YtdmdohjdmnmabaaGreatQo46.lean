/- All sends of one whose script is good. Conditions: those of each theorem. -/
import Derived.Test.YtdmdohjdmnmabaaGreatQo45
import Derived.Test.YtdmdohjdmnmabaaGreatQo22
namespace Go.Proofs.YtdmdohjdmnmabaaGreat
open Go.RowKit
set_option linter.unusedVariables false
set_option linter.unusedSimpArgs false

theorem sends_le (p : ProgM) (id : Int) (l : List Ev) : (sendsM p id l).length ≤ l.length + 1 := by
  have h := (sm_seenS p id l l.length (Nat.le_refl _)).o
  rw [List.take_length] at h
  unfold sendsM closeS
  simp only
  split
  · simp; omega
  · omega
set_option maxRecDepth 100000 in
set_option maxHeartbeats 12800000 in
theorem sone_c (s : ByteArray) (d j : Int) (PA : Option Addr) (pc : Nat) (L : List OpV) (A : Option Addr) (c : Nat) (l : List Ev) (id : Int) (w : World) (hq : OpsRd w NoBlk PA L) (hn : L.length ≤ maxLen) (hs : s.size ≤ 9223372036854775807) (hsz : ∀ v ∈ L, OpSz v) (hr : Rd w NoBlk A (flat encEv l)) (hl : l.length ≤ 1000) :
    Calls Tryz.prog 72 #[.agg #[.string s, .int .i64 d, .int .i64 j, .slice PA L.length pc], .slice A l.length c, .int .i64 id] w fun e w' => (∃ v, e = .returned v ∧ w'.ownsRow w.heap.size 109 7 v (sendsM (progM s d j L) id l).length (flat encSd (sendsM (progM s d j L) id l))) ∧ Only NoBlk w w' := by
  have HEv := hide (fun (w' : World) (k : Only NoBlk w w') (i : Nat) (hi : i < l.length) => ev_cells (hr.only k (fun _ h => h)) i hi)
  obtain ⟨n, hnl⟩ : ∃ n, n = l.length := ⟨_, rfl⟩
  obtain ⟨vn, hvn⟩ : ∃ vn, vn = L.length := ⟨_, rfl⟩
  obtain ⟨P, hP⟩ : ∃ P, P = progM s d j L := ⟨_, rfl⟩
  have hm2 : (closeS (seenS P id l)).out = sendsM P id l := rfl
  obtain ⟨T, hT⟩ : ∃ T, T = sendsM P id l := ⟨_, rfl⟩
  rw [← hT] at hm2
  rw [← hP, ← hT]
  rw [← hnl] at HEv hl ⊢
  rw [← hvn]
  have Hnl := hide hnl
  have HVn := hide hvn
  have HPP := hide hP
  have HQ := hide hq
  have HS1 := hide hn
  have HS2 := hide hs
  have HS3 := hide hsz
  have HT := hide hm2
  clear hq hn hs hsz hr hnl hvn hP hT hm2
  go_enter Tryz.func72, Tryz.ntmps72
  go_upto_region 2 with fail
  obtain ⟨W5, hW5⟩ : ∃ W5, W5 = (w.alloc (.cells #[.string s, .int .i64 d, .int .i64 j, .slice PA vn pc] 24)).alloc (.cells #[.string s, .int .i64 d, .int .i64 j, .slice PA vn pc, .int .i64 id, .int .i64 (-1), .bool false, .bool false, .int .i64 0, .int .i64 0, .int .i64 0, .int .i64 0, .int .i64 0, .bool false, .int .i64 0, .slice none 0 0] 159) := ⟨_, rfl⟩
  have HPw := hide (show SwAt W5 (w.heap.size + 1) (w.heap.size + 1) ⟨s, d, j, PA, vn, pc, id⟩ sw0 by rw [hW5]; exact ⟨_, ⟨Blk.new' (by simp), own_nil (by simp), Nat.le_refl _⟩⟩)
  have HO5 := hide (show Only (w.heap.size + 1 ≤ ·) w W5 by rw [hW5]; exact ((Only.refl _ w).alloc _).alloc _)
  rw [← hW5]
  have HQo := hide (HQ.out.old (b := w.heap.size + 1) (by omega))
  obtain ⟨g5, hg5⟩ : ∃ g5, g5 = w.heap.size + 1 := ⟨_, rfl⟩
  rw [← hg5] at HPw HO5 HQo ⊢
  have HG5 := hide hg5
  clear hW5 hg5 HQ
  go_wp2_with fail
  go_loopw [16] (fun i wi => ∃ t : Nat, t ≤ n ∧ i = .int .i64 t ∧ Hid (SwAt wi g5 g5 ⟨s, d, j, PA, vn, pc, id⟩ (seenS P id (l.take t))) ∧ Hid (Only (g5 ≤ ·) w wi)) (fun i _ => n - (intOf i).toNat)
  case atStart => exact ⟨0, Nat.zero_le _, rfl, HPw, HO5⟩
  case round =>
    clear HPw HO5
    obtain ⟨t, ht, rfl, HPw, HO5⟩ := hrel
    have HOwi := hide (only_new (by rw [HG5.out]; omega) HO5.out)
    by_cases hlt2 : t < n
    · obtain ⟨eb, eo, rfl, _, heb, y0, y1, y2, y3, y4, y5, y6, y7, y8, y9, y10, y11⟩ := HEv.out wr HOwi.out t hlt2
      have hsucc := seenS_succ P id l t (by rw [← Hnl.out]; exact hlt2)
      have hsm := sm_seenS P id l t (by rw [← Hnl.out]; omega)
      obtain ⟨x, hx⟩ : ∃ x, x = evAt l t := ⟨_, rfl⟩
      rw [← hx] at y0 y1 y2 y3 y4 y5 y6 y7 y8 y9 y10 y11 hsucc
      clear hx
      obtain ⟨ek, ei, en, et, es, ee, ⟨est, esa, esw, esr, esn, ess⟩⟩ := x
      simp only at y0 y1 y2 y3 y4 y5 y6 y7 y8 y9 y10 y11
      have HSee := hide (fun (w' : World) (hp : SwAt w' g5 g5 ⟨s, d, j, PA, vn, pc, id⟩ (seenS P id (l.take t))) (k : Only (g5 ≤ ·) w w') => by
        have := swsee_c g5 g5 ⟨s, d, j, PA, vn, pc, id⟩ (seenS P id (l.take t)) t L ek ei en et es ee est esa esw esr esn ess w' hp hsm (by omega) (HQo.out.only k (fun _ h => h)) HVn.out HS1.out HS2.out HS3.out
        rw [← HPP.out, ← hsucc] at this
        exact this)
      clear hsucc hsm
      have e1 : decide ((t : Int) < (n : Int)) = true := by simp; exact hlt2
      have e2 : decide (t < n) = true := by simp; exact hlt2
      have l1 : (0 : Int) ≤ (t : Int) := by omega
      have l2 : (t : Int) < (n : Int) := by omega
      have w3' : IntKind.i64.wrap ((t : Int) + 1) = (t : Int) + 1 := IntWalk.i64_in _ (by omega)
      go_upto_region 5 with fail
      obtain ⟨W6, hW6⟩ : ∃ W6, W6 = wr.alloc (.cells #[.int .i64 ek, .int .i64 ei, .int .i64 en, .int .i64 et, .string es, .int .i64 ee, .int .i64 est, .int .i64 esa, .int .i64 esw, .int .i64 esr, .int .i64 esn, .int .i64 ess] 82) := ⟨_, rfl⟩
      have HPw6 := hide (show SwAt W6 g5 g5 ⟨s, d, j, PA, vn, pc, id⟩ (seenS P id (l.take t)) by rw [hW6]; obtain ⟨vo, hm⟩ := HPw.out; exact ⟨vo, hm.alloc _⟩)
      have HO6 := hide (show Only (g5 ≤ ·) w W6 by rw [hW6]; exact HO5.out.alloc _)
      have HX6 := hide (show Blk W6 wr.heap.size 82 #[.int .i64 ek, .int .i64 ei, .int .i64 en, .int .i64 et, .string es, .int .i64 ee, .int .i64 est, .int .i64 esa, .int .i64 esw, .int .i64 esr, .int .i64 esn, .int .i64 ess] by rw [hW6]; exact Blk.new _ _ _)
      rw [← hW6]
      clear hW6 y0 y1 y2 y3 y4 y5 y6 y7 y8 y9 y10 y11 HPw HO5
      obtain ⟨y0, y1, y2, y3, y4, y5, y6, y7, y8, y9, y10, y11⟩ := HX6.out.twelve
      go_wp2_with fail
      refine (HSee.out _ HPw6.out HO6.out).mono ?_
      rintro e w7 ⟨rfl, hp7, ho7, _⟩
      have HP7 := hide hp7
      have HO7 := hide (HO6.out.trans ho7)
      clear hp7 ho7
      go_wp2_with fail
      go_roundw
      case rel => exact ⟨t + 1, by omega, by go_num, HP7, HO7⟩
      case measure => simp [intOf]; omega
    · obtain rfl : t = n := by omega
      have e1 : decide ((t : Int) < (t : Int)) = false := by simp
      have e2 : decide (t < t) = false := by simp
      have hp9 := HPw.out
      rw [Hnl.out, List.take_length] at hp9
      have hsm9 := sm_seenS P id l l.length (Nat.le_refl _)
      rw [List.take_length] at hsm9
      have HP9 := hide hp9
      have HSm9 := hide hsm9
      clear hp9 hsm9 HPw
      go_wp2_with fail
      refine (swclose_c g5 g5 _ _ l.length _ HP9.out HSm9.out (by rw [← Hnl.out]; omega)).mono ?_
      rintro e w8 ⟨rfl, hp8, ho8, _⟩
      obtain ⟨vo, hm8⟩ := hp8
      have HM8 := hide hm8
      have HO8 := hide (only_new (by rw [HG5.out]; omega) (HO5.out.trans ho8))
      obtain ⟨_, _, _, _, _, _, _, _, _, _, _, _, _, _, _, k15⟩ := hm8.blk.sixteen
      clear hm8 ho8
      go_wp2_with fail
      go_ret
      refine ⟨⟨vo, rfl, ?_⟩, HO8.out⟩
      have := HM8.out.oo
      rw [HT.out] at this
      exact own_base this (by rw [HG5.out]; omega)
end Go.Proofs.YtdmdohjdmnmabaaGreat
