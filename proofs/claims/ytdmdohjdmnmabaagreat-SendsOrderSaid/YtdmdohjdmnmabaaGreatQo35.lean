/- The document's sends of one. Conditions: those of each theorem. -/
import Derived.Test.YtdmdohjdmnmabaaGreatQo26
import Derived.Test.YtdmdohjdmnmabaaGreatQo32
import Derived.Test.YtdmdohjdmnmabaaGreatQo33
import Derived.Test.YtdmdohjdmnmabaaGreatQo34
import Derived.Test.YtdmdohjdmnmabaaGreatQo22
import Derived.Deep.RegionHeld3
namespace Go.Proofs.YtdmdohjdmnmabaaGreat
open Go.RowKit
set_option linter.unusedVariables false
set_option linter.unusedSimpArgs false

theorem Tryz.infoRSd : (Tryz.prog.info? 110).map (fun i => (i.zero, i.size, i.bytes)) = some (some (.agg #[.int .i64 0, .int .i64 0, .int .i64 0, .int .i64 0, .int .i64 0, .bool false, .int .i64 0]), 7, 56) := by kernel_rfl
theorem scan_stay {id : Int} {l : List Ev} {x : SdM} {i q : Nat} (h : (scanD id l x i q).2 = true) (hq : i < q) : ∀ m, q ≤ m → scanD id l x i m = scanD id l x i q := by
  intro m
  induction m with
  | zero => intro hm; omega
  | succ m ih =>
    intro hm
    by_cases hmq : q = m + 1
    · rw [hmq]
    · rw [scanD_succ _ _ _ _ _ (by omega), ih (by omega)]
      unfold scanStep
      rw [if_pos h]
def outS (p : ProgM) (id : Int) (l : List Ev) (i : Nat) : List SdM := (pairS p id l l.length i).map (·.1)
theorem outS_succ (p : ProgM) (id : Int) (l : List Ev) (i : Nat) : outS p id l (i + 1) = outS p id l i ++ (if sendB p (toD p id l i) = true then [(scanD id l (sendN p id (toD p id l i) (rndD l i)) i l.length).1] else []) := by
  unfold outS
  show (pairS p id l l.length i ++ _).map _ = _
  rw [List.map_append]
  congr 1
  split <;> rfl
theorem outS_len (p : ProgM) (id : Int) (l : List Ev) : ∀ i, (outS p id l i).length ≤ i := by
  intro i
  induction i with
  | zero => exact Nat.le_refl _
  | succ i ih =>
    rw [outS_succ, List.length_append]
    split <;> simp <;> omega
theorem doneX_t' (now : Int) (x : SdM) : (doneX now x).taken = x.taken := by unfold doneX; split <;> rfl
theorem writeX_t' (now n : Int) (x : SdM) : (writeX now n x).taken = richD x.taken n := by unfold writeX; split; rw [doneX_t']; rfl; rfl
theorem scan_taken {id : Int} {l : List Ev} {x : SdM} {i : Nat} (h0 : 0 ≤ x.taken ∧ x.taken ≤ 1000000000) : ∀ m, 0 ≤ (scanD id l x i m).1.taken ∧ (scanD id l x i m).1.taken ≤ 1000000000 := by
  intro m
  induction m with
  | zero => exact h0
  | succ m ih =>
    by_cases hmi : m ≤ i
    · have e : scanD id l x i (m + 1) = (x, false) := by
        show (if m ≤ i then (x, false) else _) = _
        rw [if_pos hmi]
      rw [e]
      exact h0
    · have e : scanD id l x i (m + 1) = scanStep id l m (scanD id l x i m) := scanD_succ _ _ _ _ _ (by omega)
      rw [e]
      unfold scanStep
      split
      · exact ih
      · split
        · exact ih
        · simp only
          split
          · rw [writeX_t']; unfold richD; omega
          · split
            · rw [doneX_t']; exact ih
            · exact ih
theorem within_rich {t n : Int} (h : 0 ≤ t) : within (t + within n 0 1000000000) 0 1000000000 = richD t n := by
  unfold within richD
  split <;> split <;> (try split) <;> (try split) <;> omega
theorem own_keepX {w w' : World} {base size n : Nat} {e : TypeId} {v : Value} {xs : List Value} {xg : Nat} (h : w.ownsRow base e size v n xs) (k : Only (· = xg) w w') (hne : ∀ kk, v.ownBlock = some kk → kk ≠ xg) : w'.ownsRow base e size v n xs := by
  obtain ⟨hl, h2⟩ := h
  refine ⟨hl, ?_⟩
  rcases h2 with ⟨hv, hn⟩ | ⟨g, cap, cur, hv, hb, hh, r⟩
  · exact Or.inl ⟨hv, hn⟩
  · refine Or.inr ⟨g, cap, cur, hv, hb, ?_, r⟩
    have hlt : g < w.heap.size := Blk.lt (t := e) (cs := cur) hh
    rw [k.block g hlt (hne g (by subst hv; simp [Value.ownBlock]))]
    exact hh
set_option maxRecDepth 100000 in
set_option maxHeartbeats 51200000 in
theorem refsone_c (s : ByteArray) (d j : Int) (PA : Option Addr) (pc : Nat) (L : List OpV) (A : Option Addr) (c : Nat) (l : List Ev) (id : Int) (w : World) (hq : OpsRd w NoBlk PA L) (hn : L.length ≤ maxLen) (hs : s.size ≤ 9223372036854775807) (hsz : ∀ v ∈ L, OpSz v) (hr : Rd w NoBlk A (flat encEv l)) (hl : l.length ≤ 1000) (hx : ∀ x ∈ l, x.s.size ≤ 100) :
    Calls Tryz.prog 64 #[.agg #[.string s, .int .i64 d, .int .i64 j, .slice PA L.length pc], .slice A l.length c, .int .i64 id] w fun e w' => (∃ v, e = .returned v ∧ w'.ownsRow w.heap.size 110 7 v (sendsM (progM s d j L) id l).length (flat encSd (sendsM (progM s d j L) id l))) ∧ Below w.heap.size w w' := by
  obtain ⟨il, hil, hlz0, hlz1, hlz2⟩ := info_parts Tryz.infoRSd
  have hn' : L.length ≤ 9223372036854775807 := hn
  have HEv := hide (fun (w' : World) (k : Below w.heap.size w w') (i : Nat) (hi : i < l.length) => ev_cells (hr.below k) i hi)
  have HRo := hide (fun (w' : World) (hb : Below w.heap.size w w') => refrounds36_c A c l w' (hr.below hb) (by omega))
  have HNx := hide (fun (w' : World) (hb : Below w.heap.size w w') (st sa sw sr sn ss : Int) => refNext_c s d j PA pc L st sa sw sr sn ss w' ⟨hq.1.below hb, fun v hv => (hq.2 v hv).below hb⟩ hn hs hsz)
  have HOp := hide (fun (w' : World) (k : Below w.heap.size w w') (i : Nat) (hi : i < L.length) => op_cells (hq.1.below k) i hi)
  have HOz := hide (fun (i : Nat) (hi : i < L.length) => (hsz _ (opAt_mem hi)).1)
  have HG := hide (fun (i : Nat) (hi : i < L.length) => show (L.map (·.o)).getD i opM0 = (opAt L i).o from by simp [List.getD, opAt, hi])
  have HSB := hide (show ∀ op, sendB (progM s d j L) op = ((decide (0 ≤ op) && decide (op < L.length)) && decide (((L.map (·.o)).getD op.toNat opM0).kind = 1)) from fun op => by unfold sendB progM; simp only [List.length_map])
  have HSN := hide (show ∀ op now, sendN (progM s d j L) id op now = ⟨id, op, ((L.map (·.o)).getD op.toNat opM0).text.size, now, 0, false, 0⟩ from fun _ _ => rfl)
  obtain ⟨P, hP⟩ : ∃ P, P = progM s d j L := ⟨_, rfl⟩
  rw [← hP] at HNx HSB HSN ⊢
  obtain ⟨vn, hvn⟩ : ∃ vn, vn = L.length := ⟨_, rfl⟩
  rw [← hvn] at HNx HOp HOz HG HSB hn' ⊢
  have HOs := hide (fun i => outS_succ P id l i)
  have HOl := hide (fun i => outS_len P id l i)
  have HRn := hide (fun k => rndD_le l k)
  have HRa := hide (fun k h => rndT_at l l.length k h)
  have HRl := hide (rndT_len l l.length)
  obtain ⟨RT, hRT⟩ : ∃ RT, RT = rndT l l.length := ⟨_, rfl⟩
  rw [← hRT] at HRo HRa HRl
  obtain ⟨TT, hTT⟩ : ∃ TT, TT = sendsM P id l := ⟨_, rfl⟩
  have HQ := hide (show TT = outS P id l l.length by rw [hTT]; exact sends_doc P id l)
  rw [← hTT]
  obtain ⟨n, hnl⟩ : ∃ n, n = l.length := ⟨_, rfl⟩
  rw [← hnl] at HEv HRo hl HQ HRn HRa HRl HOs ⊢
  have Hnl := hide hnl
  clear hq hn hs hsz hr hnl hvn hP hTT hx hRT
  obtain ⟨W1, hW1⟩ : ∃ W1, W1 = w.alloc (.cells #[.string s, .int .i64 d, .int .i64 j, .slice PA vn pc] 24) := ⟨_, rfl⟩
  have HB1 := hide (show Below w.heap.size w W1 by rw [hW1]; exact below_alloc _ _)
  have HP1 := hide (show Blk W1 w.heap.size 24 #[.string s, .int .i64 d, .int .i64 j, .slice PA vn pc] by rw [hW1]; exact Blk.new _ _ _)
  obtain ⟨W2, hW2⟩ : ∃ W2, W2 = W1.alloc (.cells #[] 110) := ⟨_, rfl⟩
  have HB2 := hide (show Below w.heap.size w W2 by rw [hW2]; exact HB1.out.alloc HB1.out.size _)
  have HP2 := hide (show Blk W2 w.heap.size 24 #[.string s, .int .i64 d, .int .i64 j, .slice PA vn pc] by rw [hW2]; exact HP1.out.alloc _)
  have HO2 := hide (show W2.ownsRow (w.heap.size + 1) 110 7 (.slice (some ⟨w.heap.size + 1, 0, none⟩) 0 0) 0 (flat encSd []) by rw [hW2]; simpa [flat] using own_empty' (w := W1) (base := w.heap.size + 1) (g := w.heap.size + 1) (e := 110) (size := 7) (by first | omega | (rw [hW1]; simp)) (by first | omega | (rw [hW1]; simp)))
  have HWW := hide (show W2 = (w.alloc (.cells #[.string s, .int .i64 d, .int .i64 j, .slice PA vn pc] 24)).alloc (.cells #[] 110) by rw [hW2, hW1])
  clear hW1 hW2 HB1 HP1
  go_enter Tryz.func64, Tryz.ntmps64
  go_wp2_with fail
  change Calls _ _ _ ((w.alloc (.cells #[.string s, .int .i64 d, .int .i64 j, .slice PA vn pc] 24)).alloc (.cells #[] 110)) _
  rw [← HWW.out]
  refine (HRo.out _ HB2.out).mono ?_
  rintro e w1 ⟨⟨rv, rfl, hrow⟩, hb1⟩
  obtain ⟨RA, rc, rfl, _⟩ := own_cap hrow
  have HRow := hide hrow
  have HB1 := hide (HB2.out.trans (hb1.mono HB2.out.size))
  have HP1 := hide (HP2.out.below hb1)
  have HO1 := hide (own_only HO2.out (Only.of_below hb1 NoBlk) (fun _ _ h => h.elim))
  clear hrow hb1
  go_wp2_with fail
  go_loopw [7, 9, 10] (fun vo bg i wr => ∃ k : Nat, k ≤ n ∧ i = .int .i64 k ∧ bg = .bool (begD id l k) ∧ Hid (wr.ownsRow (w.heap.size + 1) 110 7 vo (outS P id l k).length (flat encSd (outS P id l k))) ∧ Hid (wr.ownsRow W2.heap.size 3 1 (.slice RA n rc) n (flat encI RT)) ∧ Hid (Blk wr w.heap.size 24 #[.string s, .int .i64 d, .int .i64 j, .slice PA vn pc]) ∧ Hid (Below w.heap.size w wr)) (fun _ _ i _ => n - (intOf i).toNat)
  case atStart => exact ⟨0, Nat.zero_le _, rfl, rfl, HO1, HRow, HP1, HB1⟩
  case round =>
    clear HO1 HRow HP1 HB1
    obtain ⟨k, hk, rfl, rfl, HOw, HRow, HPr, HB⟩ := hrel
    obtain ⟨VA, vc, rfl, hvc⟩ := own_cap HOw.out
    have hol := HOl.out k
    have HOk := hide (HOs.out k)
    have w1 : IntKind.i64.wrap ((k : Int) + 1) = (k : Int) + 1 := IntWalk.i64_in _ (by omega)
    by_cases hlt : k < n
    case neg =>
      obtain rfl : k = n := by omega
      have e1 : decide ((k : Int) < (k : Int)) = false := by simp
      have e2 : decide (k < k) = false := by simp
      obtain ⟨OL, hOL⟩ : ∃ OL, OL = outS P id l k := ⟨_, rfl⟩
      rw [← hOL] at HOw HQ hol ⊢
      obtain ⟨m, hm⟩ : ∃ m, m = OL.length := ⟨_, rfl⟩
      rw [← hm] at HOw ⊢
      have Hm := hide hm
      obtain ⟨bg, hbg⟩ : ∃ bg, bg = begD id l k := ⟨_, rfl⟩
      rw [← hbg]
      clear hOL hm hbg
      go_wp2_with fail
      go_ret
      refine ⟨⟨.slice VA m vc, by rfl, ?_⟩, HB.out⟩
      rw [HQ.out, ← Hm.out]
      exact own_base HOw.out (by omega)
    case pos =>
      obtain ⟨eb, eo, rfl, _, heb, y0, y1, y2, y3, y4, y5, y6, y7, y8, y9, y10, y11⟩ := HEv.out wr HB.out k hlt
      have e1 : decide ((k : Int) < (n : Int)) = true := by simp; exact hlt
      have e2 : decide (k < n) = true := by simp; exact hlt
      have j1 : (0 : Int) ≤ (k : Int) := by omega
      have j2 : (k : Int) < (n : Int) := by omega
      have HTo := hide (show toD P id l k = if (evAt l k).id = id ∧ (evAt l k).k = 2 ∧ begD id l k = false then 0 else if (evAt l k).id = id ∧ (evAt l k).k = 8 ∧ begD id l k = true then NextM P (evAt l k).st else -1 from rfl)
      have HBg := hide (show begD id l (k + 1) = (begD id l k || (decide ((evAt l k).id = id) && decide ((evAt l k).k = 2))) from rfl)
      obtain ⟨x, hx⟩ : ∃ x, x = evAt l k := ⟨_, rfl⟩
      rw [← hx] at y0 y1 y2 y3 y4 y5 y6 y7 y8 y9 y10 y11 HTo HBg
      clear hx
      obtain ⟨ek, ei, en, et, es, ee, ⟨st, sa, sw, sr, sn, ss⟩⟩ := x
      simp only at y0 y1 y2 y3 y4 y5 y6 y7 y8 y9 y10 y11 HTo HBg
      obtain ⟨B0, hB0⟩ : ∃ B0, B0 = begD id l k := ⟨_, rfl⟩
      rw [← hB0] at HTo HBg ⊢
      obtain ⟨to_, hto⟩ : ∃ to_, to_ = toD P id l k := ⟨_, rfl⟩
      rw [← hto] at HTo HOk
      obtain ⟨B1, hB1⟩ : ∃ B1, B1 = begD id l (k + 1) := ⟨_, rfl⟩
      rw [← hB1] at HBg
      have HB1' := hide hB1
      obtain ⟨OL, hOL⟩ : ∃ OL, OL = outS P id l k := ⟨_, rfl⟩
      rw [← hOL] at HOw HOk hol hvc ⊢
      obtain ⟨m, hm⟩ : ∃ m, m = OL.length := ⟨_, rfl⟩
      rw [← hm] at HOw hol hvc ⊢
      have Hm := hide hm
      clear hB0 hto hB1 hOL hm y2 y3 y4 y5
      go_upto_region 6 with fail
      go_cut [42] from 24 to 41 (fun v wx => v = .bool ((decide (ei = id) && decide (ek = 2)) && !B0) ∧ wr = wx)
      case first =>
        by_cases h1 : ei = id
        · have q1 : (ei == id) = true := by simp [h1]
          have q1' : decide (ei = id) = true := by simp [h1]
          by_cases h2 : ek = 2
          · have q2 : (ek == 2) = true := by simp [h2]
            have q2' : decide (ek = 2) = true := by simp [h2]
            clear h1 h2
            go_wp2_with fail
            go_meet
            exact ⟨by rw [q1', q2']; simp, rfl⟩
          · have q2 : (ek == 2) = false := by simp [h2]
            have q2' : decide (ek = 2) = false := by simp [h2]
            clear h1 h2
            go_wp2_with fail
            go_meet
            exact ⟨by rw [q2']; simp, rfl⟩
        · have q1 : (ei == id) = false := by simp [h1]
          have q1' : decide (ei = id) = false := by simp [h1]
          clear h1
          go_wp2_with fail
          go_meet
          exact ⟨by rw [q1']; simp, rfl⟩
      case rest =>
        obtain ⟨rfl, hwx⟩ := hcut
        subst hwx
        obtain ⟨c1, hc1⟩ : ∃ c1, c1 = ((decide (ei = id) && decide (ek = 2)) && !B0) := ⟨_, rfl⟩
        rw [← hc1]
        have HC1 := hide hc1
        clear hc1
        go_upto_if 42 with fail
        go_cut [9, 11] from 42 to 67 (fun bg tv wx => bg = .bool B1 ∧ tv = .int .i64 to_ ∧ Hid (wx.ownsRow (w.heap.size + 1) 110 7 (.slice VA m vc) m (flat encSd OL)) ∧ Hid (wx.ownsRow W2.heap.size 3 1 (.slice RA n rc) n (flat encI RT)) ∧ Hid (Blk wx w.heap.size 24 #[.string s, .int .i64 d, .int .i64 j, .slice PA vn pc]) ∧ Hid (Below w.heap.size w wx))
        case first =>
          cases c1 with
          | true =>
            have hc := HC1.out.symm
            simp only [Bool.and_eq_true, decide_eq_true_eq, Bool.not_eq_true'] at hc
            have HT2 := hide (show to_ = 0 by rw [HTo.out, if_pos ⟨hc.1.1, hc.1.2, hc.2⟩])
            have HG2 := hide (show B1 = true by rw [HBg.out]; simp [hc.1.1, hc.1.2])
            clear hc HC1
            go_wp2_with fail
            go_meet
            exact ⟨by rw [HG2.out], by rw [HT2.out], HOw, HRow, HPr, HB⟩
          | false =>
            by_cases h8 : (ei = id ∧ ek = 8) ∧ B0 = true
            · obtain ⟨⟨h1, h8⟩, hb0⟩ := h8
              have q1 : (ei == id) = true := by simp [h1]
              have q8 : (ek == 8) = true := by simp [h8]
              have HT2 := hide (show to_ = NextM P ⟨st, sa, sw, sr, sn, ss⟩ by rw [HTo.out, if_neg (by omega), if_pos ⟨h1, h8, hb0⟩])
              have HG2 := hide (show B1 = true by rw [HBg.out, hb0]; rfl)
              have HNk := hide (fun (w' : World) (hb : Below w.heap.size w w') => HNx.out w' hb st sa sw sr sn ss)
              rw [← HT2.out] at HNk
              subst hb0
              clear h1 h8 HC1 HTo HBg
              go_upto_region 9 with fail
              obtain ⟨V0, hV0⟩ : ∃ V9, V9 = wr.drew := ⟨_, rfl⟩
              have HB0 := hide (show Below w.heap.size w V0 by rw [hV0]; exact below_drew' HB.out)
              have HPr0 := hide (show Blk V0 w.heap.size 24 #[.string s, .int .i64 d, .int .i64 j, .slice PA vn pc] by rw [hV0]; exact HPr.out.drew)
              have HOw0 := hide (show V0.ownsRow (w.heap.size + 1) 110 7 (.slice VA m vc) m (flat encSd OL) by rw [hV0]; exact own_only HOw.out (Only.refl NoBlk _).drew (fun _ _ h => h.elim))
              have HRow0 := hide (show V0.ownsRow W2.heap.size 3 1 (.slice RA n rc) n (flat encI RT) by rw [hV0]; exact own_only HRow.out (Only.refl NoBlk _).drew (fun _ _ h => h.elim))
              have HY := hide (show V0.cell? ⟨eb, eo + k * 12 + 6, none⟩ = some (.int .i64 st) ∧ V0.cell? ⟨eb, eo + k * 12 + 7, none⟩ = some (.int .i64 sa) ∧ V0.cell? ⟨eb, eo + k * 12 + 8, none⟩ = some (.int .i64 sw) ∧ V0.cell? ⟨eb, eo + k * 12 + 9, none⟩ = some (.int .i64 sr) ∧ V0.cell? ⟨eb, eo + k * 12 + 10, none⟩ = some (.int .i64 sn) ∧ V0.cell? ⟨eb, eo + k * 12 + 11, none⟩ = some (.int .i64 ss) by rw [hV0]; exact ⟨y6, y7, y8, y9, y10, y11⟩)
              clear y0 y1 y6 y7 y8 y9 y10 y11 HB HPr HOw HRow
              refine wp_region_held (S := fun w' => w'.cell? ⟨w.heap.size, 0, none⟩ = some (.string s) ∧ w'.cell? ⟨w.heap.size, 1, none⟩ = some (.int .i64 d) ∧ w'.cell? ⟨w.heap.size, 2, none⟩ = some (.int .i64 j) ∧ w'.cell? ⟨w.heap.size, 3, none⟩ = some (.slice PA vn pc) ∧ w'.cell? ⟨eb, eo + k * 12 + 6, none⟩ = some (.int .i64 st) ∧ w'.cell? ⟨eb, eo + k * 12 + 7, none⟩ = some (.int .i64 sa) ∧ w'.cell? ⟨eb, eo + k * 12 + 8, none⟩ = some (.int .i64 sw) ∧ w'.cell? ⟨eb, eo + k * 12 + 9, none⟩ = some (.int .i64 sr) ∧ w'.cell? ⟨eb, eo + k * 12 + 10, none⟩ = some (.int .i64 sn) ∧ w'.cell? ⟨eb, eo + k * 12 + 11, none⟩ = some (.int .i64 ss)) (by kernel_rfl) ?_
              change wpAnyH _ _ _ _ _ _ _ _ wr.drew
              have hHeld : (fun w' => w'.cell? ⟨w.heap.size, 0, none⟩ = some (.string s) ∧ w'.cell? ⟨w.heap.size, 1, none⟩ = some (.int .i64 d) ∧ w'.cell? ⟨w.heap.size, 2, none⟩ = some (.int .i64 j) ∧ w'.cell? ⟨w.heap.size, 3, none⟩ = some (.slice PA vn pc) ∧ w'.cell? ⟨eb, eo + k * 12 + 6, none⟩ = some (.int .i64 st) ∧ w'.cell? ⟨eb, eo + k * 12 + 7, none⟩ = some (.int .i64 sa) ∧ w'.cell? ⟨eb, eo + k * 12 + 8, none⟩ = some (.int .i64 sw) ∧ w'.cell? ⟨eb, eo + k * 12 + 9, none⟩ = some (.int .i64 sr) ∧ w'.cell? ⟨eb, eo + k * 12 + 10, none⟩ = some (.int .i64 sn) ∧ w'.cell? ⟨eb, eo + k * 12 + 11, none⟩ = some (.int .i64 ss)) wr.drew := by rw [← hV0]; exact (by obtain ⟨⟨q0, q1, q2, q3⟩, _⟩ := (HPr0.out).four; obtain ⟨r0, r1, r2, r3, r4, r5⟩ := HY.out; exact ⟨q0, q1, q2, q3, r0, r1, r2, r3, r4, r5⟩)
              rw [← hV0] at hHeld ⊢
              simp only [List.size_toArray, List.length_cons, List.length_nil, Nat.zero_add, Nat.reduceAdd]
              clear hV0
              refine wpAnyH_take (i := 0) (v := ?_) rfl (by kernel_rfl) (by kernel_rfl) (by kernel_rfl) (fun _ _ _ h => h) (Or.inl ⟨by rfl, ?_⟩) (by assumption) ?_
              rotate_left
              · (intro w9 hS9; try simp only [List.getElem_toArray, List.getElem_cons_zero, List.getElem_cons_succ]
                 go_simp <;> rfl)
              refine wpAnyH_take (i := 1) (v := ?_) rfl (by kernel_rfl) (by kernel_rfl) (by kernel_rfl) (fun _ _ _ h => h) (Or.inl ⟨by rfl, ?_⟩) (by assumption) ?_
              rotate_left
              · (intro w9 hS9; try simp only [List.getElem_toArray, List.getElem_cons_zero, List.getElem_cons_succ]
                 go_simp <;> rfl)
              refine wpAnyH_take (i := 2) (v := ?_) rfl (by kernel_rfl) (by kernel_rfl) (by kernel_rfl) (fun _ _ _ h => h) (Or.inl ⟨by rfl, ?_⟩) (by assumption) ?_
              rotate_left
              · (intro w9 hS9; try simp only [List.getElem_toArray, List.getElem_cons_zero, List.getElem_cons_succ]
                 go_simp <;> rfl)
              refine wpAnyH_take (i := 3) (v := ?_) rfl (by kernel_rfl) (by kernel_rfl) (by kernel_rfl) (fun _ _ _ h => h) (Or.inl ⟨by rfl, ?_⟩) (by assumption) ?_
              rotate_left
              · (intro w9 hS9; try simp only [List.getElem_toArray, List.getElem_cons_zero, List.getElem_cons_succ]
                 go_simp <;> rfl)
              refine wpAnyH_take (i := 4) (v := ?_) rfl (by kernel_rfl) (by kernel_rfl) (by kernel_rfl) (fun _ _ _ h => h) (Or.inl ⟨by rfl, ?_⟩) (by assumption) ?_
              rotate_left
              · (intro w9 hS9; try simp only [List.getElem_toArray, List.getElem_cons_zero, List.getElem_cons_succ]
                 go_simp <;> rfl)
              refine wpAnyH_take (i := 5) (v := ?_) rfl (by kernel_rfl) (by kernel_rfl) (by kernel_rfl) (fun _ _ _ h => h) (Or.inl ⟨by rfl, ?_⟩) (by assumption) ?_
              rotate_left
              · (intro w9 hS9; try simp only [List.getElem_toArray, List.getElem_cons_zero, List.getElem_cons_succ]
                 go_simp <;> rfl)
              try simp only [Act.put, List.setIfInBounds_toArray, List.set_cons_zero, List.set_cons_succ, List.getElem_toArray, List.getElem_cons_zero, List.getElem_cons_succ]
              refine wpAnyH_ready (rs := [6]) (by kernel_rfl) (by simp) ?_
              refine AllReadyH.cons rfl (fun K hK => ?_) AllReadyH.nil
              try simp only [List.getElem_toArray, List.getElem_cons_zero, List.getElem_cons_succ]
              try go_simp
              go_at_call 10
              refine (HNk.out _ HB0.out).mono ?_
              rintro e V1 ⟨rfl, hb6⟩
              have HB6 := hide (HB0.out.trans (hb6.mono HB0.out.size))
              have HPr6 := hide (HPr0.out.below hb6)
              have HOw6 := hide (own_only HOw0.out (Only.of_below hb6 NoBlk) (fun _ _ h => h.elim))
              have HRow6 := hide (own_only HRow0.out (Only.of_below hb6 NoBlk) (fun _ _ h => h.elim))
              have HY6 := hide (And.intro (bkeep hb6 HY.out.1) (And.intro (bkeep hb6 HY.out.2.1) (And.intro (bkeep hb6 HY.out.2.2.1) (And.intro (bkeep hb6 HY.out.2.2.2.1) (And.intro (bkeep hb6 HY.out.2.2.2.2.1) (bkeep hb6 HY.out.2.2.2.2.2))))))
              clear hb6
              refine hK.out _ _ (by obtain ⟨⟨q0, q1, q2, q3⟩, _⟩ := (HPr6.out).four; obtain ⟨r0, r1, r2, r3, r4, r5⟩ := HY6.out; exact ⟨q0, q1, q2, q3, r0, r1, r2, r3, r4, r5⟩) (fun hHeld => ?_)
              clear hK K
              refine wpAnyH_take (i := 7) (v := ?_) rfl (by kernel_rfl) (by kernel_rfl) (by kernel_rfl) (fun _ _ _ h => h) (Or.inl ⟨by rfl, ?_⟩) (by assumption) ?_
              rotate_left
              · (intro w9 hS9; try simp only [List.getElem_toArray, List.getElem_cons_zero, List.getElem_cons_succ]
                 go_simp <;> rfl)
              try simp only [Act.put, List.setIfInBounds_toArray, List.set_cons_zero, List.set_cons_succ, List.getElem_toArray, List.getElem_cons_zero, List.getElem_cons_succ]
              refine wpAnyH_done (by kernel_rfl) ?_ _
              try simp only [Exit.then]
              clear hHeld
              go_wp2_with fail
              go_meet
              exact ⟨by rw [HG2.out], rfl, HOw6, HRow6, HPr6, HB6⟩
            · have hcf := HC1.out.symm
              have HT2 := hide (show to_ = -1 by
                rw [HTo.out, if_neg, if_neg]
                · rintro ⟨a1, a2, a3⟩; exact h8 ⟨⟨a1, a2⟩, a3⟩
                · rintro ⟨a1, a2, a3⟩
                  rw [a3] at hcf
                  simp [a1, a2] at hcf)
              have HG2 := hide (show B1 = B0 by
                rw [HBg.out]
                cases hb0 : B0 with
                | true => rfl
                | false =>
                  rw [hb0] at hcf
                  simp at hcf
                  simp
                  exact hcf)
              by_cases h1 : ei = id
              · have q1 : (ei == id) = true := by simp [h1]
                by_cases h88 : ek = 8
                · have q8 : (ek == 8) = true := by simp [h88]
                  have hb0 : B0 = false := by cases hb : B0 with | false => rfl | true => exact absurd ⟨⟨h1, h88⟩, hb⟩ h8
                  subst hb0
                  clear h1 h88 h8 hcf HC1 HTo HBg
                  go_wp2_with fail
                  go_meet
                  exact ⟨by rw [HG2.out], by rw [HT2.out], HOw, HRow, HPr, HB⟩
                · have q8 : (ek == 8) = false := by simp [h88]
                  clear h1 h88 h8 hcf HC1 HTo HBg
                  go_wp2_with fail
                  go_meet
                  exact ⟨by rw [HG2.out], by rw [HT2.out], HOw, HRow, HPr, HB⟩
              · have q1 : (ei == id) = false := by simp [h1]
                clear h1 h8 hcf HC1 HTo HBg
                go_wp2_with fail
                go_meet
                exact ⟨by rw [HG2.out], by rw [HT2.out], HOw, HRow, HPr, HB⟩
        case rest =>
          obtain ⟨rfl, rfl, HOw3, HRow3, HPr3, HB3⟩ := hcut
          obtain ⟨SB, hSB⟩ : ∃ SB, SB = sendB P to_ := ⟨_, rfl⟩
          have HSB2 := hide (show SB = ((decide (0 ≤ to_) && decide (to_ < vn)) && decide (((L.map (·.o)).getD to_.toNat opM0).kind = 1)) from by rw [hSB]; exact HSB.out to_)
          rw [← hSB] at HOk
          obtain ⟨⟨_, _, _, p3⟩, _⟩ := HPr3.out.four
          clear hSB HB HPr HOw HRow HC1 HTo HBg y0 y1 y6 y7 y8 y9 y10 y11
          go_upto_region 10 with fail
          go_cut [85] from 68 to 84 (fun v wx => v = .bool (!SB) ∧ wc = wx)
          case first =>
            by_cases h0 : to_ < 0
            · have b0 : decide (to_ < 0) = true := by simp [h0]
              have HF := hide (show SB = false by rw [HSB2.out, show decide (0 ≤ to_) = false by simp; omega]; rfl)
              clear h0
              go_wp2_with fail
              go_meet
              exact ⟨by rw [HF.out]; rfl, rfl⟩
            · have b0 : decide (to_ < 0) = false := by simp; omega
              by_cases h1 : (vn : Int) ≤ to_
              · have b1 : decide ((vn : Int) ≤ to_) = true := by simp [h1]
                have HF := hide (show SB = false by rw [HSB2.out, show decide (to_ < (vn : Int)) = false by simp; omega]; simp)
                clear h0 h1
                go_wp2_with fail
                go_meet
                exact ⟨by rw [HF.out]; rfl, rfl⟩
              · have b1 : decide ((vn : Int) ≤ to_) = false := by simp; omega
                obtain ⟨q, hq⟩ : ∃ q : Nat, to_ = q := ⟨to_.toNat, by omega⟩
                subst hq
                have hqm : q < vn := by omega
                have b1n : decide (vn ≤ q) = false := by simp; omega
                have i1 : (0 : Int) ≤ (q : Int) := by omega
                have i2 : (q : Int) < (vn : Int) := by omega
                obtain ⟨pb, ob, hPA, hpb, z0, z1, z2, z3, z4, z5, z6⟩ := HOp.out wc HB3.out q hqm
                rw [hPA] at p3
                have HF := hide (show SB = decide ((opAt L q).o.kind = 1) by
                  rw [HSB2.out, show ((L.map (·.o)).getD (q : Int).toNat opM0) = (opAt L q).o from HG.out q hqm, show decide ((0 : Int) ≤ (q : Int)) = true by simp, show decide ((q : Int) < (vn : Int)) = true by simp; omega]; rfl)
                obtain ⟨ok, hok⟩ : ∃ ok, ok = (opAt L q).o.kind := ⟨_, rfl⟩
                rw [← hok] at z0 HF
                clear z1 z2 z3 z4 z5 z6 hok h0 h1 hPA
                by_cases hk1 : ok = 1
                · have b2 : (ok != 1) = false := by simp [hk1]
                  have HF2 := hide (show SB = true by rw [HF.out]; simp [hk1])
                  clear hk1
                  go_wp2_with fail
                  go_meet
                  exact ⟨by rw [HF2.out]; rfl, rfl⟩
                · have b2 : (ok != 1) = true := by simpa using hk1
                  have HF2 := hide (show SB = false by rw [HF.out]; simp [hk1])
                  clear hk1
                  go_wp2_with fail
                  go_meet
                  exact ⟨by rw [HF2.out]; rfl, rfl⟩
          case rest =>
            obtain ⟨rfl, hwx⟩ := hcut
            subst hwx
            cases SB with
            | false =>
              have HOn := hide (show outS P id l (k + 1) = OL by rw [HOk.out]; simp)
              go_wp2_with fail
              go_roundw
              case rel => exact ⟨k + 1, by omega, by go_num, by rw [HB1'.out], by rw [HOn.out, ← Hm.out]; exact HOw3, HRow3, HPr3, HB3⟩
              case measure => simp [intOf]; omega
            | true =>
              have hh := HSB2.out.symm
              simp only [Bool.and_eq_true, decide_eq_true_eq] at hh
              obtain ⟨⟨hq0, hq1⟩, _⟩ := hh
              obtain ⟨q, hq⟩ : ∃ q : Nat, to_ = q := ⟨to_.toNat, by omega⟩
              subst hq
              have hqm : q < vn := by omega
              have i1 : (0 : Int) ≤ (q : Int) := by omega
              have i2 : (q : Int) < (vn : Int) := by omega
              have HOpq := hide (fun (w' : World) (hb : Below w.heap.size w w') => HOp.out w' hb q hqm)
              obtain ⟨pb, ob, hPA, hpb, _⟩ := HOpq.out wc HB3.out
              have HTxt := hide (show ∀ (w' : World), Below w.heap.size w w' → w'.cell? ⟨pb, ob + q * 7 + 1, none⟩ = some (.string (opAt L q).o.text) from fun w' hb => by
                obtain ⟨pb2, ob2, hP2, _, _, z1, _⟩ := HOpq.out w' hb
                rw [hPA] at hP2
                injection hP2 with hP2
                injection hP2 with h1 h2
                subst h1 h2
                exact z1)
              have HPA := hide hPA
              have hoz := HOz.out q hqm
              have HX0 := hide (show ∀ now, sendN P id (q : Int) now = ⟨id, q, (opAt L q).o.text.size, now, 0, false, 0⟩ from fun now => by
                rw [HSN.out, show ((L.map (·.o)).getD (q : Int).toNat opM0) = (opAt L q).o from HG.out q hqm])
              obtain ⟨ot, hot⟩ : ∃ ot, ot = (opAt L q).o.text := ⟨_, rfl⟩
              rw [← hot] at HTxt hoz HX0
              have hrd := HRn.out k
              obtain ⟨Rk, hRk⟩ : ∃ Rk, Rk = rndD l k := ⟨_, rfl⟩
              rw [← hRk] at HOk hrd
              have HRk := hide (show nth RT k = Rk by rw [hRk]; exact HRa.out k hlt)
              obtain ⟨rb, ro, hRA, hrb, _⟩ := id_cell (Rd.of_own (M := NoBlk) HRow3.out (fun _ h => h.elim)) k (by rw [HRl.out]; exact hlt)
              subst hRA
              have HRc := hide (show ∀ (w' : World), w'.ownsRow W2.heap.size 3 1 (.slice (some ⟨rb, ro, none⟩) n rc) n (flat encI RT) → ∀ t, t < n → w'.cell? ⟨rb, ro + t, none⟩ = some (.int .i64 (nth RT t)) from fun w' h t ht => by
                obtain ⟨b2, o2, hA2, _, hc⟩ := id_cell (Rd.of_own (M := NoBlk) h (fun _ h => h.elim)) t (by rw [HRl.out]; exact ht)
                injection hA2 with hA2
                injection hA2 with h1 h2
                subst h1 h2
                exact hc)
              obtain ⟨x0, hx0⟩ : ∃ x0, x0 = sendN P id (q : Int) Rk := ⟨_, rfl⟩
              rw [← hx0] at HOk
              have HX0' := hide (show x0 = ⟨id, q, ot.size, Rk, 0, false, 0⟩ by rw [hx0]; exact HX0.out Rk)
              have HOn := hide (show outS P id l (k + 1) = OL ++ [(scanD id l x0 k n).1] by rw [HOk.out]; simp)
              clear hPA hot hRk hx0 hq0 hq1 p3 HOk HSB2 HX0
              go_upto_region 11 with fail
              obtain ⟨V0, hV0⟩ : ∃ V9, V9 = wc.drew := ⟨_, rfl⟩
              have HB0 := hide (show Below w.heap.size w V0 by rw [hV0]; exact below_drew' HB3.out)
              have HPr0 := hide (show Blk V0 w.heap.size 24 #[.string s, .int .i64 d, .int .i64 j, .slice PA vn pc] by rw [hV0]; exact HPr3.out.drew)
              have HOw0 := hide (show V0.ownsRow (w.heap.size + 1) 110 7 (.slice VA m vc) m (flat encSd OL) by rw [hV0]; exact own_only HOw3.out (Only.refl NoBlk _).drew (fun _ _ h => h.elim))
              have HRow0 := hide (show V0.ownsRow W2.heap.size 3 1 (.slice (some ⟨rb, ro, none⟩) n rc) n (flat encI RT) by rw [hV0]; exact own_only HRow3.out (Only.refl NoBlk _).drew (fun _ _ h => h.elim))
              clear HB3 HPr3 HOw3 HRow3
              refine wp_region_held (S := fun w' => w'.cell? ⟨w.heap.size, 3, none⟩ = some (.slice (some ⟨pb, ob, none⟩) vn pc) ∧ w'.cell? ⟨pb, ob + q * 7 + 1, none⟩ = some (.string ot) ∧ w'.cell? ⟨rb, ro + k, none⟩ = some (.int .i64 Rk)) (by kernel_rfl) ?_
              change wpAnyH _ _ _ _ _ _ _ _ wc.drew
              have hHeld : (fun w' => w'.cell? ⟨w.heap.size, 3, none⟩ = some (.slice (some ⟨pb, ob, none⟩) vn pc) ∧ w'.cell? ⟨pb, ob + q * 7 + 1, none⟩ = some (.string ot) ∧ w'.cell? ⟨rb, ro + k, none⟩ = some (.int .i64 Rk)) wc.drew := by rw [← hV0]; exact ⟨by rw [← HPA.out, (HPr0.out).cell]; rfl, HTxt.out _ HB0.out, by rw [HRc.out _ HRow0.out k hlt, HRk.out]⟩
              rw [← hV0] at hHeld ⊢
              simp only [List.size_toArray, List.length_cons, List.length_nil, Nat.zero_add, Nat.reduceAdd]
              clear hV0
              refine wpAnyH_take (i := 0) (v := ?_) rfl (by kernel_rfl) (by kernel_rfl) (by kernel_rfl) (fun _ _ _ h => h) (Or.inl ⟨by rfl, ?_⟩) (by assumption) ?_
              rotate_left
              · (intro w9 hS9; try simp only [List.getElem_toArray, List.getElem_cons_zero, List.getElem_cons_succ]
                 go_simp <;> rfl)
              refine wpAnyH_take (i := 1) (v := ?_) rfl (by kernel_rfl) (by kernel_rfl) (by kernel_rfl) (fun _ _ _ h => h) (Or.inl ⟨by rfl, ?_⟩) (by assumption) ?_
              rotate_left
              · (intro w9 hS9; try simp only [List.getElem_toArray, List.getElem_cons_zero, List.getElem_cons_succ]
                 go_simp <;> rfl)
              refine wpAnyH_take (i := 2) (v := ?_) rfl (by kernel_rfl) (by kernel_rfl) (by kernel_rfl) (fun _ _ _ h => h) (Or.inl ⟨by rfl, ?_⟩) (by assumption) ?_
              rotate_left
              · (intro w9 hS9; try simp only [List.getElem_toArray, List.getElem_cons_zero, List.getElem_cons_succ]
                 go_simp <;> rfl)
              refine wpAnyH_take (i := 3) (v := ?_) rfl (by kernel_rfl) (by kernel_rfl) (by kernel_rfl) (fun _ _ _ h => h) (Or.inl ⟨by rfl, ?_⟩) (by assumption) ?_
              rotate_left
              · (intro w9 hS9; try simp only [List.getElem_toArray, List.getElem_cons_zero, List.getElem_cons_succ]
                 go_simp <;> rfl)
              refine wpAnyH_take (i := 4) (v := ?_) rfl (by kernel_rfl) (by kernel_rfl) (by kernel_rfl) (fun _ _ _ h => h) (Or.inl ⟨by rfl, ?_⟩) (by assumption) ?_
              rotate_left
              · (intro w9 hS9; try simp only [List.getElem_toArray, List.getElem_cons_zero, List.getElem_cons_succ]
                 go_simp <;> rfl)
              refine wpAnyH_take (i := 5) (v := ?_) rfl (by kernel_rfl) (by kernel_rfl) (by kernel_rfl) (fun _ _ _ h => h) (Or.inl ⟨by rfl, ?_⟩) (by assumption) ?_
              rotate_left
              · (intro w9 hS9; try simp only [List.getElem_toArray, List.getElem_cons_zero, List.getElem_cons_succ]
                 go_simp <;> rfl)
              refine wpAnyH_take (i := 6) (v := ?_) rfl (by kernel_rfl) (by kernel_rfl) (by kernel_rfl) (fun _ _ _ h => h) (Or.inl ⟨by rfl, ?_⟩) (by assumption) ?_
              rotate_left
              · (intro w9 hS9; try simp only [List.getElem_toArray, List.getElem_cons_zero, List.getElem_cons_succ]
                 go_simp <;> rfl)
              refine wpAnyH_take (i := 7) (v := ?_) rfl (by kernel_rfl) (by kernel_rfl) (by kernel_rfl) (fun _ _ _ h => h) (Or.inl ⟨by rfl, ?_⟩) (by assumption) ?_
              rotate_left
              · (intro w9 hS9; try simp only [List.getElem_toArray, List.getElem_cons_zero, List.getElem_cons_succ]
                 go_simp <;> rfl)
              refine wpAnyH_take (i := 8) (v := ?_) rfl (by kernel_rfl) (by kernel_rfl) (by kernel_rfl) (fun _ _ _ h => h) (Or.inl ⟨by rfl, ?_⟩) (by assumption) ?_
              rotate_left
              · (intro w9 hS9; try simp only [List.getElem_toArray, List.getElem_cons_zero, List.getElem_cons_succ]
                 go_simp <;> rfl)
              refine wpAnyH_take (i := 9) (v := ?_) rfl (by kernel_rfl) (by kernel_rfl) (by kernel_rfl) (fun _ _ _ h => h) (Or.inl ⟨by rfl, ?_⟩) (by assumption) ?_
              rotate_left
              · (intro w9 hS9; try simp only [List.getElem_toArray, List.getElem_cons_zero, List.getElem_cons_succ]
                 go_simp <;> rfl)
              refine wpAnyH_take (i := 10) (v := ?_) rfl (by kernel_rfl) (by kernel_rfl) (by kernel_rfl) (fun _ _ _ h => h) (Or.inl ⟨by rfl, ?_⟩) (by assumption) ?_
              rotate_left
              · (intro w9 hS9; try simp only [List.getElem_toArray, List.getElem_cons_zero, List.getElem_cons_succ]
                 go_simp <;> rfl)
              refine wpAnyH_take (i := 11) (v := ?_) rfl (by kernel_rfl) (by kernel_rfl) (by kernel_rfl) (fun _ _ _ h => h) (Or.inl ⟨by rfl, ?_⟩) (by assumption) ?_
              rotate_left
              · (intro w9 hS9; try simp only [List.getElem_toArray, List.getElem_cons_zero, List.getElem_cons_succ]
                 go_simp <;> rfl)
              refine wpAnyH_take (i := 12) (v := ?_) rfl (by kernel_rfl) (by kernel_rfl) (by kernel_rfl) (fun _ _ _ h => h) (Or.inl ⟨by rfl, ?_⟩) (by assumption) ?_
              rotate_left
              · (intro w9 hS9; try simp only [List.getElem_toArray, List.getElem_cons_zero, List.getElem_cons_succ]
                 go_simp <;> rfl)
              refine wpAnyH_take (i := 13) (v := .agg #[.int .i64 id, .int .i64 (q : Int), .int .i64 (ot.size : Int), .int .i64 Rk, .int .i64 0, .bool false, .int .i64 0]) rfl (by kernel_rfl) (by kernel_rfl) (by kernel_rfl) (fun _ _ _ h => h) (Or.inl ⟨by rfl, ?_⟩) (by assumption) ?_
              · (intro w9 hS9; try simp only [List.getElem_toArray, List.getElem_cons_zero, List.getElem_cons_succ]
                 go_simp <;> rfl)
              try simp only [Act.put, List.setIfInBounds_toArray, List.set_cons_zero, List.set_cons_succ, List.getElem_toArray, List.getElem_cons_zero, List.getElem_cons_succ]
              refine wpAnyH_ready (rs := [14]) (by kernel_rfl) (by simp) ?_
              refine AllReadyH.cons rfl (fun K hK => ?_) AllReadyH.nil
              try simp only [List.getElem_toArray, List.getElem_cons_zero, List.getElem_cons_succ]
              try go_simp
              obtain ⟨V1, hV1⟩ : ∃ V9, V9 = V0.alloc (.cells #[.int .i64 0, .int .i64 0, .int .i64 0, .int .i64 0, .int .i64 0, .bool false, .int .i64 0] 110) := ⟨_, rfl⟩
              obtain ⟨xg, hxg⟩ : ∃ g, g = V0.heap.size := ⟨_, rfl⟩
              have HB1 := hide (show Below w.heap.size w V1 by rw [hV1]; exact HB0.out.alloc HB0.out.size _)
              have HPr1 := hide (show Blk V1 w.heap.size 24 #[.string s, .int .i64 d, .int .i64 j, .slice PA vn pc] by rw [hV1]; exact HPr0.out.alloc _)
              have HOw1 := hide (show V1.ownsRow (w.heap.size + 1) 110 7 (.slice VA m vc) m (flat encSd OL) by rw [hV1]; exact own_only HOw0.out ((Only.refl NoBlk _).alloc _) (fun _ _ h => h.elim))
              have HRow1 := hide (show V1.ownsRow W2.heap.size 3 1 (.slice (some ⟨rb, ro, none⟩) n rc) n (flat encI RT) by rw [hV1]; exact own_only HRow0.out ((Only.refl NoBlk _).alloc _) (fun _ _ h => h.elim))
              have HXz := hide (show Blk V1 xg 110 #[.int .i64 0, .int .i64 0, .int .i64 0, .int .i64 0, .int .i64 0, .bool false, .int .i64 0] by rw [hV1, hxg]; exact Blk.new _ _ _)
              have hxb : w.heap.size ≤ xg := by rw [hxg]; exact HB0.out.size
              have hxo : ∀ kk, (Value.slice VA m vc).ownBlock = some kk → kk ≠ xg := fun kk hk => by have := own_ltF HOw0.out kk hk; omega
              have HXo := hide hxo
              rw [← hV1]
              rw [← hxg]
              clear hV1 hxg hxo
              refine hK.out _ _ ⟨by rw [← HPA.out, (HPr1.out).cell]; rfl, HTxt.out _ HB1.out, by rw [HRc.out _ HRow1.out k hlt, HRk.out]⟩ (fun hHeld => ?_)
              clear hK K
              try simp only [Act.put, List.setIfInBounds_toArray, List.set_cons_zero, List.set_cons_succ, List.getElem_toArray, List.getElem_cons_zero, List.getElem_cons_succ]
              obtain ⟨c0, c1, c2, c3, c4, c5, c6⟩ := HXz.out.sevenB
              have f0 := HXz.out.frozen 0
              have f1 := HXz.out.frozen 1
              have f2 := HXz.out.frozen 2
              have f3 := HXz.out.frozen 3
              have f4 := HXz.out.frozen 4
              have f5 := HXz.out.frozen 5
              have f6 := HXz.out.frozen 6
              refine wpAnyH_ready (rs := [15]) (by kernel_rfl) (by simp) ?_
              refine AllReadyH.cons rfl (fun K hK => ?_) AllReadyH.nil
              try simp only [List.getElem_toArray, List.getElem_cons_zero, List.getElem_cons_succ]
              try go_simp
              rw [put7]
              obtain ⟨V2, hV2⟩ : ∃ V9, V9 = putFrom V1 xg 0 [.int .i64 id, .int .i64 (q : Int), .int .i64 (ot.size : Int), .int .i64 Rk, .int .i64 0, .bool false, .int .i64 0] := ⟨_, rfl⟩
              have HB2' := hide (show Below w.heap.size w V2 by rw [hV2]; exact below_put _ 0 HB1.out hxb)
              have HPr2 := hide (show Blk V2 w.heap.size 24 #[.string s, .int .i64 d, .int .i64 j, .slice PA vn pc] by rw [hV2]; exact HPr1.out.only (only_put _ 0 V1 xg) (fun h => Blk.ne_ HPr1.out HXz.out (by decide) h))
              have HOw2 := hide (show V2.ownsRow (w.heap.size + 1) 110 7 (.slice VA m vc) m (flat encSd OL) by rw [hV2]; exact own_keepX HOw1.out (only_put _ 0 V1 xg) HXo.out)
              have HRow2 := hide (show V2.ownsRow W2.heap.size 3 1 (.slice (some ⟨rb, ro, none⟩) n rc) n (flat encI RT) by rw [hV2]; exact own_only HRow1.out (only_put _ 0 V1 xg) (fun g cs hg hbk => by have : g = xg := hg; subst this; exact Blk.ne_ hbk HXz.out (by decide) rfl))
              have HX2 := hide (show Blk V2 xg 110 (encSd x0).toArray by rw [hV2, HX0'.out]; exact HXz.out.put [.int .i64 id, .int .i64 (q : Int), .int .i64 (ot.size : Int), .int .i64 Rk, .int .i64 0, .bool false, .int .i64 0] rfl)
              rw [← hV2]
              clear hV2 c0 c1 c2 c3 c4 c5 c6 f0 f1 f2 f3 f4 f5 f6
              refine hK.out _ _ ⟨by rw [← HPA.out, (HPr2.out).cell]; rfl, HTxt.out _ HB2'.out, by rw [HRc.out _ HRow2.out k hlt, HRk.out]⟩ (fun hHeld => ?_)
              clear hK K
              try simp only [Act.put, List.setIfInBounds_toArray, List.set_cons_zero, List.set_cons_succ, List.getElem_toArray, List.getElem_cons_zero, List.getElem_cons_succ]
              refine wpAnyH_done (by kernel_rfl) ?_ _
              try simp only [Exit.then]
              clear hHeld
              clear HXz HB1 HPr1 HOw1 HRow1 HB0 HPr0 HOw0 HRow0
              have HSc0 := hide (scanD_low id l x0 k)
              have HT0 := hide (show 0 ≤ x0.taken ∧ x0.taken ≤ 1000000000 by rw [HX0'.out]; simp)
              go_wp2_with fail
              go_loopw [13, 14] (fun kv ov w2 => ∃ (q2 : Nat) (sx : SdM) (so : Bool), k < q2 ∧ q2 ≤ n ∧ kv = .int .i64 q2 ∧ ov = .bool so ∧ Hid (scanD id l x0 k q2 = (sx, so)) ∧ Hid (Blk w2 xg 110 (encSd sx).toArray) ∧ Hid (w2.ownsRow (w.heap.size + 1) 110 7 (.slice VA m vc) m (flat encSd OL)) ∧ Hid (w2.ownsRow W2.heap.size 3 1 (.slice (some ⟨rb, ro, none⟩) n rc) n (flat encI RT)) ∧ Hid (Blk w2 w.heap.size 24 #[.string s, .int .i64 d, .int .i64 j, .slice PA vn pc]) ∧ Hid (Below w.heap.size w w2)) (fun kv _ _ => n - (intOf kv).toNat)
              case atStart => exact ⟨k + 1, x0, false, by omega, by omega, by go_num, rfl, HSc0, HX2, HOw2, HRow2, HPr2, HB2'⟩
              case round =>
                clear HX2 HOw2 HRow2 HPr2 HB2' HSc0
                obtain ⟨q2, sx, so, hkq, hq2n, rfl, rfl, HSx, HXb, HOw, HRow, HPr, HB⟩ := hrel
                have w2' : IntKind.i64.wrap ((q2 : Int) + 1) = (q2 : Int) + 1 := IntWalk.i64_in _ (by omega)
                by_cases hend : q2 < n ∧ so = false
                case neg =>
                  have HFin := hide (show (scanD id l x0 k n).1 = sx from by
                    by_cases hq : q2 = n
                    · rw [← hq, HSx.out]
                    · have hso : so = true := by cases so with | true => rfl | false => exact absurd ⟨by omega, rfl⟩ hend
                      rw [scan_stay (by rw [HSx.out]; exact hso) hkq n hq2n, HSx.out])
                  have HOe := hide (show outS P id l (k + 1) = OL ++ [sx] by rw [HOn.out, HFin.out])
                  have HLn := hide (show (outS P id l (k + 1)).length = m + 1 by rw [HOe.out, List.length_append, ← Hm.out]; rfl)
                  have HNew := hide (rd_blkN (M := NoBlk) (Blk.new wr 110 (encSd sx).toArray) (fun h => h))
                  have hga : w.heap.size + 1 ≤ wr.heap.size := HPr.out.lt
                  obtain ⟨c0, c1, c2, c3, c4, c5, c6⟩ := (show Blk wr xg 110 #[.int .i64 sx.id, .int .i64 sx.op, .int .i64 sx.long, .int .i64 sx.from_, .int .i64 sx.taken, .bool sx.done, .int .i64 sx.at_] from HXb.out).sevenB
                  have HEn := hide hend
                  by_cases hq : q2 < n
                  · have e3 : decide ((q2 : Int) < (n : Int)) = true := by simp; exact hq
                    have e4 : decide (q2 < n) = true := by simp; exact hq
                    obtain rfl : so = true := by cases so with | true => rfl | false => exact absurd ⟨hq, rfl⟩ hend
                    clear hq hend
                    go_upto_region 21 with fail
                    go_wp2_with (at_builtin; refine wpList_append_rd _ rfl (.tmp 187) (.tmp 189) _ rfl (w.heap.size + 1) 110 il _ 7 56 Tryz.underlying65 hil hlz0 hlz1 hlz2 rfl (by omega) _ m _ rfl (own_only HOw.out ((Only.refl NoBlk wr).alloc (.cells (encSd sx).toArray 110)) (fun _ _ h => h.elim)) NoBlk (some ⟨wr.heap.size, 0, none⟩) 1 1 (encSd sx) rfl HNew.out rfl (encSd_one _) (by simp only [maxLen]; omega) (by omega) (by simp; omega) ?_; intro v2 wb hown2 hgr _; have Own2 := hide hown2; have Gr := hide hgr; clear hown2 hgr)
                    have HBz := hide ((HB.out.alloc HB.out.size (.cells (encSd sx).toArray 110)).grown Gr.out (by simp; omega) (fun q hq => by have := own_ge HOw.out q hq; omega))
                    have HPz := hide (Blk.grown (HPr.out.alloc (.cells (encSd sx).toArray 110)) (own_only HOw.out ((Only.refl NoBlk wr).alloc (.cells (encSd sx).toArray 110)) (fun _ _ h => h.elim)) (by decide) Gr.out)
                    have HRz := hide (own_grown (own_only HRow.out ((Only.refl NoBlk wr).alloc (.cells (encSd sx).toArray 110)) (fun _ _ h => h.elim)) (own_only HOw.out ((Only.refl NoBlk wr).alloc (.cells (encSd sx).toArray 110)) (fun _ _ h => h.elim)) (by decide) Gr.out)
                    have HOz' := hide (show wb.ownsRow (w.heap.size + 1) 110 7 v2 (outS P id l (k + 1)).length (flat encSd (outS P id l (k + 1))) from by
                      rw [HLn.out, HOe.out]
                      have e : flat encSd (OL ++ [sx]) = flat encSd OL ++ encSd sx := by simp [flat]
                      rw [e]
                      exact Own2.out)
                    clear Own2 Gr HNew
                    go_roundw
                    case rel => exact ⟨k + 1, by omega, by go_num, by rw [HB1'.out], HOz', HRz, HPz, HBz⟩
                    case measure => simp [intOf]; omega
                  · have e3 : decide ((q2 : Int) < (n : Int)) = false := by simp; omega
                    have e4 : decide (q2 < n) = false := by simp; omega
                    clear hq hend
                    go_upto_region 21 with fail
                    go_wp2_with (at_builtin; refine wpList_append_rd _ rfl (.tmp 187) (.tmp 189) _ rfl (w.heap.size + 1) 110 il _ 7 56 Tryz.underlying65 hil hlz0 hlz1 hlz2 rfl (by omega) _ m _ rfl (own_only HOw.out ((Only.refl NoBlk wr).alloc (.cells (encSd sx).toArray 110)) (fun _ _ h => h.elim)) NoBlk (some ⟨wr.heap.size, 0, none⟩) 1 1 (encSd sx) rfl HNew.out rfl (encSd_one _) (by simp only [maxLen]; omega) (by omega) (by simp; omega) ?_; intro v2 wb hown2 hgr _; have Own2 := hide hown2; have Gr := hide hgr; clear hown2 hgr)
                    have HBz := hide ((HB.out.alloc HB.out.size (.cells (encSd sx).toArray 110)).grown Gr.out (by simp; omega) (fun q hq => by have := own_ge HOw.out q hq; omega))
                    have HPz := hide (Blk.grown (HPr.out.alloc (.cells (encSd sx).toArray 110)) (own_only HOw.out ((Only.refl NoBlk wr).alloc (.cells (encSd sx).toArray 110)) (fun _ _ h => h.elim)) (by decide) Gr.out)
                    have HRz := hide (own_grown (own_only HRow.out ((Only.refl NoBlk wr).alloc (.cells (encSd sx).toArray 110)) (fun _ _ h => h.elim)) (own_only HOw.out ((Only.refl NoBlk wr).alloc (.cells (encSd sx).toArray 110)) (fun _ _ h => h.elim)) (by decide) Gr.out)
                    have HOz' := hide (show wb.ownsRow (w.heap.size + 1) 110 7 v2 (outS P id l (k + 1)).length (flat encSd (outS P id l (k + 1))) from by
                      rw [HLn.out, HOe.out]
                      have e : flat encSd (OL ++ [sx]) = flat encSd OL ++ encSd sx := by simp [flat]
                      rw [e]
                      exact Own2.out)
                    clear Own2 Gr HNew
                    go_roundw
                    case rel => exact ⟨k + 1, by omega, by go_num, by rw [HB1'.out], HOz', HRz, HPz, HBz⟩
                    case measure => simp [intOf]; omega
                case pos =>
                  obtain ⟨hlt2, hso⟩ := hend
                  subst hso
                  obtain ⟨eb2, eo2, hA2, _, _, y0, y1, y2, y3, y4, y5, y6, y7, y8, y9, y10, y11⟩ := HEv.out wr HB.out q2 hlt2
                  injection hA2 with hA2
                  injection hA2 with h1 h2
                  subst h1 h2
                  have HSuc := hide (show scanD id l x0 k (q2 + 1) = scanStep id l q2 (sx, false) by rw [scanD_succ _ _ _ _ _ hkq, HSx.out])
                  have HSte := hide (show scanStep id l q2 (sx, false) = if (evAt l q2).id ≠ id then (sx, false) else (if (evAt l q2).k = 6 then writeX (rndD l q2) (evAt l q2).n sx else if overD (evAt l q2) = true then doneX (rndD l q2) sx else sx, overD (evAt l q2)) from by unfold scanStep; rw [if_neg (by simp)])
                  have HOv := hide (show overD (evAt l q2) = (decide ((evAt l q2).k = 8) && !isLook (evAt l q2).st) from rfl)
                  have e3 : decide ((q2 : Int) < (n : Int)) = true := by simp; exact hlt2
                  have e4 : decide (q2 < n) = true := by simp; exact hlt2
                  have j3 : (0 : Int) ≤ (q2 : Int) := by omega
                  have j4 : (q2 : Int) < (n : Int) := by omega
                  have HEc := hide (show ∀ (w' : World), Below w.heap.size w w' → w'.cell? ⟨eb, eo + q2 * 12, none⟩ = some (.int .i64 (evAt l q2).k) ∧ w'.cell? ⟨eb, eo + q2 * 12 + 2, none⟩ = some (.int .i64 (evAt l q2).n) from fun w' hb => by
                    obtain ⟨b3, o3, hA3, _, _, v0, _, v2, _⟩ := HEv.out w' hb q2 hlt2
                    injection hA3 with hA3
                    injection hA3 with h3 h4
                    subst h3 h4
                    exact ⟨v0, v2⟩)
                  obtain ⟨x, hx⟩ : ∃ x, x = evAt l q2 := ⟨_, rfl⟩
                  rw [← hx] at y0 y1 y2 y8 HSte HOv HEc
                  clear hx y3 y4 y5 y6 y7 y9 y10 y11
                  obtain ⟨ek2, ei2, en2, et2, es2, ee2, ⟨st2, sa2, sw2, sr2, sn2, ss2⟩⟩ := x
                  simp only at y0 y1 y2 y8 HSte HOv HEc
                  obtain ⟨R2, hR2⟩ : ∃ R2, R2 = rndD l q2 := ⟨_, rfl⟩
                  have HR2 := hide (show nth RT q2 = R2 by rw [hR2]; exact HRa.out q2 hlt2)
                  rw [← hR2] at HSte
                  have HTk := hide (show 0 ≤ sx.taken ∧ sx.taken ≤ 1000000000 from by have := scan_taken (id := id) (l := l) (i := k) HT0.out q2; rw [HSx.out] at this; exact this)
                  have htk := HTk.out
                  obtain ⟨c0, c1, c2, c3, c4, c5, c6⟩ := (show Blk wr xg 110 #[.int .i64 sx.id, .int .i64 sx.op, .int .i64 sx.long, .int .i64 sx.from_, .int .i64 sx.taken, .bool sx.done, .int .i64 sx.at_] from HXb.out).sevenB
                  clear hR2
                  by_cases h1 : ei2 = id
                  case neg =>
                    have b1 : (ei2 != id) = true := by simpa using h1
                    have HN := hide (show scanD id l x0 k (q2 + 1) = (sx, false) by rw [HSuc.out, HSte.out, if_pos h1])
                    clear h1
                    go_wp2_with fail
                    go_roundw
                    case rel => exact ⟨q2 + 1, sx, false, by omega, by omega, by go_num, rfl, HN, HXb, HOw, HRow, HPr, HB⟩
                    case measure => simp [intOf]; omega
                  case pos =>
                    have b1 : (ei2 != id) = false := by simp [h1]
                    have HSt2 := hide (HSte.out.trans (if_neg (by simp [h1])))
                    clear h1 HSte
                    by_cases h6 : ek2 = 6
                    case pos =>
                      have b6 : (ek2 == 6) = true := by simp [h6]
                      have b8 : (ek2 == 8) = false := by simp [h6]
                      have HN0 := hide (show scanD id l x0 k (q2 + 1) = (writeX R2 en2 sx, false) by rw [HSuc.out, HSt2.out, if_pos h6, HOv.out]; simp [h6])
                      have HWx := hide (show writeX R2 en2 sx = if sx.long ≤ richD sx.taken en2 then doneX R2 (takeX en2 sx) else takeX en2 sx from rfl)
                      have hwi := within_bd en2
                      have HG1 := hide (show within (sx.taken + within en2 0 1000000000) 0 1000000000 = richD sx.taken en2 from within_rich htk.1)
                      have w5 : IntKind.i64.wrap (sx.taken + within en2 0 1000000000) = sx.taken + within en2 0 1000000000 := IntWalk.i64_in _ (by omega)
                      have HTx := hide (show takeX en2 sx = { sx with taken := richD sx.taken en2 } from rfl)
                      obtain ⟨TK, hTK⟩ : ∃ TK, TK = richD sx.taken en2 := ⟨_, rfl⟩
                      rw [← hTK] at HWx HG1 HTx
                      obtain ⟨y, hy⟩ : ∃ y : SdM, y = { sx with taken := TK } := ⟨_, rfl⟩
                      have HWy := hide (show writeX R2 en2 sx = if y.long ≤ y.taken then doneX R2 y else y by rw [HWx.out, HTx.out, hy])
                      have HYd := hide hy
                      clear h6 hTK hwi htk HWx HTx hy
                      go_upto_region 18 with fail

                      obtain ⟨U0, hV0⟩ : ∃ V9, V9 = wr.drew := ⟨_, rfl⟩
                      have HBu0 := hide (show Below w.heap.size w U0 by rw [hV0]; exact below_drew' HB.out)
                      have HPru0 := hide (show Blk U0 w.heap.size 24 #[.string s, .int .i64 d, .int .i64 j, .slice PA vn pc] by rw [hV0]; exact HPr.out.drew)
                      have HOwu0 := hide (show U0.ownsRow (w.heap.size + 1) 110 7 (.slice VA m vc) m (flat encSd OL) by rw [hV0]; exact own_only HOw.out (Only.refl NoBlk _).drew (fun _ _ h => h.elim))
                      have HRowu0 := hide (show U0.ownsRow W2.heap.size 3 1 (.slice (some ⟨rb, ro, none⟩) n rc) n (flat encI RT) by rw [hV0]; exact own_only HRow.out (Only.refl NoBlk _).drew (fun _ _ h => h.elim))
                      have HXbu0 := hide (show Blk U0 xg 110 (encSd sx).toArray by rw [hV0]; exact HXb.out.drew)
                      refine wp_region_pref (l1 := ?_) (l2 := ?_) 11 (fun w' => w'.cell? ⟨xg, 4, none⟩ = some (.int .i64 sx.taken) ∧ w'.cell? ⟨eb, eo + q2 * 12 + 2, none⟩ = some (.int .i64 en2)) (by kernel_rfl) ?_ ?_ ?_ ?_ ?_ ?_ (fun hHeld => ?_)
                      rotate_left 2
                      · simp
                      · kernel_rfl
                      · kernel_rfl
                      · simp only [List.take_succ_cons, List.take_zero]; rfl
                      · simp only [List.drop_succ_cons, List.drop_zero]; rfl
                      · rw [← hV0]; exact ⟨by rw [HXbu0.out.cell]; rfl, (HEc.out _ HBu0.out).2⟩
                      rw [← hV0] at hHeld ⊢
                      clear hV0
                      refine wpAnyH_take (i := 0) (v := ?_) rfl (by kernel_rfl) (by kernel_rfl) (by kernel_rfl) (fun _ _ _ h => h) (Or.inl ⟨by rfl, ?_⟩) (by assumption) ?_
                      rotate_left
                      · (intro w9 hS9; try simp only [List.getElem_toArray, List.getElem_cons_zero, List.getElem_cons_succ]
                         go_simp <;> rfl)
                      refine wpAnyH_take (i := 1) (v := ?_) rfl (by kernel_rfl) (by kernel_rfl) (by kernel_rfl) (fun _ _ _ h => h) (Or.inl ⟨by rfl, ?_⟩) (by assumption) ?_
                      rotate_left
                      · (intro w9 hS9; try simp only [List.getElem_toArray, List.getElem_cons_zero, List.getElem_cons_succ]
                         go_simp <;> rfl)
                      refine wpAnyH_take (i := 2) (v := ?_) rfl (by kernel_rfl) (by kernel_rfl) (by kernel_rfl) (fun _ _ _ h => h) (Or.inl ⟨by rfl, ?_⟩) (by assumption) ?_
                      rotate_left
                      · (intro w9 hS9; try simp only [List.getElem_toArray, List.getElem_cons_zero, List.getElem_cons_succ]
                         go_simp <;> rfl)
                      refine wpAnyH_take (i := 3) (v := ?_) rfl (by kernel_rfl) (by kernel_rfl) (by kernel_rfl) (fun _ _ _ h => h) (Or.inl ⟨by rfl, ?_⟩) (by assumption) ?_
                      rotate_left
                      · (intro w9 hS9; try simp only [List.getElem_toArray, List.getElem_cons_zero, List.getElem_cons_succ]
                         go_simp <;> rfl)
                      refine wpAnyH_take (i := 4) (v := ?_) rfl (by kernel_rfl) (by kernel_rfl) (by kernel_rfl) (fun _ _ _ h => h) (Or.inl ⟨by rfl, ?_⟩) (by assumption) ?_
                      rotate_left
                      · (intro w9 hS9; try simp only [List.getElem_toArray, List.getElem_cons_zero, List.getElem_cons_succ]
                         go_simp <;> rfl)
                      refine wpAnyH_take (i := 5) (v := ?_) rfl (by kernel_rfl) (by kernel_rfl) (by kernel_rfl) (fun _ _ _ h => h) (Or.inl ⟨by rfl, ?_⟩) (by assumption) ?_
                      rotate_left
                      · (intro w9 hS9; try simp only [List.getElem_toArray, List.getElem_cons_zero, List.getElem_cons_succ]
                         go_simp <;> rfl)
                      refine wpAnyH_take (i := 6) (v := ?_) rfl (by kernel_rfl) (by kernel_rfl) (by kernel_rfl) (fun _ _ _ h => h) (Or.inl ⟨by rfl, ?_⟩) (by assumption) ?_
                      rotate_left
                      · (intro w9 hS9; try simp only [List.getElem_toArray, List.getElem_cons_zero, List.getElem_cons_succ]
                         go_simp <;> rfl)
                      try simp only [Act.put, List.setIfInBounds_toArray, List.set_cons_zero, List.set_cons_succ, List.getElem_toArray, List.getElem_cons_zero, List.getElem_cons_succ]
                      refine wpAnyH_ready (rs := [7]) (by kernel_rfl) (by simp) ?_
                      refine AllReadyH.cons rfl (fun K hK => ?_) AllReadyH.nil
                      try simp only [List.getElem_toArray, List.getElem_cons_zero, List.getElem_cons_succ]
                      try go_simp
                      go_at_call 81
                      refine (within_c en2 0 1000000000 _).mono ?_
                      rintro e V9 ⟨rfl, h9⟩
                      obtain rfl := h9.symm
                      refine hK.out _ _ ⟨by rw [HXbu0.out.cell]; rfl, (HEc.out _ HBu0.out).2⟩ (fun hHeld => ?_)
                      clear hK K
                      refine wpAnyH_take (i := 8) (v := ?_) rfl (by kernel_rfl) (by kernel_rfl) (by kernel_rfl) (fun _ _ _ h => h) (Or.inl ⟨by rfl, ?_⟩) (by assumption) ?_
                      rotate_left
                      · (intro w9 hS9; try simp only [List.getElem_toArray, List.getElem_cons_zero, List.getElem_cons_succ]
                         go_simp <;> rfl)
                      try simp only [Act.put, List.setIfInBounds_toArray, List.set_cons_zero, List.set_cons_succ, List.getElem_toArray, List.getElem_cons_zero, List.getElem_cons_succ]
                      refine wpAnyH_ready (rs := [9]) (by kernel_rfl) (by simp) ?_
                      refine AllReadyH.cons rfl (fun K hK => ?_) AllReadyH.nil
                      try simp only [List.getElem_toArray, List.getElem_cons_zero, List.getElem_cons_succ]
                      try go_simp
                      go_at_call 81
                      refine (within_c _ 0 1000000000 _).mono ?_
                      rintro e V9 ⟨rfl, h9⟩
                      obtain rfl := h9.symm
                      rw [HG1.out]
                      refine hK.out _ _ ⟨by rw [HXbu0.out.cell]; rfl, (HEc.out _ HBu0.out).2⟩ (fun hHeld => ?_)
                      clear hK K
                      refine wpAnyH_take (i := 10) (v := ?_) rfl (by kernel_rfl) (by kernel_rfl) (by kernel_rfl) (fun _ _ _ h => h) (Or.inl ⟨by rfl, ?_⟩) (by assumption) ?_
                      rotate_left
                      · (intro w9 hS9; try simp only [List.getElem_toArray, List.getElem_cons_zero, List.getElem_cons_succ]
                         go_simp <;> rfl)
                      try simp only [Act.put, List.setIfInBounds_toArray, List.set_cons_zero, List.set_cons_succ, List.getElem_toArray, List.getElem_cons_zero, List.getElem_cons_succ]
                      refine wpAnyH_done (by kernel_rfl) ?_ _
                      try simp only [Exit.then]
                      clear hHeld
                      clear c0 c1 c2 c3 c4 c5 c6
                      obtain ⟨c0, c1, c2, c3, c4, c5, c6⟩ := (show Blk _ xg 110 #[.int .i64 sx.id, .int .i64 sx.op, .int .i64 sx.long, .int .i64 sx.from_, .int .i64 sx.taken, .bool sx.done, .int .i64 sx.at_] from HXbu0.out).sevenB
                      have f4 := HXbu0.out.frozen 4
                      go_upto_region 19 with fail
                      obtain ⟨U1, hV0⟩ : ∃ V9, V9 = U0.setCell ⟨xg, 4, none⟩ (.int .i64 TK) := ⟨_, rfl⟩
                      have HBu1 := hide (show Below w.heap.size w U1 by rw [hV0]; exact HBu0.out.setCell hxb _)
                      have HPru1 := hide (show Blk U1 w.heap.size 24 #[.string s, .int .i64 d, .int .i64 j, .slice PA vn pc] by rw [hV0]; exact HPru0.out.only (only_set _ xg 4 _) (fun h => Blk.ne_ HPru0.out HXbu0.out (by decide) h))
                      have HOwu1 := hide (show U1.ownsRow (w.heap.size + 1) 110 7 (.slice VA m vc) m (flat encSd OL) by rw [hV0]; exact own_keepX HOwu0.out (only_set _ xg 4 _) HXo.out)
                      have HRowu1 := hide (show U1.ownsRow W2.heap.size 3 1 (.slice (some ⟨rb, ro, none⟩) n rc) n (flat encI RT) by rw [hV0]; exact own_only HRowu0.out (only_set _ xg 4 _) (fun g cs hg hbk => by have : g = xg := hg; subst this; exact Blk.ne_ hbk HXbu0.out (by decide) rfl))
                      have HXbu1 := hide (show Blk U1 xg 110 (encSd { sx with taken := TK }).toArray by rw [hV0]; exact HXbu0.out.set_ 4 _)
                      rw [← hV0]
                      clear hV0
                      clear c0 c1 c2 c3 c4 c5 c6 f4
                      rw [show ({ sx with taken := TK } : SdM) = y from HYd.out.symm] at HXbu1
                      obtain ⟨c0, c1, c2, c3, c4, c5, c6⟩ := (show Blk _ xg 110 #[.int .i64 y.id, .int .i64 y.op, .int .i64 y.long, .int .i64 y.from_, .int .i64 y.taken, .bool y.done, .int .i64 y.at_] from HXbu1.out).sevenB
                      obtain ⟨v0, _⟩ := HEc.out _ HBu1.out
                      by_cases hl : y.long ≤ y.taken
                      · have ql : decide (y.long ≤ y.taken) = true := by simp [hl]
                        have ql2 : decide (y.taken < y.long) = false := by simp; omega
                        have HWz := hide (HWy.out.trans (if_pos hl))
                        clear hl
                        cases hd : y.done with
                        | true =>
                          rw [hd] at c5
                          have HN := hide (show scanD id l x0 k (q2 + 1) = (y, false) by rw [HN0.out, HWz.out]; unfold doneX; rw [if_pos hd])
                          clear hd
                          go_wp2_with fail
                          go_roundw
                          case rel => exact ⟨q2 + 1, y, false, by omega, by omega, by go_num, rfl, HN, HXbu1, HOwu1, HRowu1, HPru1, HBu1⟩
                          case measure => simp [intOf]; omega
                        | false =>
                            rw [hd] at c5
                            have HN := hide (show scanD id l x0 k (q2 + 1) = ({ y with done := true, at_ := R2 }, false) by rw [HN0.out, HWz.out]; unfold doneX; rw [if_neg (by simp [hd])])
                            clear hd
                            go_upto_region 20 with fail
                            obtain ⟨Y0, hV0⟩ : ∃ V9, V9 = U1.drew := ⟨_, rfl⟩
                            have HBy0 := hide (show Below w.heap.size w Y0 by rw [hV0]; exact below_drew' HBu1.out)
                            have HPry0 := hide (show Blk Y0 w.heap.size 24 #[.string s, .int .i64 d, .int .i64 j, .slice PA vn pc] by rw [hV0]; exact HPru1.out.drew)
                            have HOwy0 := hide (show Y0.ownsRow (w.heap.size + 1) 110 7 (.slice VA m vc) m (flat encSd OL) by rw [hV0]; exact own_only HOwu1.out (Only.refl NoBlk _).drew (fun _ _ h => h.elim))
                            have HRowy0 := hide (show Y0.ownsRow W2.heap.size 3 1 (.slice (some ⟨rb, ro, none⟩) n rc) n (flat encI RT) by rw [hV0]; exact own_only HRowu1.out (Only.refl NoBlk _).drew (fun _ _ h => h.elim))
                            have HXby0 := hide (show Blk Y0 xg 110 (encSd y).toArray by rw [hV0]; exact HXbu1.out.drew)
                            refine wp_region_held (S := fun w' => w'.cell? ⟨rb, ro + q2, none⟩ = some (.int .i64 R2)) (by kernel_rfl) ?_
                            change wpAnyH _ _ _ _ _ _ _ _ U1.drew
                            have hHeld : (fun w' => w'.cell? ⟨rb, ro + q2, none⟩ = some (.int .i64 R2)) U1.drew := by rw [← hV0]; exact (by have h9 := HRc.out _ HRowy0.out q2 hlt2; rw [HR2.out] at h9; exact h9)
                            rw [← hV0] at hHeld ⊢
                            simp only [List.size_toArray, List.length_cons, List.length_nil, Nat.zero_add, Nat.reduceAdd]
                            clear hV0
                            refine wpAnyH_take (i := 0) (v := ?_) rfl (by kernel_rfl) (by kernel_rfl) (by kernel_rfl) (fun _ _ _ h => h) (Or.inl ⟨by rfl, ?_⟩) (by assumption) ?_
                            rotate_left
                            · (intro w9 hS9; try simp only [List.getElem_toArray, List.getElem_cons_zero, List.getElem_cons_succ]
                               go_simp <;> rfl)
                            refine wpAnyH_take (i := 1) (v := ?_) rfl (by kernel_rfl) (by kernel_rfl) (by kernel_rfl) (fun _ _ _ h => h) (Or.inl ⟨by rfl, ?_⟩) (by assumption) ?_
                            rotate_left
                            · (intro w9 hS9; try simp only [List.getElem_toArray, List.getElem_cons_zero, List.getElem_cons_succ]
                               go_simp <;> rfl)
                            refine wpAnyH_take (i := 2) (v := ?_) rfl (by kernel_rfl) (by kernel_rfl) (by kernel_rfl) (fun _ _ _ h => h) (Or.inl ⟨by rfl, ?_⟩) (by assumption) ?_
                            rotate_left
                            · (intro w9 hS9; try simp only [List.getElem_toArray, List.getElem_cons_zero, List.getElem_cons_succ]
                               go_simp <;> rfl)
                            refine wpAnyH_take (i := 3) (v := ?_) rfl (by kernel_rfl) (by kernel_rfl) (by kernel_rfl) (fun _ _ _ h => h) (Or.inl ⟨by rfl, ?_⟩) (by assumption) ?_
                            rotate_left
                            · (intro w9 hS9; try simp only [List.getElem_toArray, List.getElem_cons_zero, List.getElem_cons_succ]
                               go_simp <;> rfl)
                            refine wpAnyH_take (i := 4) (v := ?_) rfl (by kernel_rfl) (by kernel_rfl) (by kernel_rfl) (fun _ _ _ h => h) (Or.inl ⟨by rfl, ?_⟩) (by assumption) ?_
                            rotate_left
                            · (intro w9 hS9; try simp only [List.getElem_toArray, List.getElem_cons_zero, List.getElem_cons_succ]
                               go_simp <;> rfl)
                            try simp only [Act.put, List.setIfInBounds_toArray, List.set_cons_zero, List.set_cons_succ, List.getElem_toArray, List.getElem_cons_zero, List.getElem_cons_succ]
                            clear c0 c1 c2 c3 c4 c5 c6
                            obtain ⟨c0, c1, c2, c3, c4, c5, c6⟩ := (show Blk _ xg 110 #[.int .i64 y.id, .int .i64 y.op, .int .i64 y.long, .int .i64 y.from_, .int .i64 y.taken, .bool y.done, .int .i64 y.at_] from HXby0.out).sevenB
                            have f5 := HXby0.out.frozen 5
                            refine wpAnyH_ready (rs := [5]) (by kernel_rfl) (by simp) ?_
                            refine AllReadyH.cons rfl (fun K hK => ?_) AllReadyH.nil
                            try simp only [List.getElem_toArray, List.getElem_cons_zero, List.getElem_cons_succ]
                            try go_simp
                            obtain ⟨Y1, hV0⟩ : ∃ V9, V9 = Y0.setCell ⟨xg, 5, none⟩ (.bool true) := ⟨_, rfl⟩
                            have HBy1 := hide (show Below w.heap.size w Y1 by rw [hV0]; exact HBy0.out.setCell hxb _)
                            have HPry1 := hide (show Blk Y1 w.heap.size 24 #[.string s, .int .i64 d, .int .i64 j, .slice PA vn pc] by rw [hV0]; exact HPry0.out.only (only_set _ xg 5 _) (fun h => Blk.ne_ HPry0.out HXby0.out (by decide) h))
                            have HOwy1 := hide (show Y1.ownsRow (w.heap.size + 1) 110 7 (.slice VA m vc) m (flat encSd OL) by rw [hV0]; exact own_keepX HOwy0.out (only_set _ xg 5 _) HXo.out)
                            have HRowy1 := hide (show Y1.ownsRow W2.heap.size 3 1 (.slice (some ⟨rb, ro, none⟩) n rc) n (flat encI RT) by rw [hV0]; exact own_only HRowy0.out (only_set _ xg 5 _) (fun g cs hg hbk => by have : g = xg := hg; subst this; exact Blk.ne_ hbk HXby0.out (by decide) rfl))
                            have HXby1 := hide (show Blk Y1 xg 110 (encSd { y with done := true }).toArray by rw [hV0]; exact HXby0.out.set_ 5 _)
                            rw [← hV0]
                            clear hV0
                            refine hK.out _ _ (by have h9 := HRc.out _ HRowy1.out q2 hlt2; rw [HR2.out] at h9; exact h9) (fun hHeld => ?_)
                            clear hK K
                            refine wpAnyH_take (i := 6) (v := ?_) rfl (by kernel_rfl) (by kernel_rfl) (by kernel_rfl) (fun _ _ _ h => h) (Or.inl ⟨by rfl, ?_⟩) (by assumption) ?_
                            rotate_left
                            · (intro w9 hS9; try simp only [List.getElem_toArray, List.getElem_cons_zero, List.getElem_cons_succ]
                               go_simp <;> rfl)
                            try simp only [Act.put, List.setIfInBounds_toArray, List.set_cons_zero, List.set_cons_succ, List.getElem_toArray, List.getElem_cons_zero, List.getElem_cons_succ]
                            clear c0 c1 c2 c3 c4 c5 c6 f5
                            obtain ⟨c0, c1, c2, c3, c4, c5, c6⟩ := (show Blk _ xg 110 #[.int .i64 y.id, .int .i64 y.op, .int .i64 y.long, .int .i64 y.from_, .int .i64 y.taken, .bool true, .int .i64 y.at_] from HXby1.out).sevenB
                            have f6 := HXby1.out.frozen 6
                            refine wpAnyH_ready (rs := [7]) (by kernel_rfl) (by simp) ?_
                            refine AllReadyH.cons rfl (fun K hK => ?_) AllReadyH.nil
                            try simp only [List.getElem_toArray, List.getElem_cons_zero, List.getElem_cons_succ]
                            try go_simp
                            obtain ⟨Y2, hV0⟩ : ∃ V9, V9 = Y1.setCell ⟨xg, 6, none⟩ (.int .i64 R2) := ⟨_, rfl⟩
                            have HBy2 := hide (show Below w.heap.size w Y2 by rw [hV0]; exact HBy1.out.setCell hxb _)
                            have HPry2 := hide (show Blk Y2 w.heap.size 24 #[.string s, .int .i64 d, .int .i64 j, .slice PA vn pc] by rw [hV0]; exact HPry1.out.only (only_set _ xg 6 _) (fun h => Blk.ne_ HPry1.out HXby1.out (by decide) h))
                            have HOwy2 := hide (show Y2.ownsRow (w.heap.size + 1) 110 7 (.slice VA m vc) m (flat encSd OL) by rw [hV0]; exact own_keepX HOwy1.out (only_set _ xg 6 _) HXo.out)
                            have HRowy2 := hide (show Y2.ownsRow W2.heap.size 3 1 (.slice (some ⟨rb, ro, none⟩) n rc) n (flat encI RT) by rw [hV0]; exact own_only HRowy1.out (only_set _ xg 6 _) (fun g cs hg hbk => by have : g = xg := hg; subst this; exact Blk.ne_ hbk HXby1.out (by decide) rfl))
                            have HXby2 := hide (show Blk Y2 xg 110 (encSd { y with done := true, at_ := R2 }).toArray by rw [hV0]; exact HXby1.out.set_ 6 _)
                            rw [← hV0]
                            clear hV0
                            refine hK.out _ _ (by have h9 := HRc.out _ HRowy2.out q2 hlt2; rw [HR2.out] at h9; exact h9) (fun hHeld => ?_)
                            clear hK K
                            try simp only [Act.put, List.setIfInBounds_toArray, List.set_cons_zero, List.set_cons_succ, List.getElem_toArray, List.getElem_cons_zero, List.getElem_cons_succ]
                            refine wpAnyH_done (by kernel_rfl) ?_ _
                            try simp only [Exit.then]
                            clear hHeld
                            go_wp2_with fail
                            go_roundw
                            case rel => exact ⟨q2 + 1, { y with done := true, at_ := R2 }, false, by omega, by omega, by go_num, rfl, HN, HXby2, HOwy2, HRowy2, HPry2, HBy2⟩
                            case measure => simp [intOf]; omega
                      · have ql : decide (y.long ≤ y.taken) = false := by simpa using hl
                        have ql2 : decide (y.taken < y.long) = true := by simp; omega
                        have HN := hide (show scanD id l x0 k (q2 + 1) = (y, false) by rw [HN0.out, HWy.out, if_neg hl])
                        clear hl
                        go_wp2_with fail
                        go_roundw
                        case rel => exact ⟨q2 + 1, y, false, by omega, by omega, by go_num, rfl, HN, HXbu1, HOwu1, HRowu1, HPru1, HBu1⟩
                        case measure => simp [intOf]; omega
                    case neg =>
                      have b6 : (ek2 == 6) = false := by simp [h6]
                      by_cases h8 : ek2 = 8
                      case neg =>
                        have b8 : (ek2 == 8) = false := by simp [h8]
                        have HN := hide (show scanD id l x0 k (q2 + 1) = (sx, false) by rw [HSuc.out, HSt2.out, if_neg h6, HOv.out]; simp [h8])
                        clear h6 h8 htk
                        go_wp2_with fail
                        go_roundw
                        case rel => exact ⟨q2 + 1, sx, false, by omega, by omega, by go_num, rfl, HN, HXb, HOw, HRow, HPr, HB⟩
                        case measure => simp [intOf]; omega
                      case pos =>
                        have b8 : (ek2 == 8) = true := by simp [h8]
                        by_cases hw1 : sw2 = 1
                        · have q1 : (sw2 != 1) = false := by simp [hw1]
                          have HN := hide (show scanD id l x0 k (q2 + 1) = (sx, false) by rw [HSuc.out, HSt2.out, if_neg h6, HOv.out]; unfold isLook; simp [h8, hw1])
                          clear h6 h8 hw1 htk
                          go_wp2_with fail
                          go_roundw
                          case rel => exact ⟨q2 + 1, sx, false, by omega, by omega, by go_num, rfl, HN, HXb, HOw, HRow, HPr, HB⟩
                          case measure => simp [intOf]; omega
                        · have q1 : (sw2 != 1) = true := by simpa using hw1
                          by_cases hw5 : sw2 = 5
                          · have q5 : (sw2 != 5) = false := by simp [hw5]
                            have HN := hide (show scanD id l x0 k (q2 + 1) = (sx, false) by rw [HSuc.out, HSt2.out, if_neg h6, HOv.out]; unfold isLook; simp [h8, hw5])
                            clear h6 h8 hw1 hw5 htk
                            go_wp2_with fail
                            go_roundw
                            case rel => exact ⟨q2 + 1, sx, false, by omega, by omega, by go_num, rfl, HN, HXb, HOw, HRow, HPr, HB⟩
                            case measure => simp [intOf]; omega
                          · have q5 : (sw2 != 5) = true := by simpa using hw5
                            have HN1 := hide (show scanD id l x0 k (q2 + 1) = (doneX R2 sx, true) by rw [HSuc.out, HSt2.out, if_neg h6, HOv.out]; unfold isLook; simp [h8, hw1, hw5])
                            clear h6 h8 hw1 hw5 htk
                            cases hd : sx.done with
                            | true =>
                              rw [hd] at c5
                              have HN := hide (show scanD id l x0 k (q2 + 1) = (sx, true) by rw [HN1.out]; unfold doneX; rw [if_pos hd])
                              clear hd
                              go_wp2_with fail
                              go_roundw
                              case rel => exact ⟨q2 + 1, sx, true, by omega, by omega, by go_num, rfl, HN, HXb, HOw, HRow, HPr, HB⟩
                              case measure => simp [intOf]; omega
                            | false =>
                              rw [hd] at c5
                              have HN := hide (show scanD id l x0 k (q2 + 1) = ({ sx with done := true, at_ := R2 }, true) by rw [HN1.out]; unfold doneX; rw [if_neg (by simp [hd])])
                              clear hd
                              go_upto_region 20 with fail
                              obtain ⟨Y0, hV0⟩ : ∃ V9, V9 = wr.drew := ⟨_, rfl⟩
                              have HBy0 := hide (show Below w.heap.size w Y0 by rw [hV0]; exact below_drew' HB.out)
                              have HPry0 := hide (show Blk Y0 w.heap.size 24 #[.string s, .int .i64 d, .int .i64 j, .slice PA vn pc] by rw [hV0]; exact HPr.out.drew)
                              have HOwy0 := hide (show Y0.ownsRow (w.heap.size + 1) 110 7 (.slice VA m vc) m (flat encSd OL) by rw [hV0]; exact own_only HOw.out (Only.refl NoBlk _).drew (fun _ _ h => h.elim))
                              have HRowy0 := hide (show Y0.ownsRow W2.heap.size 3 1 (.slice (some ⟨rb, ro, none⟩) n rc) n (flat encI RT) by rw [hV0]; exact own_only HRow.out (Only.refl NoBlk _).drew (fun _ _ h => h.elim))
                              have HXby0 := hide (show Blk Y0 xg 110 (encSd sx).toArray by rw [hV0]; exact HXb.out.drew)
                              refine wp_region_held (S := fun w' => w'.cell? ⟨rb, ro + q2, none⟩ = some (.int .i64 R2)) (by kernel_rfl) ?_
                              change wpAnyH _ _ _ _ _ _ _ _ wr.drew
                              have hHeld : (fun w' => w'.cell? ⟨rb, ro + q2, none⟩ = some (.int .i64 R2)) wr.drew := by rw [← hV0]; exact (by have h9 := HRc.out _ HRowy0.out q2 hlt2; rw [HR2.out] at h9; exact h9)
                              rw [← hV0] at hHeld ⊢
                              simp only [List.size_toArray, List.length_cons, List.length_nil, Nat.zero_add, Nat.reduceAdd]
                              clear hV0
                              refine wpAnyH_take (i := 0) (v := ?_) rfl (by kernel_rfl) (by kernel_rfl) (by kernel_rfl) (fun _ _ _ h => h) (Or.inl ⟨by rfl, ?_⟩) (by assumption) ?_
                              rotate_left
                              · (intro w9 hS9; try simp only [List.getElem_toArray, List.getElem_cons_zero, List.getElem_cons_succ]
                                 go_simp <;> rfl)
                              refine wpAnyH_take (i := 1) (v := ?_) rfl (by kernel_rfl) (by kernel_rfl) (by kernel_rfl) (fun _ _ _ h => h) (Or.inl ⟨by rfl, ?_⟩) (by assumption) ?_
                              rotate_left
                              · (intro w9 hS9; try simp only [List.getElem_toArray, List.getElem_cons_zero, List.getElem_cons_succ]
                                 go_simp <;> rfl)
                              refine wpAnyH_take (i := 2) (v := ?_) rfl (by kernel_rfl) (by kernel_rfl) (by kernel_rfl) (fun _ _ _ h => h) (Or.inl ⟨by rfl, ?_⟩) (by assumption) ?_
                              rotate_left
                              · (intro w9 hS9; try simp only [List.getElem_toArray, List.getElem_cons_zero, List.getElem_cons_succ]
                                 go_simp <;> rfl)
                              refine wpAnyH_take (i := 3) (v := ?_) rfl (by kernel_rfl) (by kernel_rfl) (by kernel_rfl) (fun _ _ _ h => h) (Or.inl ⟨by rfl, ?_⟩) (by assumption) ?_
                              rotate_left
                              · (intro w9 hS9; try simp only [List.getElem_toArray, List.getElem_cons_zero, List.getElem_cons_succ]
                                 go_simp <;> rfl)
                              refine wpAnyH_take (i := 4) (v := ?_) rfl (by kernel_rfl) (by kernel_rfl) (by kernel_rfl) (fun _ _ _ h => h) (Or.inl ⟨by rfl, ?_⟩) (by assumption) ?_
                              rotate_left
                              · (intro w9 hS9; try simp only [List.getElem_toArray, List.getElem_cons_zero, List.getElem_cons_succ]
                                 go_simp <;> rfl)
                              try simp only [Act.put, List.setIfInBounds_toArray, List.set_cons_zero, List.set_cons_succ, List.getElem_toArray, List.getElem_cons_zero, List.getElem_cons_succ]
                              clear c0 c1 c2 c3 c4 c5 c6
                              obtain ⟨c0, c1, c2, c3, c4, c5, c6⟩ := (show Blk _ xg 110 #[.int .i64 sx.id, .int .i64 sx.op, .int .i64 sx.long, .int .i64 sx.from_, .int .i64 sx.taken, .bool sx.done, .int .i64 sx.at_] from HXby0.out).sevenB
                              have f5 := HXby0.out.frozen 5
                              refine wpAnyH_ready (rs := [5]) (by kernel_rfl) (by simp) ?_
                              refine AllReadyH.cons rfl (fun K hK => ?_) AllReadyH.nil
                              try simp only [List.getElem_toArray, List.getElem_cons_zero, List.getElem_cons_succ]
                              try go_simp
                              obtain ⟨Y1, hV0⟩ : ∃ V9, V9 = Y0.setCell ⟨xg, 5, none⟩ (.bool true) := ⟨_, rfl⟩
                              have HBy1 := hide (show Below w.heap.size w Y1 by rw [hV0]; exact HBy0.out.setCell hxb _)
                              have HPry1 := hide (show Blk Y1 w.heap.size 24 #[.string s, .int .i64 d, .int .i64 j, .slice PA vn pc] by rw [hV0]; exact HPry0.out.only (only_set _ xg 5 _) (fun h => Blk.ne_ HPry0.out HXby0.out (by decide) h))
                              have HOwy1 := hide (show Y1.ownsRow (w.heap.size + 1) 110 7 (.slice VA m vc) m (flat encSd OL) by rw [hV0]; exact own_keepX HOwy0.out (only_set _ xg 5 _) HXo.out)
                              have HRowy1 := hide (show Y1.ownsRow W2.heap.size 3 1 (.slice (some ⟨rb, ro, none⟩) n rc) n (flat encI RT) by rw [hV0]; exact own_only HRowy0.out (only_set _ xg 5 _) (fun g cs hg hbk => by have : g = xg := hg; subst this; exact Blk.ne_ hbk HXby0.out (by decide) rfl))
                              have HXby1 := hide (show Blk Y1 xg 110 (encSd { sx with done := true }).toArray by rw [hV0]; exact HXby0.out.set_ 5 _)
                              rw [← hV0]
                              clear hV0
                              refine hK.out _ _ (by have h9 := HRc.out _ HRowy1.out q2 hlt2; rw [HR2.out] at h9; exact h9) (fun hHeld => ?_)
                              clear hK K
                              refine wpAnyH_take (i := 6) (v := ?_) rfl (by kernel_rfl) (by kernel_rfl) (by kernel_rfl) (fun _ _ _ h => h) (Or.inl ⟨by rfl, ?_⟩) (by assumption) ?_
                              rotate_left
                              · (intro w9 hS9; try simp only [List.getElem_toArray, List.getElem_cons_zero, List.getElem_cons_succ]
                                 go_simp <;> rfl)
                              try simp only [Act.put, List.setIfInBounds_toArray, List.set_cons_zero, List.set_cons_succ, List.getElem_toArray, List.getElem_cons_zero, List.getElem_cons_succ]
                              clear c0 c1 c2 c3 c4 c5 c6 f5
                              obtain ⟨c0, c1, c2, c3, c4, c5, c6⟩ := (show Blk _ xg 110 #[.int .i64 sx.id, .int .i64 sx.op, .int .i64 sx.long, .int .i64 sx.from_, .int .i64 sx.taken, .bool true, .int .i64 sx.at_] from HXby1.out).sevenB
                              have f6 := HXby1.out.frozen 6
                              refine wpAnyH_ready (rs := [7]) (by kernel_rfl) (by simp) ?_
                              refine AllReadyH.cons rfl (fun K hK => ?_) AllReadyH.nil
                              try simp only [List.getElem_toArray, List.getElem_cons_zero, List.getElem_cons_succ]
                              try go_simp
                              obtain ⟨Y2, hV0⟩ : ∃ V9, V9 = Y1.setCell ⟨xg, 6, none⟩ (.int .i64 R2) := ⟨_, rfl⟩
                              have HBy2 := hide (show Below w.heap.size w Y2 by rw [hV0]; exact HBy1.out.setCell hxb _)
                              have HPry2 := hide (show Blk Y2 w.heap.size 24 #[.string s, .int .i64 d, .int .i64 j, .slice PA vn pc] by rw [hV0]; exact HPry1.out.only (only_set _ xg 6 _) (fun h => Blk.ne_ HPry1.out HXby1.out (by decide) h))
                              have HOwy2 := hide (show Y2.ownsRow (w.heap.size + 1) 110 7 (.slice VA m vc) m (flat encSd OL) by rw [hV0]; exact own_keepX HOwy1.out (only_set _ xg 6 _) HXo.out)
                              have HRowy2 := hide (show Y2.ownsRow W2.heap.size 3 1 (.slice (some ⟨rb, ro, none⟩) n rc) n (flat encI RT) by rw [hV0]; exact own_only HRowy1.out (only_set _ xg 6 _) (fun g cs hg hbk => by have : g = xg := hg; subst this; exact Blk.ne_ hbk HXby1.out (by decide) rfl))
                              have HXby2 := hide (show Blk Y2 xg 110 (encSd { sx with done := true, at_ := R2 }).toArray by rw [hV0]; exact HXby1.out.set_ 6 _)
                              rw [← hV0]
                              clear hV0
                              refine hK.out _ _ (by have h9 := HRc.out _ HRowy2.out q2 hlt2; rw [HR2.out] at h9; exact h9) (fun hHeld => ?_)
                              clear hK K
                              try simp only [Act.put, List.setIfInBounds_toArray, List.set_cons_zero, List.set_cons_succ, List.getElem_toArray, List.getElem_cons_zero, List.getElem_cons_succ]
                              refine wpAnyH_done (by kernel_rfl) ?_ _
                              try simp only [Exit.then]
                              clear hHeld
                              go_wp2_with fail
                              go_roundw
                              case rel => exact ⟨q2 + 1, { sx with done := true, at_ := R2 }, true, by omega, by omega, by go_num, rfl, HN, HXby2, HOwy2, HRowy2, HPry2, HBy2⟩
                              case measure => simp [intOf]; omega
end Go.Proofs.YtdmdohjdmnmabaaGreat
