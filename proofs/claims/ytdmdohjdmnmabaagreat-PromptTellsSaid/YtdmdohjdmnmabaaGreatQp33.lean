/- Parts of a chain of lemmas: RefPr2, RefOfA. Conditions: those of each theorem. -/
import Derived.Test.YtdmdohjdmnmabaaGreatQp32
import Derived.Deep.RegionHeld3
import Derived.Test.YtdmdohjdmnmabaaGreatQp30
namespace Go.Proofs.YtdmdohjdmnmabaaGreat
open Go.RowKit
set_option linter.unusedVariables false
set_option linter.unusedSimpArgs false

theorem Tryz.infoRLag : (Tryz.prog.info? 45).map (fun i => (i.zero, i.size, i.bytes)) = some (some (.agg #[.int .i64 0, .int .i64 0, .int .i64 0, .int .i64 0, .int .i64 0, .int .i64 0]), 6, 48) := by kernel_rfl
set_option maxRecDepth 100000 in
set_option maxHeartbeats 25600000 in
theorem refone_c (s : ByteArray) (d j : Int) (PA : Option Addr) (pc : Nat) (L : List OpV) (A : Option Addr) (c : Nat) (l : List Ev) (id : Int) (w : World) (hq : OpsRd w NoBlk PA L) (hn : L.length ≤ maxLen) (hs : s.size ≤ 9223372036854775807) (hsz : ∀ v ∈ L, OpSz v) (hr : Rd w NoBlk A (flat encEv l)) (hl : l.length ≤ 1000) (hx : ∀ x ∈ l, x.s.size ≤ 100) :
    Calls Tryz.prog 46 #[.agg #[.string s, .int .i64 d, .int .i64 j, .slice PA L.length pc], .slice A l.length c, .int .i64 id] w fun e w' => (∃ v, e = .returned v ∧ w'.ownsRow w.heap.size 45 6 v (lagsM (progM s d j L) id l).length (flat encLag (lagsM (progM s d j L) id l))) ∧ Below w.heap.size w w' := by
  obtain ⟨il, hil, hlz0, hlz1, hlz2⟩ := info_parts Tryz.infoRLag
  have HEv := hide (fun (w' : World) (k : Below w.heap.size w w') (i : Nat) (hi : i < l.length) => ev_cells (hr.below k) i hi)
  have HRo := hide (fun (w' : World) (hb : Below w.heap.size w w') (k : Nat) (hk : k < l.length) => refround_c A c l k w' (hr.below hb) (by omega) hk)
  have HRe := hide (fun (w' : World) (hb : Below w.heap.size w w') (o t : Nat) (m : Int) (h1 : o ≤ t) (h2 : t ≤ l.length) (h3 : 0 ≤ m) => refread_c A c l id o t m w' (hr.below hb) (by omega) hx h1 h2 h3)
  have HNx := hide (fun (w' : World) (hb : Below w.heap.size w w') (st sa sw sr sn ss : Int) => refNext_c s d j PA pc L st sa sw sr sn ss w' ⟨hq.1.below hb, fun v hv => (hq.2 v hv).below hb⟩ hn hs hsz)
  obtain ⟨n, hnl⟩ : ∃ n, n = l.length := ⟨_, rfl⟩
  obtain ⟨vn, hvn⟩ : ∃ vn, vn = L.length := ⟨_, rfl⟩
  obtain ⟨P, hP⟩ : ∃ P, P = progM s d j L := ⟨_, rfl⟩
  rw [← hP, ← hvn] at HNx
  rw [← hP, ← hvn]
  have HSt := hide (fun k => show oneD P id l (k + 1) = oneStep P id l k (oneD P id l k) from rfl)
  have HSm := hide (fun k => one_sm P id l k)
  obtain ⟨TT, hTT⟩ : ∃ TT, TT = lagsM P id l := ⟨_, rfl⟩
  have HQ := hide (show TT = (oneD P id l l.length).out by rw [hTT]; exact lags_eq P id l)
  rw [← hTT]
  rw [← hnl] at HEv HRo HRe hl HQ HSm
  rw [← hnl]
  clear hq hn hs hsz hr hnl hvn hP hTT hx
  obtain ⟨W1, hW1⟩ : ∃ W1, W1 = w.alloc (.cells #[.string s, .int .i64 d, .int .i64 j, .slice PA vn pc] 24) := ⟨_, rfl⟩
  have HB1 := hide (show Below w.heap.size w W1 by rw [hW1]; exact below_alloc _ _)
  have HP1 := hide (show Blk W1 w.heap.size 24 #[.string s, .int .i64 d, .int .i64 j, .slice PA vn pc] by rw [hW1]; exact Blk.new _ _ _)
  obtain ⟨W2, hW2⟩ : ∃ W2, W2 = W1.alloc (.cells #[] 45) := ⟨_, rfl⟩
  have HB2 := hide (show Below w.heap.size w W2 by rw [hW2]; exact HB1.out.alloc HB1.out.size _)
  have HP2 := hide (show Blk W2 w.heap.size 24 #[.string s, .int .i64 d, .int .i64 j, .slice PA vn pc] by rw [hW2]; exact HP1.out.alloc _)
  have HO2 := hide (show W2.ownsRow (w.heap.size + 1) 45 6 (.slice (some ⟨w.heap.size + 1, 0, none⟩) 0 0) 0 (flat encLag []) by rw [hW2]; simpa [flat] using own_empty' (w := W1) (base := w.heap.size + 1) (g := w.heap.size + 1) (e := 45) (size := 6) (by first | omega | (rw [hW1]; simp)) (by first | omega | (rw [hW1]; simp)))
  have HWW := hide (show W2 = (w.alloc (.cells #[.string s, .int .i64 d, .int .i64 j, .slice PA vn pc] 24)).alloc (.cells #[] 45) by rw [hW2, hW1])
  clear hW1 hW2 HB1 HP1
  go_enter Tryz.func46, Tryz.ntmps46
  go_upto_region 2 with fail
  change Code.wp _ _ _ _ ((w.alloc (.cells #[.string s, .int .i64 d, .int .i64 j, .slice PA vn pc] 24)).alloc (.cells #[] 45))
  rw [← HWW.out]
  go_wp2_with fail
  go_loopw [7, 8, 9, 10, 11, 12] (fun vo op sp go fr i wr => ∃ (k : Nat) (D : OneD), k ≤ n ∧ i = .int .i64 k ∧ Hid (oneD P id l k = D) ∧ op = .int .i64 D.open_ ∧ sp = .int .i64 D.steps ∧ go = .int .i64 D.gone ∧ fr = .int .i64 D.from_ ∧ Hid (wr.ownsRow (w.heap.size + 1) 45 6 vo D.out.length (flat encLag D.out)) ∧ Hid (Blk wr w.heap.size 24 #[.string s, .int .i64 d, .int .i64 j, .slice PA vn pc]) ∧ Hid (Below w.heap.size w wr)) (fun _ _ _ _ _ i _ => n - (intOf i).toNat)
  case atStart => exact ⟨0, one0, Nat.zero_le _, rfl, hide rfl, rfl, rfl, rfl, rfl, HO2, HP2, HB2⟩
  case round =>
    clear HO2 HP2 HB2
    obtain ⟨k, D, hk, rfl, HD, rfl, rfl, rfl, rfl, HOw, HPr, HB⟩ := hrel
    obtain ⟨VA, vc, rfl, hvc⟩ := own_cap HOw.out
    have hsm := HSm.out k
    rw [HD.out] at hsm
    obtain ⟨o0, o1, s0, s1, g0, g1, f0, f1, ol⟩ := hsm
    obtain ⟨m, hm⟩ : ∃ m, m = D.out.length := ⟨_, rfl⟩
    rw [← hm] at HOw ol hvc ⊢
    have Hm := hide hm
    by_cases hlt : k < n
    case neg =>
      obtain rfl : k = n := by omega
      have e1 : decide ((k : Int) < (k : Int)) = false := by simp
      have e2 : decide (k < k) = false := by simp
      have HT := hide (show TT = D.out by rw [HQ.out, ← HD.out])
      clear o0 o1 s0 s1 g0 g1 f0 f1 hm
      go_wp2_with fail
      go_ret
      refine ⟨⟨.slice VA m vc, by rfl, ?_⟩, HB.out⟩
      rw [HT.out, ← Hm.out]
      exact own_base HOw.out (by omega)
    case pos =>
      have HSk := hide (show oneD P id l (k + 1) = oneStep P id l k D by rw [HSt.out, HD.out])
      obtain ⟨eb, eo, rfl, _, heb, y0, y1, y2, y3, y4, y5, y6, y7, y8, y9, y10, y11⟩ := HEv.out wr HB.out k hlt
      have HRk := hide (fun (w' : World) (hb : Below w.heap.size w w') => HRo.out w' hb k hlt)
      have e1 : decide ((k : Int) < (n : Int)) = true := by simp; exact hlt
      have e2 : decide (k < n) = true := by simp; exact hlt
      have j1 : (0 : Int) ≤ (k : Int) := by omega
      have j2 : (k : Int) < (n : Int) := by omega
      have w1 : IntKind.i64.wrap ((k : Int) + 1) = (k : Int) + 1 := IntWalk.i64_in _ (by omega)
      obtain ⟨R, hR⟩ : ∃ R, R = roundD l k := ⟨_, rfl⟩
      rw [← hR] at HRk
      have HOne := hide (show oneStep P id l k D = if (evAt l k).id ≠ id then D else if (openD id l k D).open_ < 0 ∨ (evAt l k).k ≠ 8 then openD id l k D else fromD P l k (matchD id l k (openD id l k D)) from rfl)
      have HOp := hide (show openD id l k D = if D.open_ < 0 ∧ (evAt l k).k = 2 then { D with open_ := k, from_ := R } else D by rw [hR]; rfl)
      have HMa := hide (show matchD id l k D = if (evAt l k).st.what = 2 then { D with gone := goneD D.gone (evAt l k).st.n, out := D.out ++ [⟨id, D.steps, goneD D.gone (evAt l k).st.n, readM (cameD id l D.open_.toNat k) (goneD D.gone (evAt l k).st.n), D.from_, R⟩] } else D by rw [hR]; rfl)
      have HFr := hide (show ∀ f, fromD P l k f = { f with from_ := if 0 ≤ NextM P (evAt l k).st then R else f.from_, steps := f.steps + 1 } from fun f => by rw [hR]; rfl)
      obtain ⟨x, hx⟩ : ∃ x, x = evAt l k := ⟨_, rfl⟩
      rw [← hx] at y0 y1 y2 y3 y4 y5 y6 y7 y8 y9 y10 y11 HOne HOp HMa HFr
      clear hx hR
      obtain ⟨ek, ei, en, et, es, ee, ⟨st, sa, sw, sr, sn, ss⟩⟩ := x
      simp only at y0 y1 y2 y3 y4 y5 y6 y7 y8 y9 y10 y11 HOne HOp HMa HFr
      obtain ⟨Do, Ds, Dg, Df, Dout⟩ := D
      simp only at o0 o1 s0 s1 g0 g1 f0 f1 HOw HOp HMa hm Hm ⊢
      clear y2 y3 y4 y5 hm
      by_cases hi : ei = id
      case neg =>
        have b1 : (ei != id) = true := by simpa using hi
        have HN := hide (show oneD P id l (k + 1) = ⟨Do, Ds, Dg, Df, Dout⟩ by rw [HSk.out, HOne.out, if_pos hi])
        clear hi HOne HOp HMa HFr
        go_wp2_with fail
        go_roundw
        case rel => exact ⟨k + 1, ⟨Do, Ds, Dg, Df, Dout⟩, by omega, by go_num, HN, rfl, rfl, rfl, rfl, by rw [← Hm.out]; exact HOw, HPr, HB⟩
        case measure => simp [intOf]; omega
      case pos =>
        have b1 : (ei != id) = false := by simp [hi]
        have HOne2 := hide (HOne.out.trans (if_neg (by simp [hi])))
        clear hi HOne
        by_cases h2 : ek = 2
        · have b2 : (ek == 2) = true := by simp [h2]
          have b8 : (ek != 8) = true := by simp [h2]
          by_cases ho : Do < 0
          · have bo : decide (Do < 0) = true := by simp [ho]
            have bk : decide ((k : Int) < 0) = false := by simp
            have HN := hide (show oneD P id l (k + 1) = ⟨k, Ds, Dg, R, Dout⟩ by rw [HSk.out, HOne2.out, if_pos (Or.inr (by omega)), HOp.out, if_pos ⟨ho, h2⟩])
            clear ho h2 HOne2 HOp HMa HFr
            go_wp2_with fail
            refine (HRk.out _ HB.out).mono ?_
            rintro e w3 ⟨rfl, hb3⟩
            have HB3 := hide (HB.out.trans (hb3.mono HB.out.size))
            have HP3 := hide (HPr.out.below hb3)
            have HOw3 := hide (own_only HOw.out (Only.of_below hb3 NoBlk) (fun _ _ h => h.elim))
            have z0 := bkeepL hb3 heb y0
            clear hb3 y0 y1 y6 y7 y8 y9 y10 y11
            go_wp2_with fail
            go_roundw
            case rel => exact ⟨k + 1, ⟨k, Ds, Dg, R, Dout⟩, by omega, by go_num, HN, rfl, rfl, rfl, rfl, by rw [← Hm.out]; exact HOw3, HP3, HB3⟩
            case measure => simp [intOf]; omega
          · have bo : decide (Do < 0) = false := by simp; omega
            have HN := hide (show oneD P id l (k + 1) = ⟨Do, Ds, Dg, Df, Dout⟩ by rw [HSk.out, HOne2.out, if_pos (Or.inr (by omega)), HOp.out, if_neg (by omega)])
            clear ho h2 HOne2 HOp HMa HFr
            go_wp2_with fail
            go_roundw
            case rel => exact ⟨k + 1, ⟨Do, Ds, Dg, Df, Dout⟩, by omega, by go_num, HN, rfl, rfl, rfl, rfl, by rw [← Hm.out]; exact HOw, HPr, HB⟩
            case measure => simp [intOf]; omega
        · have b2 : (ek == 2) = false := by simp [h2]
          have HOp2 := hide (HOp.out.trans (if_neg (by omega)))
          rw [HOp2.out] at HOne2
          simp only at HOne2
          by_cases ho : Do < 0
          · have bo : decide (Do < 0) = true := by simp [ho]
            have HN := hide (show oneD P id l (k + 1) = ⟨Do, Ds, Dg, Df, Dout⟩ by rw [HSk.out, HOne2.out, if_pos (Or.inl ho)])
            clear ho h2 HOne2 HOp HOp2 HMa HFr
            go_wp2_with fail
            go_roundw
            case rel => exact ⟨k + 1, ⟨Do, Ds, Dg, Df, Dout⟩, by omega, by go_num, HN, rfl, rfl, rfl, rfl, by rw [← Hm.out]; exact HOw, HPr, HB⟩
            case measure => simp [intOf]; omega
          · have bo : decide (Do < 0) = false := by simp; omega
            by_cases h8 : ek = 8
            case neg =>
              have b8 : (ek != 8) = true := by simpa using h8
              have HN := hide (show oneD P id l (k + 1) = ⟨Do, Ds, Dg, Df, Dout⟩ by rw [HSk.out, HOne2.out, if_pos (Or.inr h8)])
              clear ho h2 h8 HOne2 HOp HOp2 HMa HFr
              go_wp2_with fail
              go_roundw
              case rel => exact ⟨k + 1, ⟨Do, Ds, Dg, Df, Dout⟩, by omega, by go_num, HN, rfl, rfl, rfl, rfl, by rw [← Hm.out]; exact HOw, HPr, HB⟩
              case measure => simp [intOf]; omega
            case pos =>
              have b8 : (ek != 8) = false := by simp [h8]
              obtain ⟨on, hon⟩ : ∃ on : Nat, Do = on := ⟨Do.toNat, by omega⟩
              subst hon
              have hok : on ≤ k := by omega
              have HN0 := hide (show oneD P id l (k + 1) = fromD P l k (matchD id l k ⟨on, Ds, Dg, Df, Dout⟩) by rw [HSk.out, HOne2.out, if_neg (by omega)])
              have HRd := hide (fun (w' : World) (hb : Below w.heap.size w w') (m : Int) (h3 : 0 ≤ m) => HRe.out w' hb on k m hok (by omega) h3)
              have HNxk := hide (fun (w' : World) (hb : Below w.heap.size w w') => HNx.out w' hb st sa sw sr sn ss)
              obtain ⟨nx, hnx⟩ : ∃ nx, nx = NextM P ⟨st, sa, sw, sr, sn, ss⟩ := ⟨_, rfl⟩
              rw [← hnx] at HNxk HFr
              have ws : IntKind.i64.wrap (Ds + 1) = Ds + 1 := IntWalk.i64_in _ (by omega)
              clear ho h2 h8 HOne2 HOp HOp2 hnx HSk
              go_upto_region 10 with fail
              obtain ⟨W6, hW6⟩ : ∃ W6, W6 = wr.alloc (.cells #[.int .i64 st, .int .i64 sa, .int .i64 sw, .int .i64 sr, .int .i64 sn, .int .i64 ss] 26) := ⟨_, rfl⟩
              have HB6 := hide (show Below w.heap.size w W6 by rw [hW6]; exact HB.out.alloc HB.out.size _)
              have HP6 := hide (show Blk W6 w.heap.size 24 #[.string s, .int .i64 d, .int .i64 j, .slice PA vn pc] by rw [hW6]; exact HPr.out.alloc _)
              have HOw6 := hide (show W6.ownsRow (w.heap.size + 1) 45 6 (.slice VA m vc) m (flat encLag Dout) by rw [hW6]; exact own_only HOw.out ((Only.refl NoBlk _).alloc _) (fun _ _ h => h.elim))
              have HX6 := hide (show Blk W6 wr.heap.size 26 #[.int .i64 st, .int .i64 sa, .int .i64 sw, .int .i64 sr, .int .i64 sn, .int .i64 ss] by rw [hW6]; exact Blk.new _ _ _)
              rw [← hW6]
              obtain ⟨xg, hxg⟩ : ∃ xg, xg = wr.heap.size := ⟨_, rfl⟩
              rw [← hxg] at HX6 ⊢
              clear hW6 hxg y0 y1 y6 y7 y8 y9 y10 y11 HOw HPr HB
              obtain ⟨z0, z1, z2, z3, z4, z5⟩ := HX6.out.six
              by_cases h2 : sw = 2
              case neg =>
                have q2 : (sw == 2) = false := by simp [h2]
                have HMn := hide (show matchD id l k ⟨on, Ds, Dg, Df, Dout⟩ = ⟨on, Ds, Dg, Df, Dout⟩ from HMa.out.trans (if_neg h2))
                obtain ⟨⟨r0, r1, r2, r3⟩, _⟩ := HP6.out.four
                clear h2 HMa HRd
                go_wp2_with fail
                refine (HNxk.out _ HB6.out).mono ?_
                rintro e w8 ⟨rfl, hb8⟩
                have HB8 := hide (HB6.out.trans (hb8.mono HB6.out.size))
                have HP8 := hide (HP6.out.below hb8)
                have HOw8 := hide (own_only HOw6.out (Only.of_below hb8 NoBlk) (fun _ _ h => h.elim))
                clear hb8
                by_cases hx0 : 0 ≤ nx
                · have bx : decide ((0 : Int) ≤ nx) = true := by simp [hx0]
                  have HN := hide (show oneD P id l (k + 1) = ⟨on, Ds + 1, Dg, R, Dout⟩ by rw [HN0.out, HMn.out, HFr.out, if_pos hx0])
                  clear hx0
                  go_wp2_with fail
                  refine (HRk.out _ HB8.out).mono ?_
                  rintro e w9 ⟨rfl, hb9⟩
                  have HB9 := hide (HB8.out.trans (hb9.mono HB8.out.size))
                  have HP9 := hide (HP8.out.below hb9)
                  have HOw9 := hide (own_only HOw8.out (Only.of_below hb9 NoBlk) (fun _ _ h => h.elim))
                  clear hb9
                  go_wp2_with fail
                  go_roundw
                  case rel => exact ⟨k + 1, ⟨on, Ds + 1, Dg, R, Dout⟩, by omega, by go_num, HN, rfl, rfl, rfl, rfl, by rw [show (Dout).length = m from Hm.out.symm]; exact HOw9, HP9, HB9⟩
                  case measure => simp [intOf]; omega
                · have bx : decide ((0 : Int) ≤ nx) = false := by simp; omega
                  have HN := hide (show oneD P id l (k + 1) = ⟨on, Ds + 1, Dg, Df, Dout⟩ by rw [HN0.out, HMn.out, HFr.out, if_neg hx0])
                  clear hx0
                  go_wp2_with fail
                  go_roundw
                  case rel => exact ⟨k + 1, ⟨on, Ds + 1, Dg, Df, Dout⟩, by omega, by go_num, HN, rfl, rfl, rfl, rfl, by rw [show (Dout).length = m from Hm.out.symm]; exact HOw8, HP8, HB8⟩
                  case measure => simp [intOf]; omega
              case pos =>
                have q2 : (sw == 2) = true := by simp [h2]
                have HMn := hide (HMa.out.trans (if_pos h2))
                have hwi := within_bd sn
                have HG1 := hide (show within (Dg + within sn 0 1000000000) 0 1000000000 = goneD Dg sn from within_gone g0)
                have hgb := goneD_bd (n := sn) g0
                have w5 : IntKind.i64.wrap (Dg + within sn 0 1000000000) = Dg + within sn 0 1000000000 := IntWalk.i64_in _ (by omega)
                obtain ⟨G, hG⟩ : ∃ G, G = goneD Dg sn := ⟨_, rfl⟩
                rw [← hG] at HMn HG1 hgb
                simp only [Int.toNat_natCast] at HMn
                obtain ⟨RR, hRR⟩ : ∃ RR, RR = readM (cameD id l on k) G := ⟨_, rfl⟩
                have HRG := hide (fun (w' : World) (hb : Below w.heap.size w w') => HRd.out w' hb G hgb.1)
                rw [← hRR] at HMn HRG
                have HMn2 := hide (show matchD id l k ⟨on, Ds, Dg, Df, Dout⟩ = ⟨on, Ds, G, Df, Dout ++ [(⟨id, Ds, G, RR, Df, R⟩ : LagM)]⟩ from HMn.out)
                clear h2 HMa HRd hG hRR hwi hgb HMn
                go_wp2_with fail
                refine (within_c sn 0 1000000000 _).mono ?_
                rintro e w6 ⟨rfl, h6⟩
                obtain rfl := h6.symm
                go_wp2_with fail
                refine (within_c _ 0 1000000000 _).mono ?_
                rintro e w6 ⟨rfl, h6⟩
                obtain rfl := h6.symm
                rw [HG1.out]
                go_wp2_with fail
                refine (HRG.out _ HB6.out).mono ?_
                rintro e w7 ⟨rfl, hb7⟩
                have HB7 := hide (HB6.out.trans (hb7.mono HB6.out.size))
                have HP7 := hide (HP6.out.below hb7)
                have HX7 := hide (HX6.out.below hb7)
                have HOw7 := hide (own_only HOw6.out (Only.of_below hb7 NoBlk) (fun _ _ h => h.elim))
                clear hb7 z0 z1 z2 z3 z4 z5
                go_wp2_with fail
                refine (HRk.out _ HB7.out).mono ?_
                rintro e wa ⟨rfl, hba⟩
                have HBa := hide (HB7.out.trans (hba.mono HB7.out.size))
                have HPa := hide (HP7.out.below hba)
                have HXa := hide (HX7.out.below hba)
                have HOwa := hide (own_only HOw7.out (Only.of_below hba NoBlk) (fun _ _ h => h.elim))
                clear hba
                have HNew := hide (rd_blkN (M := NoBlk) (Blk.new wa 45 (encLag (⟨id, Ds, G, RR, Df, R⟩ : LagM)).toArray) (fun h => h))
                have hga : w.heap.size + 1 ≤ wa.heap.size := HPa.out.lt
                go_upto_region 13 with (at_builtin; refine wpList_append_rd _ rfl (.tmp 66) (.tmp 81) _ rfl (w.heap.size + 1) 45 il _ 6 48 Tryz.underlying41 hil hlz0 hlz1 hlz2 rfl (by omega) _ m _ rfl (own_only HOwa.out ((Only.refl NoBlk wa).alloc (.cells (encLag (⟨id, Ds, G, RR, Df, R⟩ : LagM)).toArray 45)) (fun _ _ h => h.elim)) NoBlk (some ⟨wa.heap.size, 0, none⟩) 1 1 (encLag (⟨id, Ds, G, RR, Df, R⟩ : LagM)) rfl HNew.out rfl (encLag_one _) (by simp only [maxLen]; omega) (by omega) (by simp; omega) ?_; intro v2 wb hown2 hgr _; have Own2 := hide hown2; have Gr := hide hgr; clear hown2 hgr)
                have HBb := hide ((HBa.out.alloc HBa.out.size (.cells (encLag (⟨id, Ds, G, RR, Df, R⟩ : LagM)).toArray 45)).grown Gr.out (by simp; omega) (fun q hq => by have := own_ge HOwa.out q hq; omega))
                have HPb := hide (Blk.grown (HPa.out.alloc (.cells (encLag (⟨id, Ds, G, RR, Df, R⟩ : LagM)).toArray 45)) (own_only HOwa.out ((Only.refl NoBlk wa).alloc (.cells (encLag (⟨id, Ds, G, RR, Df, R⟩ : LagM)).toArray 45)) (fun _ _ h => h.elim)) (by decide) Gr.out)
                have HXb := hide (Blk.grown (HXa.out.alloc (.cells (encLag (⟨id, Ds, G, RR, Df, R⟩ : LagM)).toArray 45)) (own_only HOwa.out ((Only.refl NoBlk wa).alloc (.cells (encLag (⟨id, Ds, G, RR, Df, R⟩ : LagM)).toArray 45)) (fun _ _ h => h.elim)) (by decide) Gr.out)
                obtain ⟨A5, c5, rfl, _⟩ := own_cap Own2.out
                have HOwb := hide (show wb.ownsRow (w.heap.size + 1) 45 6 (.slice A5 (m + 1) c5) (m + 1) (flat encLag (Dout ++ [(⟨id, Ds, G, RR, Df, R⟩ : LagM)])) from by
                  have e : flat encLag (Dout ++ [(⟨id, Ds, G, RR, Df, R⟩ : LagM)]) = flat encLag Dout ++ encLag (⟨id, Ds, G, RR, Df, R⟩ : LagM) := by simp [flat]
                  rw [e]
                  exact Own2.out)
                clear Own2 Gr HNew
                obtain ⟨z0, z1, z2, z3, z4, z5⟩ := HXb.out.six
                obtain ⟨⟨r0, r1, r2, r3⟩, _⟩ := HPb.out.four
                go_wp2_with fail
                refine (HNxk.out _ HBb.out).mono ?_
                rintro e w8 ⟨rfl, hb8⟩
                have HB8 := hide (HBb.out.trans (hb8.mono HBb.out.size))
                have HP8 := hide (HPb.out.below hb8)
                have HOw8 := hide (own_only HOwb.out (Only.of_below hb8 NoBlk) (fun _ _ h => h.elim))
                clear hb8
                by_cases hx0 : 0 ≤ nx
                · have bx : decide ((0 : Int) ≤ nx) = true := by simp [hx0]
                  have HN := hide (show oneD P id l (k + 1) = ⟨on, Ds + 1, G, R, Dout ++ [(⟨id, Ds, G, RR, Df, R⟩ : LagM)]⟩ by rw [HN0.out, HMn2.out, HFr.out, if_pos hx0])
                  clear hx0
                  go_wp2_with fail
                  refine (HRk.out _ HB8.out).mono ?_
                  rintro e w9 ⟨rfl, hb9⟩
                  have HB9 := hide (HB8.out.trans (hb9.mono HB8.out.size))
                  have HP9 := hide (HP8.out.below hb9)
                  have HOw9 := hide (own_only HOw8.out (Only.of_below hb9 NoBlk) (fun _ _ h => h.elim))
                  clear hb9
                  go_wp2_with fail
                  go_roundw
                  case rel => exact ⟨k + 1, ⟨on, Ds + 1, G, R, Dout ++ [(⟨id, Ds, G, RR, Df, R⟩ : LagM)]⟩, by omega, by go_num, HN, rfl, rfl, rfl, rfl, by rw [show (Dout ++ [(⟨id, Ds, G, RR, Df, R⟩ : LagM)]).length = m + 1 from by rw [List.length_append, ← Hm.out]; rfl]; exact HOw9, HP9, HB9⟩
                  case measure => simp [intOf]; omega
                · have bx : decide ((0 : Int) ≤ nx) = false := by simp; omega
                  have HN := hide (show oneD P id l (k + 1) = ⟨on, Ds + 1, G, Df, Dout ++ [(⟨id, Ds, G, RR, Df, R⟩ : LagM)]⟩ by rw [HN0.out, HMn2.out, HFr.out, if_neg hx0])
                  clear hx0
                  go_wp2_with fail
                  go_roundw
                  case rel => exact ⟨k + 1, ⟨on, Ds + 1, G, Df, Dout ++ [(⟨id, Ds, G, RR, Df, R⟩ : LagM)]⟩, by omega, by go_num, HN, rfl, rfl, rfl, rfl, by rw [show (Dout ++ [(⟨id, Ds, G, RR, Df, R⟩ : LagM)]).length = m + 1 from by rw [List.length_append, ← Hm.out]; rfl]; exact HOw8, HP8, HB8⟩
                  case measure => simp [intOf]; omega
end Go.Proofs.YtdmdohjdmnmabaaGreat
namespace Go.Proofs.YtdmdohjdmnmabaaGreat
open Go.RowKit
set_option linter.unusedVariables false

/-- the body of the first loop -/
def loopBody : Code → Option Code
  | .loop c => some c
  | .seq a b => match loopBody a with
    | some c => some c
    | none => loopBody b
  | .block _ c => loopBody c
  | _ => none
set_option maxRecDepth 100000 in
/-- what a round is to come to -/
abbrev RoundN (w : World) (id : Int) (l : List Ev) (n : Nat) (A : Option Addr) (c k : Nat) : Act → World → Prop := fun a' w' =>
  (∃ u7 u8 u9 u10 u12 u13 u14 u15 u16 u17 u18 u19 u20 u21 u22 u23 u24 u25 u26 u27 u28 u29 u30 u31 u32 u33 u34 u35 u36 u37 u38 u39 u40 u41 u42 u43 u44 u45 u46 u47 u48 u49 u50 u51 u52 u53 u54 u55 u56 u57 u58 u59 u60 u61 u62 u63 u64 u65 u66 u67 u68 u69 u70 u71 u72 u73 u74 u75 u76 u77 u78 u79 u80 u81 u82 u83 u84 u85 u86 u87 u88 u89 u90 u91 u92 u93 u94 u95 u96 u97 u98 u99 u100 u101 u102 u103 u104 u105 u106 u107 u108 u109 u110 u111 u112 u113 u114 u115 u116 u117 u118 u119 u120 u121 u122 u123 u124 u125 u126 u127 u128 u129 u130 u131 u132 u133 u134 u135 u136 u137 u138 u139 u140 u141 u142 u143 u144 u145 u146 u147 u148 u149 u150 u151 u152 u153 u154 u155 u156 u157 u158 u159 u160 u161 u162 u163 u164 u165 u166 : Value, (∃ k : Nat, k ≤ n ∧ u9 = .int .i64 k ∧ Hid (OfSt w w' id l k u7 u8)) ∧ a' = { tmps := #[.slice A n c, .int .i64 id, undef, undef, .pointer (some ⟨w.heap.size, 0, none⟩), .bool false, .pointer (some ⟨w.heap.size + 1, 0, none⟩), u7, u8, u9, u10, .agg #[.int .i64 0, .int .i64 0, .int .i64 0, .slice none 0 0, .slice none 0 0, .slice none 0 0, .string ⟨#[]⟩, .string ⟨#[]⟩, .bool false, .int .i64 0], u12, u13, u14, u15, u16, u17, u18, u19, u20, u21, u22, u23, u24, u25, u26, u27, u28, u29, u30, u31, u32, u33, u34, u35, u36, u37, u38, u39, u40, u41, u42, u43, u44, u45, u46, u47, u48, u49, u50, u51, u52, u53, u54, u55, u56, u57, u58, u59, u60, u61, u62, u63, u64, u65, u66, u67, u68, u69, u70, u71, u72, u73, u74, u75, u76, u77, u78, u79, u80, u81, u82, u83, u84, u85, u86, u87, u88, u89, u90, u91, u92, u93, u94, u95, u96, u97, u98, u99, u100, u101, u102, u103, u104, u105, u106, u107, u108, u109, u110, u111, u112, u113, u114, u115, u116, u117, u118, u119, u120, u121, u122, u123, u124, u125, u126, u127, u128, u129, u130, u131, u132, u133, u134, u135, u136, u137, u138, u139, u140, u141, u142, u143, u144, u145, u146, u147, u148, u149, u150, u151, u152, u153, u154, u155, u156, u157, u158, u159, u160, u161, u162, u163, u164, u165, u166, undef, undef], defers := [] }) ∧
    n - (intOf (a'.tmps.getD 9 undef)).toNat < n - (intOf (.int .i64 k)).toNat
end Go.Proofs.YtdmdohjdmnmabaaGreat
