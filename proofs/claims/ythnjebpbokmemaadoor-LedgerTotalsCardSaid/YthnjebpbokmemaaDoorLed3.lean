/- All rows, by the page. Conditions: those of each theorem. -/
import Derived.Test.YthnjebpbokmemaaDoorLed2
import Derived.Test.YthnjebpbokmemaaDoorRefOf
import Derived.Test.YthnjebpbokmemaaDoorSame04
namespace Go.Proofs.YthnjebpbokmemaaDoor
open Go.RowKit
set_option linter.unusedVariables false

theorem ids_some {l : List Ev} {id : Int} (h : id ∈ idsL l) : ∃ f, lifeGo id 0 l = some f := by
  rw [ids_uniq, (uniq_spec (openedL l)).2] at h
  unfold openedL at h
  rw [List.mem_map] at h
  obtain ⟨x, hx, rfl⟩ := h
  rw [List.mem_filter] at hx
  have key : ∀ (l : List Ev) (c : Int), x ∈ l → ∃ f, lifeGo x.id c l = some f := by
    intro l
    induction l with
    | nil => intro c h; simp at h
    | cons y r ih =>
      intro c h
      unfold lifeGo
      by_cases ho : opens x.id y = true
      · rw [if_pos ho]; exact ⟨_, rfl⟩
      · rw [if_neg ho]
        rcases List.mem_cons.1 h with rfl | h
        · exfalso; apply ho; simp [opens]; simpa using hx.2
        · exact ih _ h
  exact key l 0 hx.1
theorem life_steps {id : Int} {l : List Ev} {f : LifeM} (h : lifeGo id 0 l = some f) (hs : f.status ≠ 0) : f.steps ≠ [] := by
  have hadd : ∀ (f : LifeM) (x : Ev), (f.status ≠ 0 → f.steps ≠ []) → ((addL id f x).status ≠ 0 → (addL id f x).steps ≠ []) := by
    intro f x hf
    unfold addL
    repeat' split
    all_goals first
      | exact hf
      | (intro _; simp)
  have hfold : ∀ (l : List Ev) (f : LifeM), (f.status ≠ 0 → f.steps ≠ []) → ((l.foldl (addL id) f).status ≠ 0 → (l.foldl (addL id) f).steps ≠ []) := by
    intro l
    induction l with
    | nil => intro f hf; exact hf
    | cons x r ih => intro f hf; exact ih _ (hadd f x hf)
  have key : ∀ (l : List Ev) (c : Int) (f : LifeM), lifeGo id c l = some f → f.status ≠ 0 → f.steps ≠ [] := by
    intro l
    induction l with
    | nil => intro c f h; cases h
    | cons x r ih =>
      intro c f h
      unfold lifeGo at h
      split at h
      · injection h with h
        subst h
        exact hfold r _ (fun h => absurd rfl h)
      · exact ih _ _ h
  exact key l 0 f h hs
/-- a row under way, of the page: its block, and of the others nothing is changed -/
structure RowAtR (w0 W wr : World) (R : Nat) (r : RowM) : Prop where
  blk : Blk wr R 26 (rowV r)
  only : Only (· = R) W wr
  bel : Below w0.heap.size w0 wr
theorem RowAtR.set_ {w0 W wr : World} {R : Nat} {r r' : RowM} (h : RowAtR w0 W wr R r) (hR : w0.heap.size ≤ R) (i : Nat) (v : Value) (he : (rowV r).setIfInBounds i v = rowV r') : RowAtR w0 W (wr.setCell ⟨R, i, none⟩ v) R r' :=
  ⟨by rw [← he]; exact h.blk.set_ i v, h.only.setCell (Or.inl rfl) v, h.bel.setCell hR v⟩
theorem Tryd.infoRowR : (Tryd.prog.info? 26).map (fun i => (i.zero, i.size, i.bytes)) = some (some (.agg zeroRowV), 10, 80) := by kernel_rfl
theorem rd_notR {w : World} {g : Nat} {t : TypeId} {A : Option Addr} {xs : List Value} (hb : Blk w g t #[]) (h : Rd w NoBlk A xs) : Rd w (· = g) A xs := by
  rcases h with h | ⟨b, o, hA, hm, hlt, hc⟩
  · exact Or.inl h
  · by_cases hx : xs.length = 0
    · exact Or.inl (List.eq_nil_of_length_eq_zero hx)
    · refine Or.inr ⟨b, o, hA, fun e => ?_, hlt, hc⟩
      subst e
      have h0 := hc 0 (by omega)
      rw [hb.cell, List.getElem?_eq_getElem (by omega)] at h0
      simp at h0
theorem stp_lastR {w : World} {M : Nat → Prop} {A : Option Addr} {L : List Stp} (hr : Rd w M A (flat encStp L)) (m : Nat) (hm : m = L.length) (hp : m ≠ 0) : ∃ b o, A = some ⟨b, o, none⟩ ∧ b < w.heap.size ∧ ¬ M b ∧ w.cell? ⟨b, o + (m - 1) * 6, none⟩ = some (.int .i64 (stpAt L (m - 1)).tick) := by
  subst hm
  obtain ⟨b, o, hA, hm, hb, hc, _⟩ := stp_cellsR hr (L.length - 1) (by omega)
  exact ⟨b, o, hA, hb, hm, hc⟩
set_option maxRecDepth 100000 in
set_option maxHeartbeats 8000000 in
theorem refRows_c (A : Option Addr) (c : Nat) (l : List Ev) (w : World) (hr : Rd w NoBlk A (flat encEv l)) (hn : l.length ≤ 10000) (hx : ∀ x ∈ l, x.s.size ≤ 100) :
    Calls Tryd.prog 11 #[.slice A l.length c] w fun e w' => Below w.heap.size w w' ∧ ∃ A1 c1, e = .returned (.slice A1 (rowsL l).length c1) ∧ Rd w' NoBlk A1 (flat encR (rowsL l)) := by
  obtain ⟨i0, hi, hz0, hz1, hz2⟩ := info_parts Tryd.infoRowR
  obtain ⟨W, hW⟩ : ∃ W, W = w.alloc (.cells #[] 26) := ⟨_, rfl⟩
  have hL : Below w.heap.size w W := by rw [hW]; exact below_alloc _ _
  have hrW := hr.below hL
  have HO0 := hide (show W.ownsRow w.heap.size 26 10 (.slice (some ⟨w.heap.size, 0, none⟩) 0 0) 0 (flat encR []) by rw [hW]; exact own_empty (Nat.le_refl _))
  have HZ := hide (show Blk W w.heap.size 26 #[] by rw [hW]; exact Blk.new _ _ _)
  have HRS := hide (rd_notR HZ.out hrW)
  have hids := refIds_c A c l W hrW hn
  have hile := ids_le l
  have HOf := hide (fun (id : Int) (w' : World) (hb : Only (· = w.heap.size) W w') => refOf_c A c l id w' ((HRS.out.only hb (fun _ h => h)).mono (fun _ h => h.elim)) hn hx)
  have Hrl := hide (show (rowsL l).length = (idsL l).length ∧ flat encR (rowsL l) = flat encR ((idsL l).map fun id => rowO id (lifeGo id 0 l)) from ⟨by simp [rowsL], rfl⟩)
  have Hsm := hide (fun id f (h : lifeGo id 0 l = some f) => life_small2 h hx)
  have Hso := hide (fun id (h : id ∈ idsL l) => ids_some h)
  have Hst := hide (fun id f (h : lifeGo id 0 l = some f) (hs : f.status ≠ 0) => life_steps h hs)
  obtain ⟨L, hLL⟩ : ∃ L, L = idsL l := ⟨_, rfl⟩
  rw [← hLL] at hids hile Hrl Hso
  obtain ⟨N, hN⟩ : ∃ N, N = L.length := ⟨_, rfl⟩
  rw [← hN] at hids hile Hrl
  have HIds := hide hids
  have HN := hide hN
  have HW := hide hW
  have HL := hide hL
  obtain ⟨nl, hnl⟩ : ∃ nl, nl = l.length := ⟨_, rfl⟩
  rw [← hnl] at HIds HOf hn hile Hsm ⊢
  clear hids hN hnl hLL hr hx hrW hW hL
  go_enter Tryd.func11, Tryd.ntmps11
  go_wp2_with fail
  change Calls _ _ _ (w.alloc (.cells #[] 26)) _
  rw [← HW.out]
  refine HIds.out.mono ?_
  rintro e w3 ⟨hb3, A3, c3, rfl, hr3⟩
  have HR3S := hide (rd_notR (HZ.out.below hb3) hr3)
  have HO3 := hide (own_only HO0.out (Only.of_below hb3 NoBlk) (fun _ _ h => h.elim))
  have HB3 := hide hb3
  clear hb3 hr3
  go_wp2_with fail
  go_loopw [3, 5] (fun v i wr => ∃ k m : Nat, k ≤ N ∧ m = k ∧ i = .int .i64 k ∧ wr.ownsRow w.heap.size 26 10 v m (flat encR ((L.take k).map fun id => rowO id (lifeGo id 0 l))) ∧ Hid (∀ j, v.ownBlock = some j → j = w.heap.size ∨ w3.heap.size ≤ j) ∧ Hid (Only (· = w.heap.size) w3 wr) ∧ Hid (Below w.heap.size w wr)) (fun _ i _ => N - (intOf i).toNat)
  case atStart => exact ⟨0, 0, Nat.zero_le _, rfl, rfl, HO3.out, hide (fun j hj => Or.inl (by simp [Value.ownBlock] at hj; omega)), hide (Only.refl _ _), hide (HL.out.trans (HB3.out.mono HL.out.size))⟩
  case round =>
    obtain ⟨k, m, hk, hm, rfl, hown, hob, hon, hbel⟩ := hrel
    by_cases hlt : k < N
    · obtain ⟨b, o, rfl, hbl, g0⟩ := encI_cell (HR3S.out.only hon.out (fun _ h => h)) k (by rw [← HN.out]; exact hlt)
      have HS := hide (rows_succ l L k (by rw [← HN.out]; exact hlt))
      have hmem : nth L k ∈ L := by rw [nth_of_lt (by rw [← HN.out]; exact hlt)]; exact List.getElem_mem _
      obtain ⟨id, hid⟩ : ∃ id, id = nth L k := ⟨_, rfl⟩
      rw [← hid] at g0 HS hmem
      clear hid
      obtain ⟨f, hf⟩ := Hso.out id hmem
      have hsf := Hsm.out id f hf
      have hs1 := hsf.steps; have hs4 := hsf.read; have hs5 := hsf.taken
      have Hst1 := hide (fun hs => Hst.out id f hf hs)
      have hof := HOf.out id wr ((Only.of_below HB3.out _).trans hon.out)
      rw [hf] at hof HS
      have HOo := hide hof
      have Hl := hide (fun k => looks_succ f.steps k)
      have Hj := hide (fun k => jumps_succ f.steps k)
      have Hll := hide (fun k => looks_le f.steps k)
      have Hjl := hide (fun k => jumps_le f.steps k)
      have Hend := hide (show rowO id (some f) = ⟨id, f.script, f.start, f.steps.length, looksN (f.steps.take f.steps.length), jumpsN (f.steps.take f.steps.length), f.read.size, f.taken.size, f.status, endK f f.steps.length⟩ from rfl)
      have Hek := hide (show endK f f.steps.length = if f.status = 0 ∨ f.steps.length = 0 then 9223372036854775807 else (stpAt f.steps (f.steps.length - 1)).tick from rfl)
      have Hst2 := hide (fun (hs : f.status ≠ 0) (h0 : f.steps.length = 0) => (Hst1.out hs) (List.eq_nil_of_length_eq_zero h0))
      clear hof hmem hf hsf Hst1
      have j1 : (0 : Int) ≤ (k : Int) := by omega
      have j2 : (k : Int) < (N : Int) := by omega
      have j3 : decide ((k : Int) < (N : Int)) = true := by simp; exact hlt
      go_wp2_with fail
      refine HOo.out.mono ?_
      intro e w4 hret
      obtain ⟨hb4, A4, c4, B4, d4, C4, n4, c5, rfl, _, rs4⟩ := hret
      have HRs := hide (show Rd w4 NoBlk B4 (flat encStp f.steps) from rs4)
      have hown4 := own_only hown (Only.of_below hb4 NoBlk) (fun _ _ h => h.elim)
      have HB4 := hide (hbel.out.trans (hb4.mono hbel.out.size))
      have HN4 := hide (hon.out.trans (Only.of_below hb4 _))
      have gk := bkeep hb4 g0
      have hb4l : b < w4.heap.size := World.block_lt_of_cell? _ _ gk
      have e2 : ¬ b = w4.heap.size := by omega
      simp only [lifeV]
      obtain ⟨sc, hsc⟩ : ∃ x, x = f.script := ⟨_, rfl⟩
      obtain ⟨st, hstt⟩ : ∃ x, x = f.start := ⟨_, rfl⟩
      obtain ⟨il, hil⟩ : ∃ x, x = f.ins.length := ⟨_, rfl⟩
      obtain ⟨n, hnn⟩ : ∃ x, x = f.steps.length := ⟨_, rfl⟩
      obtain ⟨rd, hrd⟩ : ∃ x, x = f.read := ⟨_, rfl⟩
      obtain ⟨tk, htk⟩ : ∃ x, x = f.taken := ⟨_, rfl⟩
      obtain ⟨eo, heo⟩ : ∃ x, x = f.eof := ⟨_, rfl⟩
      obtain ⟨ss, hss⟩ : ∃ x, x = f.status := ⟨_, rfl⟩
      obtain ⟨rs, hrs⟩ : ∃ x, x = rd.size := ⟨_, rfl⟩
      obtain ⟨ts, hts⟩ : ∃ x, x = tk.size := ⟨_, rfl⟩
      rw [← hsc, ← hstt, ← hil, ← hnn, ← hrd, ← htk, ← heo, ← hss]
      rw [← hsc, ← hstt, ← hnn, ← hrd, ← htk, ← hss, ← hrs, ← hts] at Hend
      rw [← hnn, ← hss] at Hek Hst2
      rw [← hnn] at Hl Hj Hll Hjl hs1
      rw [← hrd, ← hrs] at hs4
      rw [← htk, ← hts] at hs5
      have Hnn := hide hnn
      clear rs4 hb4 g0 hsc hstt hil hnn hrd htk heo hss
      have hrs1 : rd.size = rs := hrs.symm
      have hts1 : tk.size = ts := hts.symm
      clear hrs hts
      have Hd := hide (And.intro hrs1 hts1)
      go_upto_region 6 with fail
      change Code.wp _ _ _ _ (w4.alloc (.cells #[.int .i64 id, .int .i64 sc, .int .i64 st, .slice A4 il c4, .slice C4 n4 c5, .slice B4 n d4, .string rd, .string tk, .bool eo, .int .i64 ss] 56))
      obtain ⟨W4, hW4⟩ : ∃ W4, W4 = w4.alloc (.cells #[.int .i64 id, .int .i64 sc, .int .i64 st, .slice A4 il c4, .slice C4 n4 c5, .slice B4 n d4, .string rd, .string tk, .bool eo, .int .i64 ss] 56) := ⟨_, rfl⟩
      have hl4 : Below w4.heap.size w4 W4 := by rw [hW4]; exact below_alloc _ _
      have hlb : Blk W4 w4.heap.size 56 #[.int .i64 id, .int .i64 sc, .int .i64 st, .slice A4 il c4, .slice C4 n4 c5, .slice B4 n d4, .string rd, .string tk, .bool eo, .int .i64 ss] := by rw [hW4]; exact Blk.new _ _ _
      have hsz4 : W4.heap.size = w4.heap.size + 1 := by rw [hW4]; simp
      have gk4 := bkeep hl4 gk
      have HL4 := hide hl4
      have HLB := hide hlb
      rw [← hW4]
      clear hW4 hl4
      have y1 : W4.cell? ⟨w4.heap.size, 1, none⟩ = some (.int .i64 sc) := by rw [hlb.cell]; rfl
      have y2 : W4.cell? ⟨w4.heap.size, 2, none⟩ = some (.int .i64 st) := by rw [hlb.cell]; rfl
      have y5 : W4.cell? ⟨w4.heap.size, 5, none⟩ = some (.slice B4 n d4) := by rw [hlb.cell]; rfl
      have y6 : W4.cell? ⟨w4.heap.size, 6, none⟩ = some (.string rd) := by rw [hlb.cell]; rfl
      have y7 : W4.cell? ⟨w4.heap.size, 7, none⟩ = some (.string tk) := by rw [hlb.cell]; rfl
      have y9 : W4.cell? ⟨w4.heap.size, 9, none⟩ = some (.int .i64 ss) := by rw [hlb.cell]; rfl
      clear hlb gk
      go_cut [8] from 29 to 48 (fun v wx => v = .pointer (some ⟨w4.heap.size + 1, 0, none⟩) ∧ Hid (Blk wx (w4.heap.size + 1) 26 (rowV ⟨id, sc, st, n, 0, 0, rs, ts, ss, 9223372036854775807⟩)) ∧ Hid (Below W4.heap.size W4 wx))
      case first =>
        go_region_held3 (fun w' => w'.cell? ⟨w4.heap.size, 1, none⟩ = some (.int .i64 sc) ∧ w'.cell? ⟨w4.heap.size, 2, none⟩ = some (.int .i64 st) ∧ w'.cell? ⟨w4.heap.size, 5, none⟩ = some (.slice B4 n d4) ∧ w'.cell? ⟨w4.heap.size, 6, none⟩ = some (.string rd) ∧ w'.cell? ⟨w4.heap.size, 7, none⟩ = some (.string tk) ∧ w'.cell? ⟨w4.heap.size, 9, none⟩ = some (.int .i64 ss) ∧ w'.cell? ⟨b, o + k, none⟩ = some (.int .i64 id)) (go_keep) (fail)
        all_goals
          go_wp2_with fail
          go_meet
          exact ⟨rfl, hide (show Blk _ _ _ _ from (Blk.new' (w := W4) (t := 26) (cs := rowV ⟨id, sc, st, n, 0, 0, rs, ts, ss, 9223372036854775807⟩) hsz4.symm).drew), hide (below_drew' ((Below.refl W4.heap.size W4).alloc (Nat.le_refl _) _))⟩
      case rest =>
        obtain ⟨rfl, hrb, hwcb⟩ := hcut
        have HLB5 := hide (HLB.out.below hwcb.out)
        have HRA := hide (show RowAtR w wc wc (w4.heap.size + 1) ⟨id, sc, st, n, 0, 0, rs, ts, ss, 9223372036854775807⟩ from ⟨hrb.out, Only.refl _ _, (HB4.out.trans (HL4.out.mono HB4.out.size)).trans (hwcb.out.mono (HB4.out.trans (HL4.out.mono HB4.out.size)).size)⟩)
        have HRd := hide (show Rd wc (· = w4.heap.size + 1) B4 (flat encStp f.steps) from by
          rcases HRs.out with h | ⟨b9, o9, hA, hm9, hb9, hc9⟩
          · exact Or.inl h
          · have h2 : Rd w4 (· = w4.heap.size + 1) B4 (flat encStp f.steps) := Or.inr ⟨b9, o9, hA, by omega, hb9, hc9⟩
            exact (h2.below HL4.out).below hwcb.out)
        have hown4' := hown4
        have HWc := hide hwcb.out
        have HN5 := hide (HN4.out.trans ((Only.of_below HL4.out _).trans (Only.of_below hwcb.out _)))
        have Hlw := hide (show w.heap.size ≤ w4.heap.size from HB4.out.size)
        have gk4' := gk4
        clear hown4 hown y1 y2 y5 y6 y7 y9 hrb hwcb gk4
        have Hown4 := hide hown4'
        clear hown4'
        go_wp2_with fail
        go_loopw [9] (fun i wq => ∃ q : Nat, q ≤ n ∧ i = .int .i64 q ∧ Hid (RowAtR w wc wq (w4.heap.size + 1) ⟨id, sc, st, n, looksN (f.steps.take q), jumpsN (f.steps.take q), rs, ts, ss, 9223372036854775807⟩)) (fun i _ => n - (intOf i).toNat)
        case atStart => exact ⟨0, Nat.zero_le _, rfl, HRA⟩
        case round =>
          obtain ⟨q, hq, rfl, hra⟩ := hrel
          have hra1 := hra.out
          obtain ⟨y0, y1, y2, y3, y4, y5, y6, y7, y8, y9⟩ := hra1.blk.tenR
          have hlbq := HLB5.out.only hra1.only (by omega)
          have l5 : wr.cell? ⟨w4.heap.size, 5, none⟩ = some (.slice B4 n d4) := by rw [hlbq.cell]; rfl
          have l9 : wr.cell? ⟨w4.heap.size, 9, none⟩ = some (.int .i64 ss) := by rw [hlbq.cell]; rfl
          have hRq := hra1.blk.lt
          by_cases hltq : q < n
          · obtain ⟨b6, o6, rfl, hbm, hbl6, s0, s1, s2, s3, s4, s5⟩ := stp_cellsR (HRd.out.only hra1.only (fun _ h => h)) q (by rw [← Hnn.out]; exact hltq)
            have Hl1 := Hl.out q hltq
            have Hj1 := Hj.out q hltq
            have Hll1 := Hll.out q
            have Hjl1 := Hjl.out q
            obtain ⟨x, hx⟩ : ∃ x, x = stpAt f.steps q := ⟨_, rfl⟩
            rw [← hx] at s0 s1 s2 s3 s4 s5 Hl1 Hj1
            obtain ⟨lk, hlk⟩ : ∃ lk, lk = looksN (f.steps.take q) := ⟨_, rfl⟩
            obtain ⟨jk, hjk⟩ : ∃ jk, jk = jumpsN (f.steps.take q) := ⟨_, rfl⟩
            rw [← hlk] at hra1 Hl1 Hll1 y4
            rw [← hjk] at hra1 Hj1 Hjl1 y5
            have HRA1 := hide hra1
            have HL1 := hide Hl1
            have HJ1 := hide Hj1
            have f4 := hra1.blk.frozen 4
            have f5 := hra1.blk.frozen 5
            have w1 : IntKind.i64.wrap (lk + 1) = lk + 1 := IntWalk.i64_in _ (by omega)
            have w2 : IntKind.i64.wrap (jk + 1) = jk + 1 := IntWalk.i64_in _ (by omega)
            have i1 : (0 : Int) ≤ (q : Int) := by omega
            have i2 : (q : Int) < (n : Int) := by omega
            have i3 : decide ((q : Int) < (n : Int)) = true := by simp; exact hltq
            have HJB := hide (show jumpsB x = (((x.what == 2) || (x.what == 3) || (x.what == 4) || (x.what == 7)) && (x.status == 0)) from rfl)
            have hR : w.heap.size ≤ w4.heap.size + 1 := by have := Hlw.out; omega
            clear Hl1 Hj1 hra1 hlk hjk hx Hll1 Hjl1 y0 y1 y2 y3 y6 y7 y8 y9 l9 hlbq
            cases q1 : (x.what == 1) with
            | true =>
              have Qw := hide (show x.what = 1 by simpa using q1)
              have q2 : (x.what == 2) = false := by rw [Qw.out]; decide
              have q3 : (x.what == 3) = false := by rw [Qw.out]; decide
              have q4 : (x.what == 4) = false := by rw [Qw.out]; decide
              have q7 : (x.what == 7) = false := by rw [Qw.out]; decide
              cases q0 : (x.status == 0) with
              | true =>
                have H5 := hide ((HRA1.out.set_ (r' := ⟨id, sc, st, n, lk + 1, jk, rs, ts, ss, 9223372036854775807⟩) hR 4 (.int .i64 (lk + 1)) rfl))
                have HFl := hide (show looksN (f.steps.take (q + 1)) = lk + 1 by rw [HL1.out, if_pos Qw.out])
                have HFj := hide (show jumpsN (f.steps.take (q + 1)) = jk by rw [HJ1.out, HJB.out, q2, q3, q4, q7]; simp)
                clear HRA1 HL1 HJ1 HJB Qw
                go_wp2_with fail
                go_roundw
                case rel => exact ⟨q + 1, by omega, by go_num, hide (by rw [HFl.out, HFj.out]; exact H5.out)⟩
                case measure => simp [intOf]; omega
              | false =>
                have H5 := hide ((HRA1.out.set_ (r' := ⟨id, sc, st, n, lk + 1, jk, rs, ts, ss, 9223372036854775807⟩) hR 4 (.int .i64 (lk + 1)) rfl))
                have HFl := hide (show looksN (f.steps.take (q + 1)) = lk + 1 by rw [HL1.out, if_pos Qw.out])
                have HFj := hide (show jumpsN (f.steps.take (q + 1)) = jk by rw [HJ1.out, HJB.out, q2, q3, q4, q7]; simp)
                clear HRA1 HL1 HJ1 HJB Qw
                go_wp2_with fail
                go_roundw
                case rel => exact ⟨q + 1, by omega, by go_num, hide (by rw [HFl.out, HFj.out]; exact H5.out)⟩
                case measure => simp [intOf]; omega
            | false =>
              have Qw := hide (show ¬ x.what = 1 by simpa using q1)
              cases q0 : (x.status == 0) with
              | false =>
                have H5 := hide (HRA1.out)
                have HFl := hide (show looksN (f.steps.take (q + 1)) = lk by rw [HL1.out, if_neg Qw.out]; simp)
                have HFj := hide (show jumpsN (f.steps.take (q + 1)) = jk by rw [HJ1.out, HJB.out, q0]; simp)
                clear HRA1 HL1 HJ1 HJB Qw
                go_wp2_with fail
                go_roundw
                case rel => exact ⟨q + 1, by omega, by go_num, hide (by rw [HFl.out, HFj.out]; exact H5.out)⟩
                case measure => simp [intOf]; omega
              | true =>
                cases q2 : (x.what == 2) with
                | true =>
                  have H5 := hide ((HRA1.out.set_ (r' := ⟨id, sc, st, n, lk, jk + 1, rs, ts, ss, 9223372036854775807⟩) hR 5 (.int .i64 (jk + 1)) rfl))
                  have HFl := hide (show looksN (f.steps.take (q + 1)) = lk by rw [HL1.out, if_neg Qw.out]; simp)
                  have HFj := hide (show jumpsN (f.steps.take (q + 1)) = jk + 1 by rw [HJ1.out, HJB.out, q2, q0]; simp)
                  clear HRA1 HL1 HJ1 HJB Qw
                  go_wp2_with fail
                  go_roundw
                  case rel => exact ⟨q + 1, by omega, by go_num, hide (by rw [HFl.out, HFj.out]; exact H5.out)⟩
                  case measure => simp [intOf]; omega
                | false =>
                  cases q3 : (x.what == 3) with
                  | true =>
                    have H5 := hide ((HRA1.out.set_ (r' := ⟨id, sc, st, n, lk, jk + 1, rs, ts, ss, 9223372036854775807⟩) hR 5 (.int .i64 (jk + 1)) rfl))
                    have HFl := hide (show looksN (f.steps.take (q + 1)) = lk by rw [HL1.out, if_neg Qw.out]; simp)
                    have HFj := hide (show jumpsN (f.steps.take (q + 1)) = jk + 1 by rw [HJ1.out, HJB.out, q2, q3, q0]; simp)
                    clear HRA1 HL1 HJ1 HJB Qw
                    go_wp2_with fail
                    go_roundw
                    case rel => exact ⟨q + 1, by omega, by go_num, hide (by rw [HFl.out, HFj.out]; exact H5.out)⟩
                    case measure => simp [intOf]; omega
                  | false =>
                    cases q4 : (x.what == 4) with
                    | true =>
                      have H5 := hide ((HRA1.out.set_ (r' := ⟨id, sc, st, n, lk, jk + 1, rs, ts, ss, 9223372036854775807⟩) hR 5 (.int .i64 (jk + 1)) rfl))
                      have HFl := hide (show looksN (f.steps.take (q + 1)) = lk by rw [HL1.out, if_neg Qw.out]; simp)
                      have HFj := hide (show jumpsN (f.steps.take (q + 1)) = jk + 1 by rw [HJ1.out, HJB.out, q2, q3, q4, q0]; simp)
                      clear HRA1 HL1 HJ1 HJB Qw
                      go_wp2_with fail
                      go_roundw
                      case rel => exact ⟨q + 1, by omega, by go_num, hide (by rw [HFl.out, HFj.out]; exact H5.out)⟩
                      case measure => simp [intOf]; omega
                    | false =>
                      cases q7 : (x.what == 7) with
                      | true =>
                        have H5 := hide ((HRA1.out.set_ (r' := ⟨id, sc, st, n, lk, jk + 1, rs, ts, ss, 9223372036854775807⟩) hR 5 (.int .i64 (jk + 1)) rfl))
                        have HFl := hide (show looksN (f.steps.take (q + 1)) = lk by rw [HL1.out, if_neg Qw.out]; simp)
                        have HFj := hide (show jumpsN (f.steps.take (q + 1)) = jk + 1 by rw [HJ1.out, HJB.out, q2, q3, q4, q7, q0]; simp)
                        clear HRA1 HL1 HJ1 HJB Qw
                        go_wp2_with fail
                        go_roundw
                        case rel => exact ⟨q + 1, by omega, by go_num, hide (by rw [HFl.out, HFj.out]; exact H5.out)⟩
                        case measure => simp [intOf]; omega
                      | false =>
                        have H5 := hide (HRA1.out)
                        have HFl := hide (show looksN (f.steps.take (q + 1)) = lk by rw [HL1.out, if_neg Qw.out]; simp)
                        have HFj := hide (show jumpsN (f.steps.take (q + 1)) = jk by rw [HJ1.out, HJB.out, q2, q3, q4, q7]; simp)
                        clear HRA1 HL1 HJ1 HJB Qw
                        go_wp2_with fail
                        go_roundw
                        case rel => exact ⟨q + 1, by omega, by go_num, hide (by rw [HFl.out, HFj.out]; exact H5.out)⟩
                        case measure => simp [intOf]; omega
          · have hqn : q = n := by omega
            subst hqn
            have hdq : decide ((q : Int) < (q : Int)) = false := by simp
            have hdq2 : decide (q < q) = false := by simp
            have HRAq := hide hra1
            have HNq := hide (show Only NoBlk w4 wr from ((Only.of_below HL4.out NoBlk).trans (Only.of_below HWc.out NoBlk)).fresh hra1.only (fun i _ hi => Or.inr (by omega)))
            have HLst := hide (fun (h0 : q ≠ 0) => stp_lastR (HRd.out.only hra1.only (fun _ h => h)) q Hnn.out h0)
            obtain ⟨lk, hlk⟩ : ∃ lk, lk = looksN (f.steps.take q) := ⟨_, rfl⟩
            obtain ⟨jk, hjk⟩ : ∃ jk, jk = jumpsN (f.steps.take q) := ⟨_, rfl⟩
            rw [← hlk] at HRAq y4 Hend
            rw [← hjk] at HRAq y5 Hend
            have f9 := hra1.blk.frozen 9
            have gkq := bkeep HWc.out gk4'
            have hR : w.heap.size ≤ w4.heap.size + 1 := by have := Hlw.out; omega
            have hwq : w4.heap.size < wr.heap.size := by omega
            clear hra1 hra hlk hjk hlbq Hl Hj Hll Hjl HRA HRd
            cases qs : (ss != 0) with
            | true =>
              have hss0 : ¬ ss = 0 := by simpa using qs
              have hq0 : q ≠ 0 := Hst2.out hss0
              obtain ⟨b6, o6, rfl, hbl6, hbm6, s0⟩ := HLst.out hq0
              obtain ⟨tkl, htkl⟩ : ∃ tkl, tkl = (stpAt f.steps (q - 1)).tick := ⟨_, rfl⟩
              rw [← htkl] at s0
              have w1 : IntKind.i64.wrap ((q : Int) - 1) = (q : Int) - 1 := IntWalk.i64_in _ (by omega)
              have w2 : ((q : Int) - 1).toNat = q - 1 := by omega
              have w3' : (0 : Int) ≤ (q : Int) - 1 := by omega
              have w4' : (q : Int) - 1 < (q : Int) := by omega
              have HF := hide (show rowO id (some f) = ⟨id, sc, st, q, lk, jk, rs, ts, ss, tkl⟩ by rw [Hend.out, Hek.out, if_neg (by intro h; rcases h with h | h; exact hss0 h; exact hq0 h)]; rw [htkl])
              have HNf := hide (show Only NoBlk w4 (wr.setCell ⟨w4.heap.size + 1, 9, none⟩ (.int .i64 tkl)) from HNq.out.setCell (Or.inr (by simp)) _)
              have hownf := own_only Hown4.out HNf.out (fun _ _ h => h.elim)
              have HBf := hide (show Below w.heap.size w (wr.setCell ⟨w4.heap.size + 1, 9, none⟩ (.int .i64 tkl)) from HRAq.out.bel.setCell hR _)
              have hsf : (wr.setCell ⟨w4.heap.size + 1, 9, none⟩ (.int .i64 tkl)).heap.size = wr.heap.size := by simp [World.setCell]
              have hrd9 : Rd ((wr.setCell ⟨w4.heap.size + 1, 9, none⟩ (.int .i64 tkl)).alloc (.cells (encR ⟨id, sc, st, q, lk, jk, rs, ts, ss, tkl⟩).toArray 26)) NoBlk (some ⟨wr.heap.size, 0, none⟩) (encR ⟨id, sc, st, q, lk, jk, rs, ts, ss, tkl⟩) := rd_blkN (Blk.new' hsf.symm) (fun h => h)
              have Hrd := hide hrd9
              have Hone := hide (encR_one ⟨id, sc, st, q, lk, jk, rs, ts, ss, tkl⟩)
              clear hrd9 Hend Hek Hst2 HLst htkl
              go_wp2_with (first
                | (at_builtin; refine wpList_append_rd _ rfl (.tmp 108) (.tmp 110) _ rfl w.heap.size 26 i0 _ 10 80 Tryd.underlying33 hi hz0 hz1 hz2 rfl (by omega) _ m _ rfl (hownf.alloc _) NoBlk (some ⟨wr.heap.size, 0, none⟩) 1 1 (encR ⟨id, sc, st, q, lk, jk, rs, ts, ss, tkl⟩) rfl Hrd.out rfl Hone.out (by simp only [maxLen]; omega) (by omega) (by have := HBf.out.size; simp; omega) ?_; intro v2 w5 hown5 hgr hat; have Own5 := hide hown5; have Gr := hide hgr; have At5 := hide hat; clear hown5 hgr hat))
              go_roundw
              case rel =>
                refine ⟨k + 1, m + 1, by omega, by omega, by go_num, ?_, ?_, ?_, ?_⟩
                · rw [HS.out, HF.out, flat_append]
                  have := Own5.out
                  simpa [flat] using this
                · refine hide (fun j hj => ?_)
                  rcases At5.out with e | e
                  · rw [e] at hj; exact hob.out j hj
                  · rw [e] at hj
                    injection hj with hj
                    have := HN4.out.size
                    have := HNf.out.size
                    simp at hj
                    omega
                · exact hide (((HN4.out.trans (HNf.out.mono (fun _ _ h => h.elim))).alloc _).grown Gr.out (fun j hj => hob.out j hj))
                · exact hide ((HBf.out.alloc HBf.out.size _).grown Gr.out (by have := HBf.out.size; simp; omega) (fun j hj => own_ge hownf j hj))
              case measure => simp [intOf]; omega
            | false =>
              have Hss0 := hide (show ss = 0 by simpa using qs)
              have HF := hide (show rowO id (some f) = ⟨id, sc, st, q, lk, jk, rs, ts, ss, 9223372036854775807⟩ by rw [Hend.out, Hek.out, if_pos (Or.inl Hss0.out)])
              have HNf := hide (show Only NoBlk w4 wr from HNq.out)
              have hownf := own_only Hown4.out HNf.out (fun _ _ h => h.elim)
              have HBf := hide (show Below w.heap.size w wr from HRAq.out.bel)
              have hsf : wr.heap.size = wr.heap.size := by rfl
              have hrd9 : Rd (wr.alloc (.cells (encR ⟨id, sc, st, q, lk, jk, rs, ts, ss, 9223372036854775807⟩).toArray 26)) NoBlk (some ⟨wr.heap.size, 0, none⟩) (encR ⟨id, sc, st, q, lk, jk, rs, ts, ss, 9223372036854775807⟩) := rd_blkN (Blk.new' hsf.symm) (fun h => h)
              have Hrd := hide hrd9
              have Hone := hide (encR_one ⟨id, sc, st, q, lk, jk, rs, ts, ss, 9223372036854775807⟩)
              clear hrd9 Hend Hek Hst2 HLst
              go_wp2_with (first
                | (at_builtin; refine wpList_append_rd _ rfl (.tmp 108) (.tmp 110) _ rfl w.heap.size 26 i0 _ 10 80 Tryd.underlying33 hi hz0 hz1 hz2 rfl (by omega) _ m _ rfl (hownf.alloc _) NoBlk (some ⟨wr.heap.size, 0, none⟩) 1 1 (encR ⟨id, sc, st, q, lk, jk, rs, ts, ss, 9223372036854775807⟩) rfl Hrd.out rfl Hone.out (by simp only [maxLen]; omega) (by omega) (by have := HBf.out.size; simp; omega) ?_; intro v2 w5 hown5 hgr hat; have Own5 := hide hown5; have Gr := hide hgr; have At5 := hide hat; clear hown5 hgr hat))
              go_roundw
              case rel =>
                refine ⟨k + 1, m + 1, by omega, by omega, by go_num, ?_, ?_, ?_, ?_⟩
                · rw [HS.out, HF.out, flat_append]
                  have := Own5.out
                  simpa [flat] using this
                · refine hide (fun j hj => ?_)
                  rcases At5.out with e | e
                  · rw [e] at hj; exact hob.out j hj
                  · rw [e] at hj
                    injection hj with hj
                    have := HN4.out.size
                    have := HNf.out.size
                    simp at hj
                    omega
                · exact hide (((HN4.out.trans (HNf.out.mono (fun _ _ h => h.elim))).alloc _).grown Gr.out (fun j hj => hob.out j hj))
                · exact hide ((HBf.out.alloc HBf.out.size _).grown Gr.out (by have := HBf.out.size; simp; omega) (fun j hj => own_ge hownf j hj))
              case measure => simp [intOf]; omega
    · have hke : k = N := by omega
      subst hke
      subst hm
      have hd : decide ((m : Int) < (m : Int)) = false := by simp
      have hd2 : decide (m < m) = false := by simp
      have ht : L.take m = L := List.take_of_length_le (by rw [← HN.out]; omega)
      rw [ht] at hown
      obtain ⟨A9, c9, rfl⟩ := own_form hown
      have hR := hide (Rd.of_own (M := NoBlk) hown (fun k h => h.elim))
      clear ht hlt hown
      go_wp2_with fail
      go_ret
      refine ⟨hbel.out, A9, c9, ?_, by rw [Hrl.out.2]; exact hR.out⟩
      rw [Hrl.out.1]
      rfl
end Go.Proofs.YthnjebpbokmemaaDoor
