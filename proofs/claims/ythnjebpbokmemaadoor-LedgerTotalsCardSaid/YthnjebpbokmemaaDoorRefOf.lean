/- The page's life of one. Conditions: those of each theorem. -/
import Derived.Test.YthnjebpbokmemaaDoorRefOfK7
import Derived.Test.YthnjebpbokmemaaDoorRefOfK4
import Derived.Test.YthnjebpbokmemaaDoorRefOfK5
import Derived.Test.YthnjebpbokmemaaDoorRefOfK6
import Derived.Test.YthnjebpbokmemaaDoorRefOfK8
import Derived.Test.YthnjebpbokmemaaDoorRefOfN
import Derived.Test.YthnjebpbokmemaaDoorRefOfZ
namespace Go.Proofs.YthnjebpbokmemaaDoor
open Go.RowKit
set_option linter.unusedVariables false

set_option maxRecDepth 100000 in
set_option maxHeartbeats 16000000 in
theorem refOf_c (A : Option Addr) (c : Nat) (l : List Ev) (id : Int) (w : World) (hr : Rd w NoBlk A (flat encEv l)) (hn : l.length ≤ 10000) (hx : ∀ x ∈ l, x.s.size ≤ 100) :
    Calls Tryd.prog 24 #[.slice A l.length c, .int .i64 id] w (RetLife31 id (lifeGo id 0 l) w) := by
  have Hc := hide (fun k hk => ev_cells hr k hk)
  have HX := hide hx
  obtain ⟨n, hnl⟩ : ∃ n, n = l.length := ⟨_, rfl⟩
  rw [← hnl] at hn ⊢
  have Hn := hide hnl
  clear hr hnl hx
  obtain ⟨ii, hii, hiz0, hiz1, hiz2⟩ := info_parts Tryd.infoInp
  obtain ⟨io, hio, hoz0, hoz1, hoz2⟩ := info_parts Tryd.infoOut23
  obtain ⟨is, his, hsz0, hsz1, hsz2⟩ := info_parts Tryd.infoStp
  go_enter Tryd.func24, Tryd.ntmps24
  go_wp2_with fail
  go_loopw [7, 8, 9] (fun ok ck i wr => ∃ k : Nat, k ≤ n ∧ i = .int .i64 k ∧ Hid (OfSt w wr id l k ok ck)) (fun _ _ i _ => n - (intOf i).toNat)
  case atStart =>
    refine ⟨0, Nat.zero_le _, rfl, hide (ofSt_none rfl rfl ?_ ?_ ?_)⟩
    · exact (below_alloc _ _).alloc (by simp) _
    · exact (Blk.new w _ _).alloc _
    · exact Blk.new' (by simp)
  case round =>
    obtain ⟨k, hk, rfl, hst⟩ := hrel
    by_cases hlt : k < n
    · obtain ⟨b, o, rfl, _, hb, g0, g1, g2, g3, g4, g5, g6, g7, g8, g9, g10, g11⟩ := Hc.out k (by rw [← Hn.out]; exact hlt)
      have hbel := hst.out.1
      replace g0 := bkeepL hbel hb g0
      replace g1 := bkeepL hbel hb g1
      replace g2 := bkeepL hbel hb g2
      replace g3 := bkeepL hbel hb g3
      replace g4 := bkeepL hbel hb g4
      replace g5 := bkeepL hbel hb g5
      replace g6 := bkeepL hbel hb g6
      replace g7 := bkeepL hbel hb g7
      replace g8 := bkeepL hbel hb g8
      replace g9 := bkeepL hbel hb g9
      replace g10 := bkeepL hbel hb g10
      replace g11 := bkeepL hbel hb g11
      have HF := hide (lifeGo_succ id l k (by rw [← Hn.out]; exact hlt))
      have HC := hide (clock_succ 0 l k (by rw [← Hn.out]; exact hlt))
      have hxs := HX.out (evAt l k) (by
        have e : evAt l k = l[k]'(by rw [← Hn.out]; exact hlt) := by simp [evAt, List.getD, show k < l.length by rw [← Hn.out]; exact hlt]
        rw [e]; exact List.getElem_mem _)
      obtain ⟨x, hx⟩ : ∃ x, x = evAt l k := ⟨_, rfl⟩
      rw [← hx] at g0 g1 g2 g3 g4 g5 g6 g7 g8 g9 g10 g11 HF HC hxs
      clear hx
      have hB0 := hide hst.out.2.1
      have hst2 := hst.out.2.2
      have Hbel := hide hbel
      clear hst hbel
      cases ho : lifeGo id 0 (l.take k) with
      | none =>
        rw [ho] at hst2
        have HF2 : Hid (lifeGo id 0 (l.take (k + 1)) = if opens id x then some (life0 x.n (clockOf 0 (l.take k))) else none) := hide (by rw [HF.out, ho])
        clear HF ho
        obtain ⟨rfl, rfl, hB1⟩ := hst2
        exact refOf_z (R' := _) _ _ _ rfl b o c n k l id 0 w wr x hlt hn g0 g1 g2 g3 g4 g5 g6 g7 g8 g9 g10 g11 hxs hB0.out Hbel.out hB1 HF2 HC _ _ _ _ _ _ _ _ _ _ _ _ _ _ _ _ _ _ _ _ _ _ _ _ _ _ _ _ _ _ _ _ _ _ _ _ _ _ _ _ _ _ _ _ _ _ _ _ _ _ _ _ _ _ _ _ _ _ _ _ _ _ _ _ _ _ _ _ _ _ _ _ _ _ _ _ _ _ _ _ _ _ _ _ _ _ _ _ _ _ _ _ _ _ _ _ _ _ _ _ _ _ _ _ _ _ _ _ _ _ _ _ _ _ _ _ _ _ _ _ _ _ _ _ _ _ _ _ _ _ _ _ _ _ _ _ _ _ _ _ _ _ _ _ _ _ _ _ _ _ _ _ _ _ _ _ (fun _ _ h => h)
      | some f =>
        rw [ho] at hst2
        have HF2 : Hid (lifeGo id 0 (l.take (k + 1)) = some (addL id f x)) := hide (by rw [HF.out, ho])
        clear HF ho
        obtain ⟨rfl, hRL, hsm, ck, rfl⟩ := hst2
        by_cases h7 : x.k = 7
        · by_cases hs : f.status = 0
          · exact refOf_k7 (R' := _) _ _ _ rfl b o c n k l id ck w wr f x hlt hn g0 g1 g2 g3 g4 g5 g6 g7 g8 g9 g10 g11 hxs hB0.out Hbel.out hRL hsm HF2 ⟨h7, hs⟩ _ _ _ _ _ _ _ _ _ _ _ _ _ _ _ _ _ _ _ _ _ _ _ _ _ _ _ _ _ _ _ _ _ _ _ _ _ _ _ _ _ _ _ _ _ _ _ _ _ _ _ _ _ _ _ _ _ _ _ _ _ _ _ _ _ _ _ _ _ _ _ _ _ _ _ _ _ _ _ _ _ _ _ _ _ _ _ _ _ _ _ _ _ _ _ _ _ _ _ _ _ _ _ _ _ _ _ _ _ _ _ _ _ _ _ _ _ _ _ _ _ _ _ _ _ _ _ _ _ _ _ _ _ _ _ _ _ _ _ _ _ _ _ _ _ _ _ _ _ _ _ _ _ _ _ _ (fun _ _ h => h)
          · exact refOf_n7 (R' := _) _ _ _ rfl b o c n k l id ck w wr f x hlt hn g0 g1 g2 g3 g4 g5 g6 g7 g8 g9 g10 g11 hxs hB0.out Hbel.out hRL hsm HF2 h7 hs _ _ _ _ _ _ _ _ _ _ _ _ _ _ _ _ _ _ _ _ _ _ _ _ _ _ _ _ _ _ _ _ _ _ _ _ _ _ _ _ _ _ _ _ _ _ _ _ _ _ _ _ _ _ _ _ _ _ _ _ _ _ _ _ _ _ _ _ _ _ _ _ _ _ _ _ _ _ _ _ _ _ _ _ _ _ _ _ _ _ _ _ _ _ _ _ _ _ _ _ _ _ _ _ _ _ _ _ _ _ _ _ _ _ _ _ _ _ _ _ _ _ _ _ _ _ _ _ _ _ _ _ _ _ _ _ _ _ _ _ _ _ _ _ _ _ _ _ _ _ _ _ _ _ _ _ (fun _ _ h => h)
        · by_cases hi : x.id = id
          · by_cases h4 : x.k = 4
            · exact refOf_k4 (R' := _) _ _ _ rfl b o c n k l id ck w wr f x hlt hn g0 g1 g2 g3 g4 g5 g6 g7 g8 g9 g10 g11 hxs hB0.out Hbel.out hRL hsm HF2 h4 hi _ _ _ _ _ _ _ _ _ _ _ _ _ _ _ _ _ _ _ _ _ _ _ _ _ _ _ _ _ _ _ _ _ _ _ _ _ _ _ _ _ _ _ _ _ _ _ _ _ _ _ _ _ _ _ _ _ _ _ _ _ _ _ _ _ _ _ _ _ _ _ _ _ _ _ _ _ _ _ _ _ _ _ _ _ _ _ _ _ _ _ _ _ _ _ _ _ _ _ _ _ _ _ _ _ _ _ _ _ _ _ _ _ _ _ _ _ _ _ _ _ _ _ _ _ _ _ _ _ _ _ _ _ _ _ _ _ _ _ _ _ _ _ _ _ _ _ _ _ _ _ _ _ _ _ _ (fun _ _ h => h)
            · by_cases h5 : x.k = 5
              · exact refOf_k5 (R' := _) _ _ _ rfl b o c n k l id ck w wr f x hlt hn g0 g1 g2 g3 g4 g5 g6 g7 g8 g9 g10 g11 hxs hB0.out Hbel.out hRL hsm HF2 h5 hi _ _ _ _ _ _ _ _ _ _ _ _ _ _ _ _ _ _ _ _ _ _ _ _ _ _ _ _ _ _ _ _ _ _ _ _ _ _ _ _ _ _ _ _ _ _ _ _ _ _ _ _ _ _ _ _ _ _ _ _ _ _ _ _ _ _ _ _ _ _ _ _ _ _ _ _ _ _ _ _ _ _ _ _ _ _ _ _ _ _ _ _ _ _ _ _ _ _ _ _ _ _ _ _ _ _ _ _ _ _ _ _ _ _ _ _ _ _ _ _ _ _ _ _ _ _ _ _ _ _ _ _ _ _ _ _ _ _ _ _ _ _ _ _ _ _ _ _ _ _ _ _ _ _ _ _ (fun _ _ h => h)
              · by_cases h6 : x.k = 6
                · exact refOf_k6 (R' := _) _ _ _ rfl b o c n k l id ck w wr f x hlt hn g0 g1 g2 g3 g4 g5 g6 g7 g8 g9 g10 g11 hxs hB0.out Hbel.out hRL hsm HF2 h6 hi _ _ _ _ _ _ _ _ _ _ _ _ _ _ _ _ _ _ _ _ _ _ _ _ _ _ _ _ _ _ _ _ _ _ _ _ _ _ _ _ _ _ _ _ _ _ _ _ _ _ _ _ _ _ _ _ _ _ _ _ _ _ _ _ _ _ _ _ _ _ _ _ _ _ _ _ _ _ _ _ _ _ _ _ _ _ _ _ _ _ _ _ _ _ _ _ _ _ _ _ _ _ _ _ _ _ _ _ _ _ _ _ _ _ _ _ _ _ _ _ _ _ _ _ _ _ _ _ _ _ _ _ _ _ _ _ _ _ _ _ _ _ _ _ _ _ _ _ _ _ _ _ _ _ _ _ (fun _ _ h => h)
                · by_cases h8 : x.k = 8
                  · exact refOf_k8 (R' := _) _ _ _ rfl b o c n k l id ck w wr f x hlt hn g0 g1 g2 g3 g4 g5 g6 g7 g8 g9 g10 g11 hxs hB0.out Hbel.out hRL hsm HF2 h8 hi _ _ _ _ _ _ _ _ _ _ _ _ _ _ _ _ _ _ _ _ _ _ _ _ _ _ _ _ _ _ _ _ _ _ _ _ _ _ _ _ _ _ _ _ _ _ _ _ _ _ _ _ _ _ _ _ _ _ _ _ _ _ _ _ _ _ _ _ _ _ _ _ _ _ _ _ _ _ _ _ _ _ _ _ _ _ _ _ _ _ _ _ _ _ _ _ _ _ _ _ _ _ _ _ _ _ _ _ _ _ _ _ _ _ _ _ _ _ _ _ _ _ _ _ _ _ _ _ _ _ _ _ _ _ _ _ _ _ _ _ _ _ _ _ _ _ _ _ _ _ _ _ _ _ _ _ (fun _ _ h => h)
                  · exact refOf_nn (R' := _) _ _ _ rfl b o c n k l id ck w wr f x hlt hn g0 g1 g2 g3 g4 g5 g6 g7 g8 g9 g10 g11 hxs hB0.out Hbel.out hRL hsm HF2 h7 hi h4 h5 h6 h8 _ _ _ _ _ _ _ _ _ _ _ _ _ _ _ _ _ _ _ _ _ _ _ _ _ _ _ _ _ _ _ _ _ _ _ _ _ _ _ _ _ _ _ _ _ _ _ _ _ _ _ _ _ _ _ _ _ _ _ _ _ _ _ _ _ _ _ _ _ _ _ _ _ _ _ _ _ _ _ _ _ _ _ _ _ _ _ _ _ _ _ _ _ _ _ _ _ _ _ _ _ _ _ _ _ _ _ _ _ _ _ _ _ _ _ _ _ _ _ _ _ _ _ _ _ _ _ _ _ _ _ _ _ _ _ _ _ _ _ _ _ _ _ _ _ _ _ _ _ _ _ _ _ _ _ _ (fun _ _ h => h)
          · exact refOf_ni (R' := _) _ _ _ rfl b o c n k l id ck w wr f x hlt hn g0 g1 g2 g3 g4 g5 g6 g7 g8 g9 g10 g11 hxs hB0.out Hbel.out hRL hsm HF2 h7 hi _ _ _ _ _ _ _ _ _ _ _ _ _ _ _ _ _ _ _ _ _ _ _ _ _ _ _ _ _ _ _ _ _ _ _ _ _ _ _ _ _ _ _ _ _ _ _ _ _ _ _ _ _ _ _ _ _ _ _ _ _ _ _ _ _ _ _ _ _ _ _ _ _ _ _ _ _ _ _ _ _ _ _ _ _ _ _ _ _ _ _ _ _ _ _ _ _ _ _ _ _ _ _ _ _ _ _ _ _ _ _ _ _ _ _ _ _ _ _ _ _ _ _ _ _ _ _ _ _ _ _ _ _ _ _ _ _ _ _ _ _ _ _ _ _ _ _ _ _ _ _ _ _ _ _ _ (fun _ _ h => h)
    · have hke : k = n := by omega
      subst hke
      have hd : decide ((k : Int) < k) = false := by simp
      have hd2 : decide (k < k) = false := by simp
      have ht : l.take k = l := List.take_of_length_le (by rw [← Hn.out]; omega)
      have hst' := hst.out
      have Hbel := hide hst'.1
      have hB0 := hide hst'.2.1
      have hst2 := hst'.2.2
      rw [ht] at hst2
      clear hst hst' hlt
      cases ho : lifeGo id 0 l with
      | none =>
        rw [ho] at hst2
        obtain ⟨rfl, rfl, hB1⟩ := hst2
        obtain ⟨⟨z0, z1, z2, z3, z4, z5, z6, z7, z8, z9⟩, -⟩ := hB1.ten
        obtain ⟨⟨y0, y1, y2, y3, y4, y5, y6, y7, y8, y9⟩, h0, h1, h2, h3, h4, h5, h6, h7, h8, h9⟩ := hB0.out.ten
        have hne : ¬ w.heap.size = w.heap.size + 1 := by omega
        have hne2 : ¬ w.heap.size + 1 = w.heap.size := by omega
        have HO := hide ho
        clear ho hB1 ht
        go_wp2_with fail
        obtain ⟨wz, hz⟩ : ∃ wz, wz = ((((((((((wr.setCell ⟨w.heap.size, 0, none⟩ (.int .i64 0)).setCell ⟨w.heap.size, 1, none⟩ (.int .i64 0)).setCell ⟨w.heap.size, 2, none⟩ (.int .i64 0)).setCell ⟨w.heap.size, 3, none⟩ (.slice none 0 0)).setCell ⟨w.heap.size, 4, none⟩ (.slice none 0 0)).setCell ⟨w.heap.size, 5, none⟩ (.slice none 0 0)).setCell ⟨w.heap.size, 6, none⟩ (.string ⟨#[]⟩)).setCell ⟨w.heap.size, 7, none⟩ (.string ⟨#[]⟩)).setCell ⟨w.heap.size, 8, none⟩ (.bool false)).setCell ⟨w.heap.size, 9, none⟩ (.int .i64 0)) := ⟨_, rfl⟩
        have tB : Blk wz w.heap.size 56 #[.int .i64 0, .int .i64 0, .int .i64 0, .slice none 0 0, .slice none 0 0, .slice none 0 0, .string ⟨#[]⟩, .string ⟨#[]⟩, .bool false, .int .i64 0] := by rw [hz]; exact hB0.out.put10 (.int .i64 0) (.int .i64 0) (.int .i64 0) (.slice none 0 0) (.slice none 0 0) (.slice none 0 0) (.string ⟨#[]⟩) (.string ⟨#[]⟩) (.bool false) (.int .i64 0)
        have lB := hide (show Below w.heap.size w wz from by rw [hz]; exact below_put10 Hbel.out (Nat.le_refl _) (.int .i64 0) (.int .i64 0) (.int .i64 0) (.slice none 0 0) (.slice none 0 0) (.slice none 0 0) (.string ⟨#[]⟩) (.string ⟨#[]⟩) (.bool false) (.int .i64 0))
        rw [← hz]
        clear hz z0 z1 z2 z3 z4 z5 z6 z7 z8 z9 y0 y1 y2 y3 y4 y5 y6 y7 y8 y9 h0 h1 h2 h3 h4 h5 h6 h7 h8 h9
        obtain ⟨⟨z0, z1, z2, z3, z4, z5, z6, z7, z8, z9⟩, -⟩ := tB.ten
        clear tB
        refine bodyPost_ret (v := .tuple #[.agg #[.int .i64 0, .int .i64 0, .int .i64 0, .slice none 0 0, .slice none 0 0, .slice none 0 0, .string ⟨#[]⟩, .string ⟨#[]⟩, .bool false, .int .i64 0], .bool false]) (by simp [results, Tryd.results24, go_sem, z0, z1, z2, z3, z4, z5, z6, z7, z8, z9]) rfl ?_
        refine ⟨lB.out, ?_⟩
        rw [HO.out]
      | some f =>
        rw [ho] at hst2
        obtain ⟨rfl, hRL, hsm, ck, rfl⟩ := hst2
        obtain ⟨vi, vw, vs, xw, hm⟩ := hRL.ex
        obtain ⟨A1, c1, rfl, hc1⟩ := own_cap hm.oi
        obtain ⟨A2, c2, rfl, hc2⟩ := own_cap hm.ow
        obtain ⟨A3, c3, rfl, hc3⟩ := own_cap hm.os
        have hB1 := hm.blk
        have rI := hide (Rd.of_own (M := fun k => k = w.heap.size) hm.oi (fun k hk => by omega))
        have rS := hide (Rd.of_own (M := fun k => k = w.heap.size) hm.os (fun k hk => by omega))
        clear hm hRL hsm
        obtain ⟨⟨z0, z1, z2, z3, z4, z5, z6, z7, z8, z9⟩, -⟩ := hB1.ten
        obtain ⟨⟨y0, y1, y2, y3, y4, y5, y6, y7, y8, y9⟩, h0, h1, h2, h3, h4, h5, h6, h7, h8, h9⟩ := hB0.out.ten
        have hne : ¬ w.heap.size = w.heap.size + 1 := by omega
        have hne2 : ¬ w.heap.size + 1 = w.heap.size := by omega
        have HO := hide ho
        clear ho hB1 ht
        go_wp2_with fail
        obtain ⟨wz, hz⟩ : ∃ wz, wz = ((((((((((wr.setCell ⟨w.heap.size, 0, none⟩ (.int .i64 id)).setCell ⟨w.heap.size, 1, none⟩ (.int .i64 f.script)).setCell ⟨w.heap.size, 2, none⟩ (.int .i64 f.start)).setCell ⟨w.heap.size, 3, none⟩ (.slice A1 f.ins.length c1)).setCell ⟨w.heap.size, 4, none⟩ (.slice A2 f.ins.length c2)).setCell ⟨w.heap.size, 5, none⟩ (.slice A3 f.steps.length c3)).setCell ⟨w.heap.size, 6, none⟩ (.string f.read)).setCell ⟨w.heap.size, 7, none⟩ (.string f.taken)).setCell ⟨w.heap.size, 8, none⟩ (.bool f.eof)).setCell ⟨w.heap.size, 9, none⟩ (.int .i64 f.status)) := ⟨_, rfl⟩
        have tB : Blk wz w.heap.size 56 #[.int .i64 id, .int .i64 f.script, .int .i64 f.start, .slice A1 f.ins.length c1, .slice A2 f.ins.length c2, .slice A3 f.steps.length c3, .string f.read, .string f.taken, .bool f.eof, .int .i64 f.status] := by rw [hz]; exact hB0.out.put10 (.int .i64 id) (.int .i64 f.script) (.int .i64 f.start) (.slice A1 f.ins.length c1) (.slice A2 f.ins.length c2) (.slice A3 f.steps.length c3) (.string f.read) (.string f.taken) (.bool f.eof) (.int .i64 f.status)
        have lB := hide (show Below w.heap.size w wz from by rw [hz]; exact below_put10 Hbel.out (Nat.le_refl _) (.int .i64 id) (.int .i64 f.script) (.int .i64 f.start) (.slice A1 f.ins.length c1) (.slice A2 f.ins.length c2) (.slice A3 f.steps.length c3) (.string f.read) (.string f.taken) (.bool f.eof) (.int .i64 f.status))
        have qI := hide (show Rd wz NoBlk A1 (flat encInp f.ins) from by rw [hz]; exact (rI.out.put10 (g := w.heap.size) rfl (.int .i64 id) (.int .i64 f.script) (.int .i64 f.start) (.slice A1 f.ins.length c1) (.slice A2 f.ins.length c2) (.slice A3 f.steps.length c3) (.string f.read) (.string f.taken) (.bool f.eof) (.int .i64 f.status)).mono (fun _ h => h.elim))
        have qS := hide (show Rd wz NoBlk A3 (flat encStp f.steps) from by rw [hz]; exact (rS.out.put10 (g := w.heap.size) rfl (.int .i64 id) (.int .i64 f.script) (.int .i64 f.start) (.slice A1 f.ins.length c1) (.slice A2 f.ins.length c2) (.slice A3 f.steps.length c3) (.string f.read) (.string f.taken) (.bool f.eof) (.int .i64 f.status)).mono (fun _ h => h.elim))
        rw [← hz]
        clear hz z0 z1 z2 z3 z4 z5 z6 z7 z8 z9 y0 y1 y2 y3 y4 y5 y6 y7 y8 y9 h0 h1 h2 h3 h4 h5 h6 h7 h8 h9
        obtain ⟨⟨z0, z1, z2, z3, z4, z5, z6, z7, z8, z9⟩, -⟩ := tB.ten
        clear tB
        refine bodyPost_ret (v := .tuple #[.agg #[.int .i64 id, .int .i64 f.script, .int .i64 f.start, .slice A1 f.ins.length c1, .slice A2 f.ins.length c2, .slice A3 f.steps.length c3, .string f.read, .string f.taken, .bool f.eof, .int .i64 f.status], .bool true]) (by simp [results, Tryd.results24, go_sem, z0, z1, z2, z3, z4, z5, z6, z7, z8, z9]) rfl ?_
        refine ⟨lB.out, ?_⟩
        rw [HO.out]
        exact ⟨A1, c1, A3, c3, A2, _, c2, rfl, qI.out, qS.out⟩
end Go.Proofs.YthnjebpbokmemaaDoor
