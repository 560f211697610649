/- All waits of a life. Conditions: those of each theorem. -/
import Derived.Test.YtdmdohjdmnmabaaGreatQw35
import Derived.Test.YtdmdohjdmnmabaaGreatQw18
import Derived.Test.YtdmdohjdmnmabaaGreatQw22
import Derived.Test.YtdmdohjdmnmabaaGreatQw03
import Derived.Deep.RegionHeld3
namespace Go.Proofs.YtdmdohjdmnmabaaGreat
open Go.RowKit
set_option linter.unusedVariables false
set_option linter.unusedSimpArgs false
theorem Tryz.infoWt : (Tryz.prog.info? 84).map (fun i => (i.zero, i.size, i.bytes)) = some (some (.agg #[.int .i64 0, .int .i64 0, .int .i64 0, .int .i64 0, .bool false, .int .i64 0, .int .i64 0]), 7, 56) := by kernel_rfl
theorem own_far {S : Nat → Prop} {w w' : World} {base size n : Nat} {e : TypeId} {v : Value} {xs : List Value} (h : w.ownsRow base e size v n xs) (k : Only S w w') (hS : ∀ b, base ≤ b → ¬ S b) : w'.ownsRow base e size v n xs := by
 obtain ⟨hl, h2⟩ := h
 refine ⟨hl, ?_⟩
 rcases h2 with ⟨hv, hn⟩ | ⟨g, cap, cur, hv, hb, hh, r⟩
 ·exact Or.inl ⟨hv, hn⟩
 ·refine Or.inr ⟨g, cap, cur, hv, hb, ?_, r⟩
  have hlt : g < w.heap.size := Blk.lt (t := e) (cs := cur) hh
  rw [k.block g hlt (fun hs => hS g hb hs)]
  exact hh
/-- the wait at hand, what was told -/
structure LwAt (w : World) (g : Nat) (va : Value) (f : WkM) : Prop where
 blk : Blk w g 84 (encWt f.w).toArray
 own : w.ownsRow (g + 1) 84 7 va f.out.length (flat encWt f.out)
section
variable {w w' : World} {g : Nat} {va : Value} {f : WkM}
theorem LwAt.same (h : LwAt w g va f) (q : Only NoBlk w w') : LwAt w' g va f := ⟨h.blk.only q (fun h => h), own_only h.own q (fun _ _ h => h.elim)⟩
theorem LwAt.alloc (h : LwAt w g va f) (o : Obj) : LwAt (w.alloc o) g va f := h.same ((Only.refl _ w).alloc o)
theorem LwAt.drew (h : LwAt w g va f) : LwAt w.drew g va f := h.same (Only.refl _ w).drew
theorem LwAt.put (h : LwAt w g va f) (vs : List Value) (x : WtM) (on : Bool) (e : vs = encWt x) : LwAt (putFrom w g 0 vs) g va ⟨f.out, x, on⟩ := by
 subst e
 exact ⟨h.blk.put (encWt x) rfl, own_far h.own (only_put _ 0 w g) (fun b hb hs => by have : b = g := hs; omega)⟩
theorem LwAt.set3 {a b c : Value} (h : LwAt w g va f) (x : WtM) (on : Bool) (e : ((((encWt f.w).toArray.setIfInBounds 4 a).setIfInBounds 5 b).setIfInBounds 6 c) = (encWt x).toArray) : LwAt (((w.setCell ⟨g, 4, none⟩ a).setCell ⟨g, 5, none⟩ b).setCell ⟨g, 6, none⟩ c) g va ⟨f.out, x, on⟩ := by
 refine ⟨?_, own_far h.own ((((Only.refl (· = g) w).setCell (Or.inl rfl) a).setCell (Or.inl rfl) b).setCell (Or.inl rfl) c) (fun b hb hs => by have : b = g := hs; omega)⟩
 have := ((h.blk.set_ 4 a).set_ 5 b).set_ 6 c
 rw [e] at this
 exact this
theorem LwAt.grow {v' : Value} {m : Nat} {x : WtM} (h : LwAt w g va f) (hg : w.grownBy w' va.ownBlock) (ho : w'.ownsRow (g + 1) 84 7 v' m (flat encWt f.out ++ encWt x)) (hm : m = f.out.length + 1) : LwAt w' g v' ⟨f.out ++ [x], f.w, f.on⟩ := by
 refine ⟨(hg.block g h.blk.lt (fun e => by have := own_ge h.own g e.symm; omega)).trans h.blk, ?_⟩
 subst hm
 have e : flat encWt (f.out ++ [x]) = flat encWt f.out ++ encWt x := by simp [flat]
 simpa [e] using ho
end
theorem wk_succ (P : ProgM) (id : Int) (f0 : WkM) (S : List Stp) (q : Nat) (x : Stp) (hx : S[q]? = some x) : (S.take (q + 1)).foldl (wkStep P id) f0 = wkStep P id ((S.take q).foldl (wkStep P id) f0) x := by
 have e : S.take (q + 1) = S.take q ++ [x] := by rw [List.take_add_one, hx]; rfl
 rw [e, List.foldl_append]
 rfl
set_option maxRecDepth 100000 in
set_option maxHeartbeats 25600000 in
theorem life_c (s : ByteArray) (d j : Int) (PA : Option Addr) (pc : Nat) (L : List OpV) (id sn start : Int) (IA : Option Addr) (ni ic : Nat) (SA : Option Addr) (S : List Stp) (sc : Nat) (rd tk : ByteArray) (eof : Bool) (status : Int) (w : World)
 (hr : OpsRd w NoBlk PA L) (hn : L.length ≤ maxLen) (hsz : ∀ v ∈ L, OpSz v) (hnn : ∀ v ∈ L, v.o.n ≤ 9223372036854775807) (hst : start ≤ 9223372036854775807) (hrs : Rd w NoBlk SA (flat encStp S)) (hS : S.length ≤ 10000) (hxt : ∀ x ∈ S, x.tick ≤ 9223372036854775807) :
 Calls Tryz.prog 90 #[.agg #[.string s, .int .i64 d, .int .i64 j, .slice PA L.length pc], .agg #[.int .i64 id, .int .i64 sn, .int .i64 start, .slice IA ni ic, .slice SA S.length sc, .string rd, .string tk, .bool eof, .int .i64 status]] w fun e w' =>
  (∃ A c, e = .returned (.slice A (lifeW (progM s d j L) id start S).length c) ∧ Rd w' NoBlk A (flat encWt (lifeW (progM s d j L) id start S))) ∧ Below w.heap.size w w' := by
 obtain ⟨iw, hiw, hwz0, hwz1, hwz2⟩ := info_parts Tryz.infoWt
 obtain ⟨W, hW⟩ : ∃ W, W = (w.alloc (.cells #[.string s, .int .i64 d, .int .i64 j, .slice PA L.length pc] 24)).alloc (.cells #[.int .i64 id, .int .i64 sn, .int .i64 start, .slice IA ni ic, .slice SA S.length sc, .string rd, .string tk, .bool eof, .int .i64 status] 118) := ⟨_, rfl⟩
 have HBw := hide (show Below w.heap.size w W by rw [hW]; exact (below_alloc _ _).alloc (by simp) _)
 have HPb := hide (show Blk W w.heap.size 24 #[.string s, .int .i64 d, .int .i64 j, .slice PA L.length pc] by rw [hW]; exact (Blk.new w 24 _).alloc _)
 have HLb := hide (show Blk W (w.heap.size + 1) 118 #[.int .i64 id, .int .i64 sn, .int .i64 start, .slice IA ni ic, .slice SA S.length sc, .string rd, .string tk, .bool eof, .int .i64 status] by rw [hW]; exact Blk.new' (by simp))
 have hrW : OpsRd W NoBlk PA L := hr.only (Only.of_below HBw.out NoBlk) (fun _ h => h.elim)
 have hsW := hrs.below HBw.out
 have HBg := hide (fun (op now : Int) (w' : World) (hb : Below W.heap.size W w') (hnow : now ≤ 9223372036854775807) => show Calls Tryz.prog 114 #[.agg #[.string s, .int .i64 d, .int .i64 j, .slice PA L.length pc], .int .i64 id, .int .i64 op, .int .i64 now] w' fun e w2 => e = .returned (.tuple #[.agg #[.int .i64 (beginW (progM s d j L) id op now).id, .int .i64 (beginW (progM s d j L) id op now).op, .int .i64 (beginW (progM s d j L) id op now).from_, .int .i64 (beginW (progM s d j L) id op now).until_, .bool (beginW (progM s d j L) id op now).done, .int .i64 (beginW (progM s d j L) id op now).at_, .int .i64 (beginW (progM s d j L) id op now).what], .bool (beginB (progM s d j L) op)]) ∧ Below w'.heap.size w' w2 from
  begin_c s d j PA pc L id op now w' (hrW.only (Only.of_below hb NoBlk) (fun _ h => h.elim)) hn hnn hnow)
 have HNx := hide (fun (x : Stp) (w' : World) (hb : Below W.heap.size W w') => show Calls Tryz.prog 41 #[.agg #[.string s, .int .i64 d, .int .i64 j, .slice PA L.length pc], .agg #[.int .i64 x.tick, .int .i64 x.at_, .int .i64 x.what, .int .i64 x.arm, .int .i64 x.n, .int .i64 x.status]] w' fun e w2 => e = .returned (.int .i64 (nextM (progM s d j L) x)) ∧ Below w'.heap.size w' w2 from
  next_c s d j PA pc L x.tick x.at_ x.what x.arm x.n x.status w' (hrW.only (Only.of_below hb NoBlk) (fun _ h => h.elim)) hn hsz)
 have HSt := hide (fun (w' : World) (hb : Below W.heap.size W w') (q : Nat) (hq : q < S.length) => stp_cells (hsW.below hb) q hq)
 have HXt := hide hxt
 have HSt0 := hide hst
 obtain ⟨P, hP⟩ : ∃ P, P = progM s d j L := ⟨_, rfl⟩
 rw [← hP] at HBg HNx ⊢
 obtain ⟨pn, hpn⟩ : ∃ pn, pn = L.length := ⟨_, rfl⟩
 rw [← hpn] at HPb HBg HNx hW ⊢
 obtain ⟨n, hSn⟩ : ∃ n, n = S.length := ⟨_, rfl⟩
 rw [← hSn] at HLb HSt hS hW ⊢
 have HSn := hide hSn
 have HW := hide hW
 have HTot := hide (fun (f : WkM) (hf : (S.take n).foldl (wkStep P id) (wk0 P id start) = f) => show lifeW P id start S = wkEnd f by unfold lifeW; rw [hSn, List.take_length] at hf; rw [hf])
 clear hr hn hsz hnn hst hrs hxt hrW hsW hP hpn hSn hW
 go_enter Tryz.func90, Tryz.ntmps90
 go_upto_region 1 with fail
 change Code.wp _ _ _ _ ((w.alloc (.cells #[.string s, .int .i64 d, .int .i64 j, .slice PA pn pc] 24)).alloc (.cells #[.int .i64 id, .int .i64 sn, .int .i64 start, .slice IA ni ic, .slice SA n sc, .string rd, .string tk, .bool eof, .int .i64 status] 118))
 rw [← HW.out]
 obtain ⟨⟨g0, g1, g2, g3⟩, _⟩ := HPb.out.four
 obtain ⟨⟨l0, l1, l2, l3, l4, l5, l6, l7, l8⟩, _⟩ := HLb.out.nine
 go_wp2_with fail
 refine (HBg.out 0 start W (Below.refl _ _) HSt0.out).mono ?_
 rintro e w1 ⟨rfl, hb1⟩
 have HB1 := hide hb1
 obtain ⟨w0, hw0⟩ : ∃ w0, w0 = beginW P id 0 start := ⟨_, rfl⟩
 obtain ⟨b0, hb0⟩ : ∃ b0, b0 = beginB P 0 := ⟨_, rfl⟩
 have HF0 := hide (show wk0 P id start = ⟨[], w0, b0⟩ from by unfold wk0; rw [← hw0, ← hb0])
 rw [← hw0, ← hb0]
 clear hb1 hw0 hb0 g0 g1 g2 g3 l0 l1 l2 l3 l4 l5 l6 l7 l8
 go_upto_region 3 with fail
 obtain ⟨W1, hW1⟩ : ∃ W1, W1 = w1.alloc (.cells #[.int .i64 w0.id, .int .i64 w0.op, .int .i64 w0.from_, .int .i64 w0.until_, .bool w0.done, .int .i64 w0.at_, .int .i64 w0.what] 84) := ⟨_, rfl⟩
 have HB2 := hide (show Below W.heap.size W W1 by rw [hW1]; exact HB1.out.alloc HB1.out.size _)
 have HL0 := hide (show LwAt W1 w1.heap.size (.slice none 0 0) ⟨[], w0, b0⟩ by rw [hW1]; exact ⟨Blk.new _ _ _, own_nil (by simp)⟩)
 have hgW : W.heap.size ≤ w1.heap.size := HB1.out.size
 rw [← hW1]
 obtain ⟨g, hg⟩ : ∃ g, g = w1.heap.size := ⟨_, rfl⟩
 rw [← hg] at HL0 hgW ⊢
 clear hW1 HB1 hg
 obtain ⟨⟨l0, l1, l2, l3, l4, l5, l6, l7, l8⟩, _⟩ := (HLb.out.below HB2.out).nine
 go_wp2_with fail
 go_loopw [5, 7, 22] (fun v on i wr => ∃ (q : Nat) (f : WkM), q ≤ n ∧ f.out.length ≤ q ∧ i = .int .i64 q ∧ on = .bool f.on ∧ Hid ((S.take q).foldl (wkStep P id) (wk0 P id start) = f) ∧ Hid (LwAt wr g v f) ∧ Hid (Below W.heap.size W wr)) (fun _ _ i _ => n - (intOf i).toNat)
 case atStart => exact ⟨0, ⟨[], w0, b0⟩, Nat.zero_le _, Nat.le_refl _, rfl, rfl, hide (by rw [HF0.out]; rfl), HL0, HB2⟩
 case round =>
  clear HL0 HB2 l0 l1 l2 l3 l4 l5 l6 l7 l8
  obtain ⟨q, ⟨fo, fw, fon⟩, hqn, hfo, rfl, rfl, HF, HLw, HB⟩ := hrel
  simp only at hfo
  obtain ⟨VA, vc, rfl, hvc⟩ := own_cap HLw.out.own
  by_cases hlt : q < n
  case neg =>
   obtain rfl : q = n := by omega
   have e1 : decide ((q : Int) < (q : Int)) = false := by simp
   have e2 : decide (q < q) = false := by simp
   have HT := hide (HTot.out _ HF.out)
   have HBf := hide (HBw.out.trans (HB.out.mono HBw.out.size))
   obtain ⟨m, hm⟩ : ∃ m, m = fo.length := ⟨_, rfl⟩
   have hown := HLw.out.own
   simp only at hown hfo hvc
   rw [← hm] at hown hfo ⊢
   have Hm := hide hm
   have HOwn := hide hown
   have hgb : g + 1 ≤ wr.heap.size := by have := HLw.out.blk.lt; omega
   clear hm hown hlt
   cases fon with
   | false =>
    go_wp2_with fail
    go_ret
    refine ⟨⟨VA, ⟨vc, by rw [HT.out]; show _ = Ending.returned (.slice VA fo.length vc); rw [← Hm.out]; rfl⟩, ?_⟩, HBf.out⟩
    rw [HT.out]
    exact Rd.of_own (M := NoBlk) HOwn.out (fun _ h => h.elim)
   | true =>
    have HBk := hide HLw.out.blk
    obtain ⟨c0, c1, c2, c3, c4, c5, c6⟩ := (show Blk wr g 84 #[.int .i64 fw.id, .int .i64 fw.op, .int .i64 fw.from_, .int .i64 fw.until_, .bool fw.done, .int .i64 fw.at_, .int .i64 fw.what] from HBk.out).seven
    have HNew := hide (rd_blkN (M := NoBlk) (Blk.new wr 84 (encWt fw).toArray) (fun h => h))
    have hwr : W.heap.size ≤ wr.heap.size := HB.out.size
    have hwW : w.heap.size ≤ W.heap.size := HBw.out.size
    go_wp2_with (at_builtin; refine wpList_append_rd _ rfl (.tmp 60) (.tmp 62) _ rfl (g + 1) 84 iw _ 7 56 Tryz.underlying54 hiw hwz0 hwz1 hwz2 rfl (by omega) _ m _ rfl (HOwn.out.alloc _) NoBlk (some ⟨wr.heap.size, 0, none⟩) 1 1 (encWt fw) rfl HNew.out rfl (encWt_one _) (by simp only [maxLen]; omega) (by omega) (by simp; omega) ?_; intro v2 w9 hown2 hgr _; have Own2 := hide hown2; have Gr := hide hgr; clear hown2 hgr)
    go_ret
    obtain ⟨A2, c2', rfl, _⟩ := own_cap Own2.out
    have hT : lifeW P id start S = fo ++ [fw] := HT.out
    have hlen : (lifeW P id start S).length = m + 1 := by rw [hT, List.length_append, ← Hm.out]; rfl
    refine ⟨⟨A2, ⟨c2', by rw [hlen]; rfl⟩, ?_⟩, below_grown (HBf.out.alloc HBf.out.size _) (HOwn.out.alloc _) (by simp; omega) (by omega) Gr.out⟩
    have := Rd.of_own (M := NoBlk) Own2.out (fun _ h => h.elim)
    have e : flat encWt (lifeW P id start S) = flat encWt fo ++ encWt fw := by rw [hT]; simp [flat]
    rw [e]
    exact this
  case pos =>
   obtain ⟨sb, so, x, rfl, _, hsb, y0, y1, y2, y3, y4, y5, hxq⟩ := HSt.out wr HB.out q hlt
   have HSu := hide (wk_succ P id (wk0 P id start) S q x hxq)
   have HXq := hide (HXt.out x (List.mem_of_getElem? hxq))
   rw [HF.out] at HSu
   have HNxq := hide (HNx.out x)
   have e1 : decide ((q : Int) < (n : Int)) = true := by simp; exact hlt
   have e2 : decide (q < n) = true := by simp; exact hlt
   have j1 : (0 : Int) ≤ (q : Int) := by omega
   have j2 : (q : Int) < (n : Int) := by omega
   have w1' : IntKind.i64.wrap ((q : Int) + 1) = (q : Int) + 1 := IntWalk.i64_in _ (by omega)
   obtain ⟨xt, xa, xw, xr, xn, xs⟩ := x
   simp only at y0 y1 y2 y3 y4 y5 HXq
   clear hxq
   go_upto_region 6 with fail
   obtain ⟨W6, hW6⟩ : ∃ W6, W6 = wr.alloc (.cells #[.int .i64 xt, .int .i64 xa, .int .i64 xw, .int .i64 xr, .int .i64 xn, .int .i64 xs] 26) := ⟨_, rfl⟩
   have HB6 := hide (show Below W.heap.size W W6 by rw [hW6]; exact HB.out.alloc HB.out.size _)
   have HL6 := hide (show LwAt W6 g (.slice VA fo.length vc) ⟨fo, fw, fon⟩ by rw [hW6]; exact HLw.out.alloc _)
   have HX6 := hide (show Blk W6 wr.heap.size 26 #[.int .i64 xt, .int .i64 xa, .int .i64 xw, .int .i64 xr, .int .i64 xn, .int .i64 xs] by rw [hW6]; exact Blk.new _ _ _)
   rw [← hW6]
   have hwr : W.heap.size ≤ wr.heap.size := HB.out.size
   have hgx : g < wr.heap.size := HLw.out.blk.lt
   obtain ⟨xg, hxg⟩ : ∃ xg, xg = wr.heap.size := ⟨_, rfl⟩
   rw [← hxg] at HX6 hwr hgx ⊢
   obtain ⟨m, hm⟩ : ∃ m, m = fo.length := ⟨_, rfl⟩
   simp only at hvc
   rw [← hm] at hfo HL6 ⊢
   have Hm := hide hm
   clear hW6 hxg hm HLw HB y0 y1 y2 y3 y4 y5
   obtain ⟨x0, x1, x2, x3, x4, x5⟩ := HX6.out.six
   by_cases hl1 : xw = 1
   ·have q1 : (xw == 1) = true := by simp [hl1]
    have HFn := hide (show (S.take (q + 1)).foldl (wkStep P id) (wk0 P id start) = ⟨fo, fw, fon⟩ by rw [HSu.out]; unfold wkStep isLook; simp [hl1])
    clear hl1
    go_wp2_with fail
    go_roundw
    case rel => exact ⟨q + 1, ⟨fo, fw, fon⟩, by omega, by show fo.length ≤ q + 1; rw [← Hm.out]; omega, by go_num, rfl, HFn, HL6, HB6⟩
    case measure => simp [intOf]; omega
   ·have q1 : (xw == 1) = false := by simp [hl1]
    by_cases hl5 : xw = 5
    ·have q5 : (xw == 5) = true := by simp [hl5]
     have HFn := hide (show (S.take (q + 1)).foldl (wkStep P id) (wk0 P id start) = ⟨fo, fw, fon⟩ by rw [HSu.out]; unfold wkStep isLook; simp [hl5])
     clear hl1 hl5
     go_wp2_with fail
     go_roundw
     case rel => exact ⟨q + 1, ⟨fo, fw, fon⟩, by omega, by show fo.length ≤ q + 1; rw [← Hm.out]; omega, by go_num, rfl, HFn, HL6, HB6⟩
     case measure => simp [intOf]; omega
    ·have q5 : (xw == 5) = false := by simp [hl5]
     have HFs := hide (show (S.take (q + 1)).foldl (wkStep P id) (wk0 P id start) = ⟨if fon = true then fo ++ [closeW fw ⟨xt, xa, xw, xr, xn, xs⟩] else fo, beginW P id (nextM P ⟨xt, xa, xw, xr, xn, xs⟩) xt, beginB P (nextM P ⟨xt, xa, xw, xr, xn, xs⟩)⟩ by
      rw [HSu.out]; unfold wkStep; rw [if_neg (by unfold isLook; simp [hl1, hl5])])
     clear hl1 hl5
     cases fon with
     | false =>
      have HFn := hide (show (S.take (q + 1)).foldl (wkStep P id) (wk0 P id start) = ⟨fo, beginW P id (nextM P ⟨xt, xa, xw, xr, xn, xs⟩) xt, beginB P (nextM P ⟨xt, xa, xw, xr, xn, xs⟩)⟩ from HFs.out)
      go_upto_region 10 with fail
      obtain ⟨V0, hV0⟩ : ∃ V9, V9 = W6.drew := ⟨_, rfl⟩
      have HB7 := hide (below_dr HB6.out)
      have HL7 := hide (HL6.out.drew)
      have HX7 := hide (HX6.out.only ((Only.refl NoBlk _).drew) (fun h => h))
      rw [← hV0] at HB7 HL7 HX7
      refine wp_region_held (S := fun w' => w'.cell? ⟨w.heap.size, 0, none⟩ = some (.string s) ∧ w'.cell? ⟨w.heap.size, 1, none⟩ = some (.int .i64 d) ∧ w'.cell? ⟨w.heap.size, 2, none⟩ = some (.int .i64 j) ∧ w'.cell? ⟨w.heap.size, 3, none⟩ = some (.slice PA pn pc) ∧ w'.cell? ⟨w.heap.size + 1, 0, none⟩ = some (.int .i64 id) ∧ w'.cell? ⟨xg, 0, none⟩ = some (.int .i64 xt) ∧ w'.cell? ⟨xg, 1, none⟩ = some (.int .i64 xa) ∧ w'.cell? ⟨xg, 2, none⟩ = some (.int .i64 xw) ∧ w'.cell? ⟨xg, 3, none⟩ = some (.int .i64 xr) ∧ w'.cell? ⟨xg, 4, none⟩ = some (.int .i64 xn) ∧ w'.cell? ⟨xg, 5, none⟩ = some (.int .i64 xs)) (by kernel_rfl) ?_
      change wpAnyH _ _ _ _ _ _ _ _ W6.drew
      have hHeld : (fun w' => w'.cell? ⟨w.heap.size, 0, none⟩ = some (.string s) ∧ w'.cell? ⟨w.heap.size, 1, none⟩ = some (.int .i64 d) ∧ w'.cell? ⟨w.heap.size, 2, none⟩ = some (.int .i64 j) ∧ w'.cell? ⟨w.heap.size, 3, none⟩ = some (.slice PA pn pc) ∧ w'.cell? ⟨w.heap.size + 1, 0, none⟩ = some (.int .i64 id) ∧ w'.cell? ⟨xg, 0, none⟩ = some (.int .i64 xt) ∧ w'.cell? ⟨xg, 1, none⟩ = some (.int .i64 xa) ∧ w'.cell? ⟨xg, 2, none⟩ = some (.int .i64 xw) ∧ w'.cell? ⟨xg, 3, none⟩ = some (.int .i64 xr) ∧ w'.cell? ⟨xg, 4, none⟩ = some (.int .i64 xn) ∧ w'.cell? ⟨xg, 5, none⟩ = some (.int .i64 xs)) W6.drew := by rw [← hV0]; exact (by obtain ⟨⟨q0, q1, q2, q3⟩, _⟩ := (HPb.out.below HB7.out).four; obtain ⟨⟨q4, _⟩, _⟩ := (HLb.out.below HB7.out).nine; obtain ⟨q5, q6, q7, q8, q9, qa⟩ := (HX7.out).six; exact ⟨q0, q1, q2, q3, q4, q5, q6, q7, q8, q9, qa⟩)
      rw [← hV0] at hHeld ⊢
      simp only [List.size_toArray, List.length_cons, List.length_nil, Nat.zero_add, Nat.reduceAdd]
      clear hV0
      refine wpAnyH_take (i := 0) (v := ?_) rfl (by kernel_rfl) (by kernel_rfl) (by kernel_rfl) (fun _ _ _ h => h) (Or.inl ⟨by rfl, ?_⟩) (by assumption) ?_
      rotate_left
      ·(intro w9 hS9; (try simp only [List.getElem_toArray, List.getElem_cons_zero, List.getElem_cons_succ]); go_simp <;> rfl)
      refine wpAnyH_take (i := 1) (v := ?_) rfl (by kernel_rfl) (by kernel_rfl) (by kernel_rfl) (fun _ _ _ h => h) (Or.inl ⟨by rfl, ?_⟩) (by assumption) ?_
      rotate_left
      ·(intro w9 hS9; (try simp only [List.getElem_toArray, List.getElem_cons_zero, List.getElem_cons_succ]); go_simp <;> rfl)
      refine wpAnyH_take (i := 2) (v := ?_) rfl (by kernel_rfl) (by kernel_rfl) (by kernel_rfl) (fun _ _ _ h => h) (Or.inl ⟨by rfl, ?_⟩) (by assumption) ?_
      rotate_left
      ·(intro w9 hS9; (try simp only [List.getElem_toArray, List.getElem_cons_zero, List.getElem_cons_succ]); go_simp <;> rfl)
      refine wpAnyH_take (i := 3) (v := ?_) rfl (by kernel_rfl) (by kernel_rfl) (by kernel_rfl) (fun _ _ _ h => h) (Or.inl ⟨by rfl, ?_⟩) (by assumption) ?_
      rotate_left
      ·(intro w9 hS9; (try simp only [List.getElem_toArray, List.getElem_cons_zero, List.getElem_cons_succ]); go_simp <;> rfl)
      refine wpAnyH_take (i := 4) (v := ?_) rfl (by kernel_rfl) (by kernel_rfl) (by kernel_rfl) (fun _ _ _ h => h) (Or.inl ⟨by rfl, ?_⟩) (by assumption) ?_
      rotate_left
      ·(intro w9 hS9; (try simp only [List.getElem_toArray, List.getElem_cons_zero, List.getElem_cons_succ]); go_simp <;> rfl)
      refine wpAnyH_take (i := 6) (v := ?_) rfl (by kernel_rfl) (by kernel_rfl) (by kernel_rfl) (fun _ _ _ h => h) (Or.inl ⟨by rfl, ?_⟩) (by assumption) ?_
      rotate_left
      ·(intro w9 hS9; (try simp only [List.getElem_toArray, List.getElem_cons_zero, List.getElem_cons_succ]); go_simp <;> rfl)
      refine wpAnyH_take (i := 7) (v := ?_) rfl (by kernel_rfl) (by kernel_rfl) (by kernel_rfl) (fun _ _ _ h => h) (Or.inl ⟨by rfl, ?_⟩) (by assumption) ?_
      rotate_left
      ·(intro w9 hS9; (try simp only [List.getElem_toArray, List.getElem_cons_zero, List.getElem_cons_succ]); go_simp <;> rfl)
      try simp only [Act.put, List.setIfInBounds_toArray, List.set_cons_zero, List.set_cons_succ, List.getElem_toArray, List.getElem_cons_zero, List.getElem_cons_succ]
      refine wpAnyH_ready (rs := [5]) (by kernel_rfl) (by simp) ?_
      refine AllReadyH.cons rfl (fun K hK => ?_) AllReadyH.nil
      try simp only [List.getElem_toArray, List.getElem_cons_zero, List.getElem_cons_succ]
      try go_simp
      go_at_call 41
      refine (HNxq.out _ HB7.out).mono ?_
      rintro e V1 ⟨rfl, hb8⟩
      have HB8 := hide (HB7.out.trans (hb8.mono HB7.out.size))
      have HL8 := hide (HL7.out.same (Only.of_below hb8 _))
      have HX8 := hide (HX7.out.below hb8)
      clear hb8
      obtain ⟨nx, hnx⟩ : ∃ nx, nx = nextM P ⟨xt, xa, xw, xr, xn, xs⟩ := ⟨_, rfl⟩
      rw [← hnx] at HFn ⊢
      clear hnx
      refine hK.out _ _ (by obtain ⟨⟨q0, q1, q2, q3⟩, _⟩ := (HPb.out.below HB8.out).four; obtain ⟨⟨q4, _⟩, _⟩ := (HLb.out.below HB8.out).nine; obtain ⟨q5, q6, q7, q8, q9, qa⟩ := (HX8.out).six; exact ⟨q0, q1, q2, q3, q4, q5, q6, q7, q8, q9, qa⟩) (fun hHeld => ?_)
      clear hK K
      try simp only [Act.put, List.setIfInBounds_toArray, List.set_cons_zero, List.set_cons_succ, List.getElem_toArray, List.getElem_cons_zero, List.getElem_cons_succ]
      refine wpAnyH_ready (rs := [8]) (by kernel_rfl) (by simp) ?_
      refine AllReadyH.cons rfl (fun K hK => ?_) AllReadyH.nil
      try simp only [List.getElem_toArray, List.getElem_cons_zero, List.getElem_cons_succ]
      try go_simp
      go_at_call 114
      refine (HBg.out nx xt _ HB8.out HXq.out).mono ?_
      rintro e V2 ⟨rfl, hb9⟩
      have HB9 := hide (HB8.out.trans (hb9.mono HB8.out.size))
      have HL9 := hide (HL8.out.same (Only.of_below hb9 _))
      have HX9 := hide (HX8.out.below hb9)
      clear hb9
      obtain ⟨bw, hbw⟩ : ∃ bw, bw = beginW P id nx xt := ⟨_, rfl⟩
      obtain ⟨bb, hbb⟩ : ∃ bb, bb = beginB P nx := ⟨_, rfl⟩
      rw [← hbw, ← hbb] at HFn ⊢
      clear hbw hbb
      refine hK.out _ _ (by obtain ⟨⟨q0, q1, q2, q3⟩, _⟩ := (HPb.out.below HB9.out).four; obtain ⟨⟨q4, _⟩, _⟩ := (HLb.out.below HB9.out).nine; obtain ⟨q5, q6, q7, q8, q9, qa⟩ := (HX9.out).six; exact ⟨q0, q1, q2, q3, q4, q5, q6, q7, q8, q9, qa⟩) (fun hHeld => ?_)
      clear hK K
      refine wpAnyH_take (i := 9) (v := ?_) rfl (by kernel_rfl) (by kernel_rfl) (by kernel_rfl) (fun _ _ _ h => h) (Or.inl ⟨by rfl, ?_⟩) (by assumption) ?_
      rotate_left
      ·(intro w9 hS9; (try simp only [List.getElem_toArray, List.getElem_cons_zero, List.getElem_cons_succ]); go_simp <;> rfl)
      refine wpAnyH_take (i := 10) (v := ?_) rfl (by kernel_rfl) (by kernel_rfl) (by kernel_rfl) (fun _ _ _ h => h) (Or.inl ⟨by rfl, ?_⟩) (by assumption) ?_
      rotate_left
      ·(intro w9 hS9; (try simp only [List.getElem_toArray, List.getElem_cons_zero, List.getElem_cons_succ]); go_simp <;> rfl)
      refine wpAnyH_take (i := 11) (v := ?_) rfl (by kernel_rfl) (by kernel_rfl) (by kernel_rfl) (fun _ _ _ h => h) (Or.inl ⟨by rfl, ?_⟩) (by assumption) ?_
      rotate_left
      ·(intro w9 hS9; (try simp only [List.getElem_toArray, List.getElem_cons_zero, List.getElem_cons_succ]); go_simp <;> rfl)
      try simp only [Act.put, List.setIfInBounds_toArray, List.set_cons_zero, List.set_cons_succ, List.getElem_toArray, List.getElem_cons_zero, List.getElem_cons_succ]
      have HBk9 := hide HL9.out.blk
      obtain ⟨c0, c1, c2, c3, c4, c5, c6⟩ := (show Blk V2 g 84 #[.int .i64 fw.id, .int .i64 fw.op, .int .i64 fw.from_, .int .i64 fw.until_, .bool fw.done, .int .i64 fw.at_, .int .i64 fw.what] from HBk9.out).seven
      have f0 := HBk9.out.frozen 0
      have f1 := HBk9.out.frozen 1
      have f2 := HBk9.out.frozen 2
      have f3 := HBk9.out.frozen 3
      have f4 := HBk9.out.frozen 4
      have f5 := HBk9.out.frozen 5
      have f6 := HBk9.out.frozen 6
      refine wpAnyH_ready (rs := [12]) (by kernel_rfl) (by simp) ?_
      refine AllReadyH.cons rfl (fun K hK => ?_) AllReadyH.nil
      try simp only [List.getElem_toArray, List.getElem_cons_zero, List.getElem_cons_succ]
      try go_simp
      rw [put7]
      obtain ⟨V3, hV3⟩ : ∃ V9, V9 = putFrom V2 g 0 [.int .i64 bw.id, .int .i64 bw.op, .int .i64 bw.from_, .int .i64 bw.until_, .bool bw.done, .int .i64 bw.at_, .int .i64 bw.what] := ⟨_, rfl⟩
      have HBa := hide (show Below W.heap.size W V3 by rw [hV3]; exact below_put [.int .i64 bw.id, .int .i64 bw.op, .int .i64 bw.from_, .int .i64 bw.until_, .bool bw.done, .int .i64 bw.at_, .int .i64 bw.what] 0 HB9.out hgW)
      have HLa := hide (show LwAt V3 g _ ⟨fo, bw, bb⟩ by rw [hV3]; exact HL9.out.put [.int .i64 bw.id, .int .i64 bw.op, .int .i64 bw.from_, .int .i64 bw.until_, .bool bw.done, .int .i64 bw.at_, .int .i64 bw.what] bw bb rfl)
      have HXa := hide (show Blk V3 xg 26 #[.int .i64 xt, .int .i64 xa, .int .i64 xw, .int .i64 xr, .int .i64 xn, .int .i64 xs] by rw [hV3]; exact HX9.out.only (only_put [.int .i64 bw.id, .int .i64 bw.op, .int .i64 bw.from_, .int .i64 bw.until_, .bool bw.done, .int .i64 bw.at_, .int .i64 bw.what] 0 V2 g) (fun h => by have : xg = g := h; omega))
      rw [← hV3]
      clear hV3 c0 c1 c2 c3 c4 c5 c6 f0 f1 f2 f3 f4 f5 f6
      refine hK.out _ _ (by obtain ⟨⟨q0, q1, q2, q3⟩, _⟩ := (HPb.out.below HBa.out).four; obtain ⟨⟨q4, _⟩, _⟩ := (HLb.out.below HBa.out).nine; obtain ⟨q5, q6, q7, q8, q9, qa⟩ := (HXa.out).six; exact ⟨q0, q1, q2, q3, q4, q5, q6, q7, q8, q9, qa⟩) (fun hHeld => ?_)
      clear hK K
      refine wpAnyH_take (i := 13) (v := ?_) rfl (by kernel_rfl) (by kernel_rfl) (by kernel_rfl) (fun _ _ _ h => h) (Or.inl ⟨by rfl, ?_⟩) (by assumption) ?_
      rotate_left
      ·(intro w9 hS9; (try simp only [List.getElem_toArray, List.getElem_cons_zero, List.getElem_cons_succ]); go_simp <;> rfl)
      try simp only [Act.put, List.setIfInBounds_toArray, List.set_cons_zero, List.set_cons_succ, List.getElem_toArray, List.getElem_cons_zero, List.getElem_cons_succ]
      refine wpAnyH_done (by kernel_rfl) ?_ _
      try simp only [Exit.then]
      clear hHeld
      go_wp2_with fail
      go_roundw
      case rel => exact ⟨q + 1, ⟨fo, bw, bb⟩, by omega, by show fo.length ≤ q + 1; rw [← Hm.out]; omega, by go_num, rfl, HFn, HLa, HBa⟩
      case measure => simp [intOf]; omega
     | true =>
      have HFn := hide (show (S.take (q + 1)).foldl (wkStep P id) (wk0 P id start) = ⟨fo ++ [(closeW fw ⟨xt, xa, xw, xr, xn, xs⟩)], beginW P id (nextM P ⟨xt, xa, xw, xr, xn, xs⟩) xt, beginB P (nextM P ⟨xt, xa, xw, xr, xn, xs⟩)⟩ from HFs.out)
      go_upto_region 8 with fail
      obtain ⟨V0, hV0⟩ : ∃ V9, V9 = W6.drew := ⟨_, rfl⟩
      have HB3 := hide (below_dr HB6.out)
      have HL3 := hide (HL6.out.drew)
      have HX3 := hide (HX6.out.only ((Only.refl NoBlk _).drew) (fun h => h))
      rw [← hV0] at HB3 HL3 HX3
      refine wp_region_held (S := fun w' => w'.cell? ⟨xg, 0, none⟩ = some (.int .i64 xt) ∧ w'.cell? ⟨xg, 2, none⟩ = some (.int .i64 xw)) (by kernel_rfl) ?_
      change wpAnyH _ _ _ _ _ _ _ _ W6.drew
      have hHeld : (fun w' => w'.cell? ⟨xg, 0, none⟩ = some (.int .i64 xt) ∧ w'.cell? ⟨xg, 2, none⟩ = some (.int .i64 xw)) W6.drew := by rw [← hV0]; exact (by obtain ⟨q0, _, q2, _⟩ := (HX3.out).six; exact ⟨q0, q2⟩)
      rw [← hV0] at hHeld ⊢
      simp only [List.size_toArray, List.length_cons, List.length_nil, Nat.zero_add, Nat.reduceAdd]
      clear hV0
      refine wpAnyH_take (i := 0) (v := ?_) rfl (by kernel_rfl) (by kernel_rfl) (by kernel_rfl) (fun _ _ _ h => h) (Or.inl ⟨by rfl, ?_⟩) (by assumption) ?_
      rotate_left
      ·(intro w9 hS9; (try simp only [List.getElem_toArray, List.getElem_cons_zero, List.getElem_cons_succ]); go_simp <;> rfl)
      refine wpAnyH_take (i := 1) (v := ?_) rfl (by kernel_rfl) (by kernel_rfl) (by kernel_rfl) (fun _ _ _ h => h) (Or.inl ⟨by rfl, ?_⟩) (by assumption) ?_
      rotate_left
      ·(intro w9 hS9; (try simp only [List.getElem_toArray, List.getElem_cons_zero, List.getElem_cons_succ]); go_simp <;> rfl)
      refine wpAnyH_take (i := 2) (v := ?_) rfl (by kernel_rfl) (by kernel_rfl) (by kernel_rfl) (fun _ _ _ h => h) (Or.inl ⟨by rfl, ?_⟩) (by assumption) ?_
      rotate_left
      ·(intro w9 hS9; (try simp only [List.getElem_toArray, List.getElem_cons_zero, List.getElem_cons_succ]); go_simp <;> rfl)
      refine wpAnyH_take (i := 3) (v := ?_) rfl (by kernel_rfl) (by kernel_rfl) (by kernel_rfl) (fun _ _ _ h => h) (Or.inl ⟨by rfl, ?_⟩) (by assumption) ?_
      rotate_left
      ·(intro w9 hS9; (try simp only [List.getElem_toArray, List.getElem_cons_zero, List.getElem_cons_succ]); go_simp <;> rfl)
      refine wpAnyH_take (i := 4) (v := ?_) rfl (by kernel_rfl) (by kernel_rfl) (by kernel_rfl) (fun _ _ _ h => h) (Or.inl ⟨by rfl, ?_⟩) (by assumption) ?_
      rotate_left
      ·(intro w9 hS9; (try simp only [List.getElem_toArray, List.getElem_cons_zero, List.getElem_cons_succ]); go_simp <;> rfl)
      try simp only [Act.put, List.setIfInBounds_toArray, List.set_cons_zero, List.set_cons_succ, List.getElem_toArray, List.getElem_cons_zero, List.getElem_cons_succ]
      have HBk3 := hide HL3.out.blk
      obtain ⟨c0, c1, c2, c3, c4, c5, c6⟩ := (show Blk V0 g 84 #[.int .i64 fw.id, .int .i64 fw.op, .int .i64 fw.from_, .int .i64 fw.until_, .bool fw.done, .int .i64 fw.at_, .int .i64 fw.what] from HBk3.out).seven
      have f4 := HBk3.out.frozen 4
      refine wpAnyH_ready (rs := [5]) (by kernel_rfl) (by simp) ?_
      refine AllReadyH.cons rfl (fun K hK => ?_) AllReadyH.nil
      try simp only [List.getElem_toArray, List.getElem_cons_zero, List.getElem_cons_succ]
      try go_simp
      obtain ⟨Y4, hnv⟩ : ∃ V9, V9 = V0.setCell ⟨g, 4, none⟩ (.bool true) := ⟨_, rfl⟩
      have HE4 := hide hnv
      have HBkY4 := hide (show Blk Y4 g 84 #[.int .i64 fw.id, .int .i64 fw.op, .int .i64 fw.from_, .int .i64 fw.until_, .bool true, .int .i64 fw.at_, .int .i64 fw.what] by rw [hnv]; exact (HBk3.out).set_ 4 _)
      have HXY4 := hide (show Blk Y4 xg 26 #[.int .i64 xt, .int .i64 xa, .int .i64 xw, .int .i64 xr, .int .i64 xn, .int .i64 xs] by rw [hnv]; exact (HX3.out).far (by show xg ≠ g; omega) _)
      have HBY4 := hide (show Below W.heap.size W Y4 by rw [hnv]; exact (HB3.out).setCell hgW _)
      rw [← hnv]
      clear hnv c0 c1 c2 c3 c4 c5 c6 f4
      obtain ⟨c0, c1, c2, c3, c4, c5, c6⟩ := HBkY4.out.seven
      have f5 := HBkY4.out.frozen 5
      refine hK.out _ _ (by obtain ⟨q0, _, q2, _⟩ := (HXY4.out).six; exact ⟨q0, q2⟩) (fun hHeld => ?_)
      clear hK K
      refine wpAnyH_take (i := 6) (v := ?_) rfl (by kernel_rfl) (by kernel_rfl) (by kernel_rfl) (fun _ _ _ h => h) (Or.inl ⟨by rfl, ?_⟩) (by assumption) ?_
      rotate_left
      ·(intro w9 hS9; (try simp only [List.getElem_toArray, List.getElem_cons_zero, List.getElem_cons_succ]); go_simp <;> rfl)
      try simp only [Act.put, List.setIfInBounds_toArray, List.set_cons_zero, List.set_cons_succ, List.getElem_toArray, List.getElem_cons_zero, List.getElem_cons_succ]
      refine wpAnyH_ready (rs := [7]) (by kernel_rfl) (by simp) ?_
      refine AllReadyH.cons rfl (fun K hK => ?_) AllReadyH.nil
      try simp only [List.getElem_toArray, List.getElem_cons_zero, List.getElem_cons_succ]
      try go_simp
      obtain ⟨Y5, hnv⟩ : ∃ V9, V9 = Y4.setCell ⟨g, 5, none⟩ (.int .i64 xt) := ⟨_, rfl⟩
      have HE5 := hide hnv
      have HBkY5 := hide (show Blk Y5 g 84 #[.int .i64 fw.id, .int .i64 fw.op, .int .i64 fw.from_, .int .i64 fw.until_, .bool true, .int .i64 xt, .int .i64 fw.what] by rw [hnv]; exact (HBkY4.out).set_ 5 _)
      have HXY5 := hide (show Blk Y5 xg 26 #[.int .i64 xt, .int .i64 xa, .int .i64 xw, .int .i64 xr, .int .i64 xn, .int .i64 xs] by rw [hnv]; exact (HXY4.out).far (by show xg ≠ g; omega) _)
      have HBY5 := hide (show Below W.heap.size W Y5 by rw [hnv]; exact (HBY4.out).setCell hgW _)
      rw [← hnv]
      clear hnv c0 c1 c2 c3 c4 c5 c6 f5
      obtain ⟨c0, c1, c2, c3, c4, c5, c6⟩ := HBkY5.out.seven
      have f6 := HBkY5.out.frozen 6
      refine hK.out _ _ (by obtain ⟨q0, _, q2, _⟩ := (HXY5.out).six; exact ⟨q0, q2⟩) (fun hHeld => ?_)
      clear hK K
      refine wpAnyH_take (i := 8) (v := ?_) rfl (by kernel_rfl) (by kernel_rfl) (by kernel_rfl) (fun _ _ _ h => h) (Or.inl ⟨by rfl, ?_⟩) (by assumption) ?_
      rotate_left
      ·(intro w9 hS9; (try simp only [List.getElem_toArray, List.getElem_cons_zero, List.getElem_cons_succ]); go_simp <;> rfl)
      try simp only [Act.put, List.setIfInBounds_toArray, List.set_cons_zero, List.set_cons_succ, List.getElem_toArray, List.getElem_cons_zero, List.getElem_cons_succ]
      refine wpAnyH_ready (rs := [9]) (by kernel_rfl) (by simp) ?_
      refine AllReadyH.cons rfl (fun K hK => ?_) AllReadyH.nil
      try simp only [List.getElem_toArray, List.getElem_cons_zero, List.getElem_cons_succ]
      try go_simp
      obtain ⟨Y6, hnv⟩ : ∃ V9, V9 = Y5.setCell ⟨g, 6, none⟩ (.int .i64 xw) := ⟨_, rfl⟩
      have HE6 := hide hnv
      have HBkY6 := hide (show Blk Y6 g 84 #[.int .i64 fw.id, .int .i64 fw.op, .int .i64 fw.from_, .int .i64 fw.until_, .bool true, .int .i64 xt, .int .i64 xw] by rw [hnv]; exact (HBkY5.out).set_ 6 _)
      have HXY6 := hide (show Blk Y6 xg 26 #[.int .i64 xt, .int .i64 xa, .int .i64 xw, .int .i64 xr, .int .i64 xn, .int .i64 xs] by rw [hnv]; exact (HXY5.out).far (by show xg ≠ g; omega) _)
      have HBY6 := hide (show Below W.heap.size W Y6 by rw [hnv]; exact (HBY5.out).setCell hgW _)
      rw [← hnv]
      clear hnv c0 c1 c2 c3 c4 c5 c6 f6
      obtain ⟨c0, c1, c2, c3, c4, c5, c6⟩ := HBkY6.out.seven
      have f7 := HBkY6.out.frozen 7
      refine hK.out _ _ (by obtain ⟨q0, _, q2, _⟩ := (HXY6.out).six; exact ⟨q0, q2⟩) (fun hHeld => ?_)
      clear hK K
      try simp only [Act.put, List.setIfInBounds_toArray, List.set_cons_zero, List.set_cons_succ, List.getElem_toArray, List.getElem_cons_zero, List.getElem_cons_succ]
      refine wpAnyH_done (by kernel_rfl) ?_ _
      try simp only [Exit.then]
      clear hHeld
      clear c0 c1 c2 c3 c4 c5 c6 f7
      go_upto_region 9 with fail
      have HL4 := hide (show LwAt Y6 g (.slice VA m vc) ⟨fo, (closeW fw ⟨xt, xa, xw, xr, xn, xs⟩), true⟩ by rw [HE6.out, HE5.out, HE4.out]; exact HL3.out.set3 (closeW fw ⟨xt, xa, xw, xr, xn, xs⟩) true rfl)
      have HB4 := hide HBY6.out
      have HX4 := hide HXY6.out
      obtain ⟨V4, hV4⟩ : ∃ V4, V4 = Y6 := ⟨_, rfl⟩
      rw [← hV4] at HL4 HB4 HX4 ⊢
      clear hV4 HE4 HE5 HE6 HBkY4 HBkY5 HBkY6 HXY4 HXY5 HXY6 HBY4 HBY5 HBY6
      have HBk4 := hide HL4.out.blk
      obtain ⟨c0, c1, c2, c3, c4, c5, c6⟩ := (show Blk V4 g 84 #[.int .i64 fw.id, .int .i64 fw.op, .int .i64 fw.from_, .int .i64 fw.until_, .bool true, .int .i64 xt, .int .i64 xw] from HBk4.out).seven
      have HNew := hide (rd_blkN (M := NoBlk) (Blk.new V4 84 (encWt (closeW fw ⟨xt, xa, xw, xr, xn, xs⟩)).toArray) (fun h => h))
      have hown4 := HL4.out.own
      simp only at hown4
      rw [← Hm.out] at hown4
      have HOwn4 := hide hown4
      have hg4 : g + 1 ≤ V4.heap.size := by have := HBk4.out.lt; omega
      have hxg4 : xg < V4.heap.size := HX4.out.lt
      have hfo' : m ≤ 10000 := by omega
      clear hown4 x0 x1 x2 x3 x4 x5
      go_upto_region 10 with (at_builtin; refine wpList_append_rd _ rfl (.tmp 42) (.tmp 44) _ rfl (g + 1) 84 iw _ 7 56 Tryz.underlying54 hiw hwz0 hwz1 hwz2 rfl (by omega) _ m _ rfl (HOwn4.out.alloc _) NoBlk (some ⟨V4.heap.size, 0, none⟩) 1 1 (encWt (closeW fw ⟨xt, xa, xw, xr, xn, xs⟩)) rfl HNew.out rfl (encWt_one _) (by simp only [maxLen]; omega) (by omega) (by simp; omega) ?_; intro v2 w9 hown2 hgr _; have Own2 := hide hown2; have Gr := hide hgr; clear hown2 hgr)
      have HL5 := hide ((HL4.out.alloc (.cells (encWt (closeW fw ⟨xt, xa, xw, xr, xn, xs⟩)).toArray 84)).grow (x := (closeW fw ⟨xt, xa, xw, xr, xn, xs⟩)) Gr.out Own2.out (by rw [Hm.out]))
      have HB5 := hide ((HB4.out.alloc HB4.out.size (.cells (encWt (closeW fw ⟨xt, xa, xw, xr, xn, xs⟩)).toArray 84)).grown Gr.out (by have := HB4.out.size; simp; omega) (fun k hk => by have := own_ge HOwn4.out k hk; omega))
      have HX5 := hide (Blk.grown (HX4.out.alloc (.cells (encWt (closeW fw ⟨xt, xa, xw, xr, xn, xs⟩)).toArray 84)) (HOwn4.out.alloc _) (by decide) Gr.out)
      obtain ⟨A5, c5', rfl, _⟩ := own_cap Own2.out
      clear c0 c1 c2 c3 c4 c5 c6
      obtain ⟨V0, hV0⟩ : ∃ V9, V9 = w9.drew := ⟨_, rfl⟩
      have HB7 := hide (below_dr HB5.out)
      have HL7 := hide (HL5.out.drew)
      have HX7 := hide (HX5.out.only ((Only.refl NoBlk _).drew) (fun h => h))
      rw [← hV0] at HB7 HL7 HX7
      refine wp_region_held (S := fun w' => w'.cell? ⟨w.heap.size, 0, none⟩ = some (.string s) ∧ w'.cell? ⟨w.heap.size, 1, none⟩ = some (.int .i64 d) ∧ w'.cell? ⟨w.heap.size, 2, none⟩ = some (.int .i64 j) ∧ w'.cell? ⟨w.heap.size, 3, none⟩ = some (.slice PA pn pc) ∧ w'.cell? ⟨w.heap.size + 1, 0, none⟩ = some (.int .i64 id) ∧ w'.cell? ⟨xg, 0, none⟩ = some (.int .i64 xt) ∧ w'.cell? ⟨xg, 1, none⟩ = some (.int .i64 xa) ∧ w'.cell? ⟨xg, 2, none⟩ = some (.int .i64 xw) ∧ w'.cell? ⟨xg, 3, none⟩ = some (.int .i64 xr) ∧ w'.cell? ⟨xg, 4, none⟩ = some (.int .i64 xn) ∧ w'.cell? ⟨xg, 5, none⟩ = some (.int .i64 xs)) (by kernel_rfl) ?_
      change wpAnyH _ _ _ _ _ _ _ _ w9.drew
      have hHeld : (fun w' => w'.cell? ⟨w.heap.size, 0, none⟩ = some (.string s) ∧ w'.cell? ⟨w.heap.size, 1, none⟩ = some (.int .i64 d) ∧ w'.cell? ⟨w.heap.size, 2, none⟩ = some (.int .i64 j) ∧ w'.cell? ⟨w.heap.size, 3, none⟩ = some (.slice PA pn pc) ∧ w'.cell? ⟨w.heap.size + 1, 0, none⟩ = some (.int .i64 id) ∧ w'.cell? ⟨xg, 0, none⟩ = some (.int .i64 xt) ∧ w'.cell? ⟨xg, 1, none⟩ = some (.int .i64 xa) ∧ w'.cell? ⟨xg, 2, none⟩ = some (.int .i64 xw) ∧ w'.cell? ⟨xg, 3, none⟩ = some (.int .i64 xr) ∧ w'.cell? ⟨xg, 4, none⟩ = some (.int .i64 xn) ∧ w'.cell? ⟨xg, 5, none⟩ = some (.int .i64 xs)) w9.drew := by rw [← hV0]; exact (by obtain ⟨⟨q0, q1, q2, q3⟩, _⟩ := (HPb.out.below HB7.out).four; obtain ⟨⟨q4, _⟩, _⟩ := (HLb.out.below HB7.out).nine; obtain ⟨q5, q6, q7, q8, q9, qa⟩ := (HX7.out).six; exact ⟨q0, q1, q2, q3, q4, q5, q6, q7, q8, q9, qa⟩)
      rw [← hV0] at hHeld ⊢
      simp only [List.size_toArray, List.length_cons, List.length_nil, Nat.zero_add, Nat.reduceAdd]
      clear hV0
      refine wpAnyH_take (i := 0) (v := ?_) rfl (by kernel_rfl) (by kernel_rfl) (by kernel_rfl) (fun _ _ _ h => h) (Or.inl ⟨by rfl, ?_⟩) (by assumption) ?_
      rotate_left
      ·(intro w9 hS9; (try simp only [List.getElem_toArray, List.getElem_cons_zero, List.getElem_cons_succ]); go_simp <;> rfl)
      refine wpAnyH_take (i := 1) (v := ?_) rfl (by kernel_rfl) (by kernel_rfl) (by kernel_rfl) (fun _ _ _ h => h) (Or.inl ⟨by rfl, ?_⟩) (by assumption) ?_
      rotate_left
      ·(intro w9 hS9; (try simp only [List.getElem_toArray, List.getElem_cons_zero, List.getElem_cons_succ]); go_simp <;> rfl)
      refine wpAnyH_take (i := 2) (v := ?_) rfl (by kernel_rfl) (by kernel_rfl) (by kernel_rfl) (fun _ _ _ h => h) (Or.inl ⟨by rfl, ?_⟩) (by assumption) ?_
      rotate_left
      ·(intro w9 hS9; (try simp only [List.getElem_toArray, List.getElem_cons_zero, List.getElem_cons_succ]); go_simp <;> rfl)
      refine wpAnyH_take (i := 3) (v := ?_) rfl (by kernel_rfl) (by kernel_rfl) (by kernel_rfl) (fun _ _ _ h => h) (Or.inl ⟨by rfl, ?_⟩) (by assumption) ?_
      rotate_left
      ·(intro w9 hS9; (try simp only [List.getElem_toArray, List.getElem_cons_zero, List.getElem_cons_succ]); go_simp <;> rfl)
      refine wpAnyH_take (i := 4) (v := ?_) rfl (by kernel_rfl) (by kernel_rfl) (by kernel_rfl) (fun _ _ _ h => h) (Or.inl ⟨by rfl, ?_⟩) (by assumption) ?_
      rotate_left
      ·(intro w9 hS9; (try simp only [List.getElem_toArray, List.getElem_cons_zero, List.getElem_cons_succ]); go_simp <;> rfl)
      refine wpAnyH_take (i := 6) (v := ?_) rfl (by kernel_rfl) (by kernel_rfl) (by kernel_rfl) (fun _ _ _ h => h) (Or.inl ⟨by rfl, ?_⟩) (by assumption) ?_
      rotate_left
      ·(intro w9 hS9; (try simp only [List.getElem_toArray, List.getElem_cons_zero, List.getElem_cons_succ]); go_simp <;> rfl)
      refine wpAnyH_take (i := 7) (v := ?_) rfl (by kernel_rfl) (by kernel_rfl) (by kernel_rfl) (fun _ _ _ h => h) (Or.inl ⟨by rfl, ?_⟩) (by assumption) ?_
      rotate_left
      ·(intro w9 hS9; (try simp only [List.getElem_toArray, List.getElem_cons_zero, List.getElem_cons_succ]); go_simp <;> rfl)
      try simp only [Act.put, List.setIfInBounds_toArray, List.set_cons_zero, List.set_cons_succ, List.getElem_toArray, List.getElem_cons_zero, List.getElem_cons_succ]
      refine wpAnyH_ready (rs := [5]) (by kernel_rfl) (by simp) ?_
      refine AllReadyH.cons rfl (fun K hK => ?_) AllReadyH.nil
      try simp only [List.getElem_toArray, List.getElem_cons_zero, List.getElem_cons_succ]
      try go_simp
      go_at_call 41
      refine (HNxq.out _ HB7.out).mono ?_
      rintro e V1 ⟨rfl, hb8⟩
      have HB8 := hide (HB7.out.trans (hb8.mono HB7.out.size))
      have HL8 := hide (HL7.out.same (Only.of_below hb8 _))
      have HX8 := hide (HX7.out.below hb8)
      clear hb8
      obtain ⟨nx, hnx⟩ : ∃ nx, nx = nextM P ⟨xt, xa, xw, xr, xn, xs⟩ := ⟨_, rfl⟩
      rw [← hnx] at HFn ⊢
      clear hnx
      refine hK.out _ _ (by obtain ⟨⟨q0, q1, q2, q3⟩, _⟩ := (HPb.out.below HB8.out).four; obtain ⟨⟨q4, _⟩, _⟩ := (HLb.out.below HB8.out).nine; obtain ⟨q5, q6, q7, q8, q9, qa⟩ := (HX8.out).six; exact ⟨q0, q1, q2, q3, q4, q5, q6, q7, q8, q9, qa⟩) (fun hHeld => ?_)
      clear hK K
      try simp only [Act.put, List.setIfInBounds_toArray, List.set_cons_zero, List.set_cons_succ, List.getElem_toArray, List.getElem_cons_zero, List.getElem_cons_succ]
      refine wpAnyH_ready (rs := [8]) (by kernel_rfl) (by simp) ?_
      refine AllReadyH.cons rfl (fun K hK => ?_) AllReadyH.nil
      try simp only [List.getElem_toArray, List.getElem_cons_zero, List.getElem_cons_succ]
      try go_simp
      go_at_call 114
      refine (HBg.out nx xt _ HB8.out HXq.out).mono ?_
      rintro e V2 ⟨rfl, hb9⟩
      have HB9 := hide (HB8.out.trans (hb9.mono HB8.out.size))
      have HL9 := hide (HL8.out.same (Only.of_below hb9 _))
      have HX9 := hide (HX8.out.below hb9)
      clear hb9
      obtain ⟨bw, hbw⟩ : ∃ bw, bw = beginW P id nx xt := ⟨_, rfl⟩
      obtain ⟨bb, hbb⟩ : ∃ bb, bb = beginB P nx := ⟨_, rfl⟩
      rw [← hbw, ← hbb] at HFn ⊢
      clear hbw hbb
      refine hK.out _ _ (by obtain ⟨⟨q0, q1, q2, q3⟩, _⟩ := (HPb.out.below HB9.out).four; obtain ⟨⟨q4, _⟩, _⟩ := (HLb.out.below HB9.out).nine; obtain ⟨q5, q6, q7, q8, q9, qa⟩ := (HX9.out).six; exact ⟨q0, q1, q2, q3, q4, q5, q6, q7, q8, q9, qa⟩) (fun hHeld => ?_)
      clear hK K
      refine wpAnyH_take (i := 9) (v := ?_) rfl (by kernel_rfl) (by kernel_rfl) (by kernel_rfl) (fun _ _ _ h => h) (Or.inl ⟨by rfl, ?_⟩) (by assumption) ?_
      rotate_left
      ·(intro w9 hS9; (try simp only [List.getElem_toArray, List.getElem_cons_zero, List.getElem_cons_succ]); go_simp <;> rfl)
      refine wpAnyH_take (i := 10) (v := ?_) rfl (by kernel_rfl) (by kernel_rfl) (by kernel_rfl) (fun _ _ _ h => h) (Or.inl ⟨by rfl, ?_⟩) (by assumption) ?_
      rotate_left
      ·(intro w9 hS9; (try simp only [List.getElem_toArray, List.getElem_cons_zero, List.getElem_cons_succ]); go_simp <;> rfl)
      refine wpAnyH_take (i := 11) (v := ?_) rfl (by kernel_rfl) (by kernel_rfl) (by kernel_rfl) (fun _ _ _ h => h) (Or.inl ⟨by rfl, ?_⟩) (by assumption) ?_
      rotate_left
      ·(intro w9 hS9; (try simp only [List.getElem_toArray, List.getElem_cons_zero, List.getElem_cons_succ]); go_simp <;> rfl)
      try simp only [Act.put, List.setIfInBounds_toArray, List.set_cons_zero, List.set_cons_succ, List.getElem_toArray, List.getElem_cons_zero, List.getElem_cons_succ]
      have HBk9 := hide HL9.out.blk
      obtain ⟨c0, c1, c2, c3, c4, c5, c6⟩ := (show Blk V2 g 84 #[.int .i64 (closeW fw ⟨xt, xa, xw, xr, xn, xs⟩).id, .int .i64 (closeW fw ⟨xt, xa, xw, xr, xn, xs⟩).op, .int .i64 (closeW fw ⟨xt, xa, xw, xr, xn, xs⟩).from_, .int .i64 (closeW fw ⟨xt, xa, xw, xr, xn, xs⟩).until_, .bool (closeW fw ⟨xt, xa, xw, xr, xn, xs⟩).done, .int .i64 (closeW fw ⟨xt, xa, xw, xr, xn, xs⟩).at_, .int .i64 (closeW fw ⟨xt, xa, xw, xr, xn, xs⟩).what] from HBk9.out).seven
      have f0 := HBk9.out.frozen 0
      have f1 := HBk9.out.frozen 1
      have f2 := HBk9.out.frozen 2
      have f3 := HBk9.out.frozen 3
      have f4 := HBk9.out.frozen 4
      have f5 := HBk9.out.frozen 5
      have f6 := HBk9.out.frozen 6
      refine wpAnyH_ready (rs := [12]) (by kernel_rfl) (by simp) ?_
      refine AllReadyH.cons rfl (fun K hK => ?_) AllReadyH.nil
      try simp only [List.getElem_toArray, List.getElem_cons_zero, List.getElem_cons_succ]
      try go_simp
      rw [put7]
      obtain ⟨V3, hV3⟩ : ∃ V9, V9 = putFrom V2 g 0 [.int .i64 bw.id, .int .i64 bw.op, .int .i64 bw.from_, .int .i64 bw.until_, .bool bw.done, .int .i64 bw.at_, .int .i64 bw.what] := ⟨_, rfl⟩
      have HBa := hide (show Below W.heap.size W V3 by rw [hV3]; exact below_put [.int .i64 bw.id, .int .i64 bw.op, .int .i64 bw.from_, .int .i64 bw.until_, .bool bw.done, .int .i64 bw.at_, .int .i64 bw.what] 0 HB9.out hgW)
      have HLa := hide (show LwAt V3 g _ ⟨fo ++ [(closeW fw ⟨xt, xa, xw, xr, xn, xs⟩)], bw, bb⟩ by rw [hV3]; exact HL9.out.put [.int .i64 bw.id, .int .i64 bw.op, .int .i64 bw.from_, .int .i64 bw.until_, .bool bw.done, .int .i64 bw.at_, .int .i64 bw.what] bw bb rfl)
      have HXa := hide (show Blk V3 xg 26 #[.int .i64 xt, .int .i64 xa, .int .i64 xw, .int .i64 xr, .int .i64 xn, .int .i64 xs] by rw [hV3]; exact HX9.out.only (only_put [.int .i64 bw.id, .int .i64 bw.op, .int .i64 bw.from_, .int .i64 bw.until_, .bool bw.done, .int .i64 bw.at_, .int .i64 bw.what] 0 V2 g) (fun h => by have : xg = g := h; omega))
      rw [← hV3]
      clear hV3 c0 c1 c2 c3 c4 c5 c6 f0 f1 f2 f3 f4 f5 f6
      refine hK.out _ _ (by obtain ⟨⟨q0, q1, q2, q3⟩, _⟩ := (HPb.out.below HBa.out).four; obtain ⟨⟨q4, _⟩, _⟩ := (HLb.out.below HBa.out).nine; obtain ⟨q5, q6, q7, q8, q9, qa⟩ := (HXa.out).six; exact ⟨q0, q1, q2, q3, q4, q5, q6, q7, q8, q9, qa⟩) (fun hHeld => ?_)
      clear hK K
      refine wpAnyH_take (i := 13) (v := ?_) rfl (by kernel_rfl) (by kernel_rfl) (by kernel_rfl) (fun _ _ _ h => h) (Or.inl ⟨by rfl, ?_⟩) (by assumption) ?_
      rotate_left
      ·(intro w9 hS9; (try simp only [List.getElem_toArray, List.getElem_cons_zero, List.getElem_cons_succ]); go_simp <;> rfl)
      try simp only [Act.put, List.setIfInBounds_toArray, List.set_cons_zero, List.set_cons_succ, List.getElem_toArray, List.getElem_cons_zero, List.getElem_cons_succ]
      refine wpAnyH_done (by kernel_rfl) ?_ _
      try simp only [Exit.then]
      clear hHeld
      go_wp2_with fail
      go_roundw
      case rel => exact ⟨q + 1, ⟨fo ++ [(closeW fw ⟨xt, xa, xw, xr, xn, xs⟩)], bw, bb⟩, by omega, by show (fo ++ [(closeW fw ⟨xt, xa, xw, xr, xn, xs⟩)]).length ≤ q + 1; rw [List.length_append, ← Hm.out]; simp; omega, by go_num, rfl, HFn, HLa, HBa⟩
      case measure => simp [intOf]; omega
end Go.Proofs.YtdmdohjdmnmabaaGreat
