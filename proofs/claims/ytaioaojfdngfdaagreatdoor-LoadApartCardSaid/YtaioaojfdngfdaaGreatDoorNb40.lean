/- Parts of a chain of lemmas: Ld8, Ld9, Live17. Conditions: those of each theorem. -/
import Derived.Test.YtaioaojfdngfdaaGreatDoorNb39
import Derived.BigRegion
set_option linter.unusedVariables false
set_option linter.unusedSimpArgs false
namespace Go.Proofs.YtaioaojfdngfdaaGreatDoor
open Go.RowKit
theorem Tryz.infoScr : (Tryz.prog.info? 45).map (fun i => (i.zero, i.size, i.bytes)) = some (some (.agg #[.string ⟨#[]⟩, .int .i64 0, .int .i64 0, .slice none 0 0, .int .i64 0, .int .i64 0, .int .i64 0, .int .i64 0]), 8, 88) := by kernel_rfl
/-- the scripts that have been read: their row, and the rows of their ops -/
structure LdAt (w : World) (B : Nat) (T : TypeId) (out : List ScrV) (v : Value) : Prop where
 own : w.ownsRow B T 8 v out.length (flat encScr out)
 inn : ∀ s ∈ out, OpsRd w (Mi B v) s.A s.L
section
variable {w w' w1 : World} {B : Nat} {T : TypeId} {out : List ScrV} {v v' : Value}
theorem LdAt.same (h : LdAt w B T out v) (q : Only NoBlk w w') : LdAt w' B T out v := ⟨own_only h.own q (fun _ _ h => h.elim), fun s hs => (h.inn s hs).only q (fun _ h => h.elim)⟩
theorem LdAt.nil (w : World) (B : Nat) (T : TypeId) : LdAt w B T [] (.slice none 0 0) := ⟨World.ownsRow_nil _ _ _ _, fun s hs => by cases hs⟩
theorem LdAt.grow {s : ScrV} {K : Nat} (h : LdAt w B T out v) (ho : w1.ownsRow B T 8 v' (out.length + 1) (flat encScr out ++ encScr s)) (hg : w.grownBy w1 v.ownBlock)
 (hv : v'.ownBlock = v.ownBlock ∨ v'.ownBlock = some w.heap.size) (hs : OpsRd w (· < K) s.A s.L) (hB : B ≤ K) (hK : ∀ k, v.ownBlock = some k → k < K) : LdAt w1 B T (out ++ [s]) v' := by
 refine ⟨by rw [flat_snoc, List.length_append]; exact ho, fun x hx => ?_⟩
 have hm : ∀ (y : ScrV), OpsRd w (Mi B v) y.A y.L → OpsRd w1 (Mi B v') y.A y.L := fun y hy => ⟨inn_step hy.1 hg hv, fun z hz => inn_step (hy.2 z hz) hg hv⟩
 rcases List.mem_append.1 hx with hx | hx
 ·exact hm x (h.inn x hx)
 ·rw [List.mem_singleton] at hx
  subst hx
  refine hm x (hs.monoP fun b hb => ?_)
  rcases hb with hb | hb
  ·exact Nat.lt_of_lt_of_le hb hB
  ·exact hK b hb
theorem LdAt.kept (h : LdAt w B T out v) (q : Only (fun k => k < B) w w') (hb : ∀ k, k < w.heap.size → w'.heap[k]? = w.heap[k]?) : LdAt w' B T out v := h.same ⟨q.os, q.output, q.size, fun k hk _ => hb k hk⟩
end
def part0 : PartV := ⟨0, none, 0, []⟩
theorem readAll_at (V : List PartV) (k : Nat) (h : k < V.length) (o : List ScrM) : readAll ((V.drop k).map (·.m)) o = readAll ((V.drop (k + 1)).map (·.m)) (o ++ [readM (V.getD k part0).m o]) := by
 have e : V.getD k part0 = V[k] := by simp [List.getD, h]
 rw [List.drop_eq_getElem_cons h, e]
 rfl
theorem part_cells {w : World} {M : Nat → Prop} {A : Option Addr} {l : List PartV} (hr : Rd w M A (flat encPart l)) (k : Nat) (hk : k < l.length) : ∃ b o, A = some ⟨b, o, none⟩ ∧ b < w.heap.size ∧ ¬ M b ∧ w.cell? ⟨b, o + k * 2, none⟩ = some (.int .i64 ((l.getD k part0).line : Nat)) ∧ w.cell? ⟨b, o + k * 2 + 1, none⟩ = some (.slice (l.getD k part0).A (l.getD k part0).l.length (l.getD k part0).c) := by
 have e : l[k]? = some (l.getD k part0) := by simp [List.getD, hk]
 obtain ⟨b, o, hA, hm, hb, hc⟩ := flat_cells encPart_len hr k _ e (by omega)
 exact ⟨b, o, hA, hb, hm, hc 0 (by omega), hc 1 (by omega)⟩
set_option maxRecDepth 100000 in
set_option maxHeartbeats 25600000 in
theorem Load_c (s : ByteArray) (w : World) (hs : s.size ≤ 900000) (hvars : Vars w) : Calls Tryz.prog 21 #[.string s] w fun e w' => (∃ (A : Option Addr) (c : Nat) (S : List ScrV), e = .returned (.tuple #[.slice A S.length c, .int .i64 (loadM s.data.toList).2]) ∧ S.map (·.m) = (loadM s.data.toList).1 ∧ Rd w' (· < w.heap.size) A (flat encScr S) ∧ ∀ v ∈ S, OpsRd w' (· < w.heap.size) v.A v.L) ∧ Only NoBlk w w' := by
 have hsl : s.data.toList.length = s.size := by simp
 by_cases hz : 40000 < s.size
 case pos =>
  have HL := hide (show loadM s.data.toList = ([], 4) by unfold loadM; rw [if_pos (by omega)])
  have d1 : decide ((40000 : Int) < (s.size : Int)) = true := by simp; omega
  have d2 : decide (40000 < s.size) = true := by simp; omega
  obtain ⟨R, hR⟩ : ∃ R, R = loadM s.data.toList := ⟨_, rfl⟩
  rw [← hR] at HL ⊢
  clear hR hz
  go_enter Tryz.func21, Tryz.ntmps21
  go_wp2_with fail
  refine bodyPost_ret (v := .tuple #[.slice none 0 0, .int .i64 4]) (by simp [results, Tryz.results21, go_sem]; try rfl) rfl ?_
  exact ⟨⟨none, 0, [], by rw [HL.out]; rfl, by rw [HL.out]; rfl, Or.inl rfl, fun v hv => (by cases hv)⟩, Only.refl _ _⟩
 case neg =>
  have d1 : decide ((40000 : Int) < (s.size : Int)) = false := by simp; omega
  have d2 : decide (40000 < s.size) = false := by simp; omega
  have HCu := hide (cut_c s w (by omega) hvars.len)
  have HCz := hide (fun (q : PartM) (h : q ∈ cutM s.data.toList) => (show szP q.l ≤ 50000 ∧ q.line ≤ 50000 by have := cutM_sz _ q h; omega))
  have HL := hide (show loadM s.data.toList = if 64 < (cutM s.data.toList).length then ([], 4) else (readAll (cutM s.data.toList) [], 0) by unfold loadM; rw [if_neg (by omega)])
  have HVr := hide hvars
  obtain ⟨C, hC⟩ : ∃ C, C = cutM s.data.toList := ⟨_, rfl⟩
  obtain ⟨R, hR⟩ : ∃ R, R = loadM s.data.toList := ⟨_, rfl⟩
  rw [← hC] at HCu HCz HL
  rw [← hR] at HL ⊢
  clear hR hC hz hsl hs hvars
  obtain ⟨i0, hi, hz0, hz1, hz2⟩ := info_parts Tryz.infoScr
  go_enter Tryz.func21, Tryz.ntmps21
  go_wp2_with fail
  refine HCu.out.mono ?_
  rintro e W ⟨⟨A, c, V, rfl, hV, hr, hi2⟩, k0⟩
  have HK0 := hide k0
  have HRd := hide hr
  have HIn := hide hi2
  have HVm := hide hV
  have hVl : C.length = V.length := by rw [← hV]; simp
  obtain ⟨n, hn⟩ : ∃ n, n = V.length := ⟨_, rfl⟩
  rw [← hn] at hVl ⊢
  clear k0 hr hi2 hV
  by_cases h64 : 64 < n
  case pos =>
   have e1 : decide ((64 : Int) < (n : Int)) = true := by simp; omega
   have e2 : decide (64 < n) = true := by simp; omega
   have HR := hide (show R = ([], 4) by rw [HL.out, if_pos (by omega)])
   clear h64 hn
   go_wp2_with fail
   refine bodyPost_ret (v := .tuple #[.slice none 0 0, .int .i64 4]) (by simp [results, Tryz.results21, go_sem]; try rfl) rfl ?_
   exact ⟨⟨none, 0, [], by rw [HR.out]; rfl, by rw [HR.out]; rfl, Or.inl rfl, fun v hv => (by cases hv)⟩, HK0.out⟩
  case neg =>
   have e1 : decide ((64 : Int) < (n : Int)) = false := by simp; omega
   have e2 : decide (64 < n) = false := by simp; omega
   have HR := hide (show R = (readAll (V.map (·.m)) [], 0) by rw [HL.out, if_neg (by omega), HVm.out])
   have HMem := hide (fun (k : Nat) (h : k < n) => (show V.getD k part0 ∈ V ∧ (V.getD k part0).m ∈ C by
    have e : V.getD k part0 = V[k]'(by omega) := by simp [List.getD, show k < V.length by omega]
    rw [e, ← HVm.out]
    exact ⟨List.getElem_mem _, List.mem_map.2 ⟨_, List.getElem_mem _, rfl⟩⟩))
   have HStp := hide (fun (k : Nat) (h : k < n) (o : List ScrM) => readAll_at V k (by omega) o)
   have HCl := hide (fun (k : Nat) (h : k < n) => part_cells HRd.out k (by omega))
   have HDr := hide (show V.drop n = [] by rw [hn, List.drop_length])
   obtain ⟨B, hB⟩ : ∃ B, B = W.heap.size := ⟨_, rfl⟩
   have HBw := hide hB
   have hn64 : n ≤ 64 := by omega
   clear hn hVl h64 hB HL HCu HVm
   go_wp2_with fail
   go_loopw [4, 7, 18] (fun v _ i wr => ∃ (k : Nat) (out : List ScrV), k ≤ n ∧ out.length = k ∧ i = .int .i64 k ∧ Hid (LdAt wr B 45 out v) ∧ Hid (readAll (V.map (·.m)) [] = readAll ((V.drop k).map (·.m)) (out.map (·.m))) ∧ Hid (Only (B ≤ ·) W wr)) (fun _ _ i _ => n - (intOf i).toNat)
   case atStart => exact ⟨0, [], Nat.zero_le _, rfl, rfl, hide (LdAt.nil _ _ _), hide rfl, hide (Only.refl _ _)⟩
   case round =>
    obtain ⟨k, out, hk, hok, rfl, HA, HE, HK⟩ := hrel
    obtain ⟨VA, vc, rfl, hvc⟩ := own_cap HA.out.own
    have w1 : IntKind.i64.wrap ((k : Int) + 1) = (k : Int) + 1 := IntWalk.i64_in _ (by omega)
    by_cases hlt : k < n
    case pos =>
     obtain ⟨b, o, rfl, hb, _, g0, g1⟩ := HCl.out k hlt
     obtain ⟨hm1, hm2⟩ := HMem.out k hlt
     obtain ⟨hz3, hz4⟩ := HCz.out _ hm2
     obtain ⟨hi3, hi4⟩ := HIn.out _ hm1
     have hs1 := HStp.out k hlt (out.map (·.m))
     obtain ⟨q, hq⟩ : ∃ q, q = V.getD k part0 := ⟨_, rfl⟩
     rw [← hq] at g0 g1 hz3 hz4 hi3 hi4 hs1
     have HE2 := hide (HE.out.trans hs1)
     clear hq hm1 hm2 hs1 HE
     obtain ⟨ln, qA, qc, l⟩ := q
     simp only at g0 g1 hi3 hi4
     have hbB : b < B := by have := HBw.out; omega
     replace g0 := okeep HK.out (fun h : B ≤ b => by omega) g0
     replace g1 := okeep HK.out (fun h : B ≤ b => by omega) g1
     have d3 : decide ((k : Int) < (n : Int)) = true := by simp; exact hlt
     have d4 : decide (k < n) = true := by simp; exact hlt
     have j1 : (0 : Int) ≤ (k : Int) := by omega
     have j2 : (k : Int) < (n : Int) := by omega
     have HWw := hide (show Only NoBlk w wr from HK0.out.fresh HK.out (fun i _ h => Or.inr (by have h' : B ≤ i := h; have := HBw.out; have := HK0.out.size; omega)))
     obtain ⟨X, hX⟩ : ∃ X, X = wr.alloc (.cells #[.int .i64 (ln : Nat), .slice qA l.length qc] 100) := ⟨_, rfl⟩
     have HXw := hide (show Only NoBlk wr X by rw [hX]; exact (Only.refl _ wr).alloc _)
     have HXb := hide (show Blk X wr.heap.size 100 #[.int .i64 (ln : Nat), .slice qA l.length qc] by rw [hX]; exact Blk.new _ _ _)
     have HA2 := hide (HA.out.same HXw.out)
     have HRq := hide (show Rd X NoBlk qA (flat encLn l) from (rd_step (M' := NoBlk) hi3 HK.out (fun i hb h => by have h' : B ≤ i := h; have := HBw.out; omega) (fun i h => h.elim)).only HXw.out (fun _ h => h))
     have HCall := hide (pread_c ln qA qc l VA vc out X HRq.out hi4 hz3 hz4 (Rd.of_own HA2.out.own (fun b h => h.elim)) (by omega) (HVr.out.only (HWw.out.trans HXw.out)))
     rw [hok] at HCall
     have hXs : wr.heap.size + 1 = X.heap.size := by rw [hX]; simp
     have HX := hide hX
     clear hX hi3 hi4 hz3 hz4 HRq hbB
     obtain ⟨p0, p1⟩ := HXb.out.two
     go_upto_region 10 with fail
     rw [← HX.out]
     go_wp2_with fail
     refine HCall.out.mono ?_
     rintro e W2 ⟨⟨v, rfl, hvm, hvo⟩, k2⟩
     have HVm2 := hide hvm
     have HVo := hide hvo
     have HA3 := hide (HA2.out.same k2)
     have HK2 := hide ((HK.out.trans (HXw.out.none _)).trans (k2.none _))
     have hX2 := hide (show Rd (W2.alloc (.cells (encScr v).toArray 45)) NoBlk (some ⟨W2.heap.size, 0, none⟩) (encScr v) from rd_blkN (Blk.new _ _ _) (fun h => h))
     have HA4 := hide (HA3.out.same ((Only.refl _ W2).alloc (.cells (encScr v).toArray 45)))
     have HVo4 := hide (hvo.only ((Only.refl NoBlk W2).alloc (.cells (encScr v).toArray 45)) (fun _ h => h.elim))
     have hBs : B ≤ W2.heap.size := by have := HBw.out; have := HK2.out.size; omega
     have hBX : B ≤ X.heap.size := by have := HBw.out; have := HK.out.size; omega
     have hVX : ∀ j, (Value.slice VA out.length vc).ownBlock = some j → j < X.heap.size := fun j hj => own_newer HA2.out.own hj
     have hBa : B ≤ (W2.alloc (.cells (encScr v).toArray 45)).heap.size := by simp; omega
     clear hvm hvo k2 p0 p1 g0 g1
     obtain ⟨nm, dd, jj, A2, c2, L2, ln2, x2, y2, er⟩ := v
     simp only [encScr]
     have Hok := hide hok
     have hok2 : out.length ≤ 64 := by omega
     clear hok
     go_wp2_with (at_builtin; refine wpList_append_rd _ rfl (.tmp 22) (.tmp 26) _ rfl B 45 i0 (.agg #[.string ⟨#[]⟩, .int .i64 0, .int .i64 0, .slice none 0 0, .int .i64 0, .int .i64 0, .int .i64 0, .int .i64 0]) 8 88 Tryz.underlying41 hi hz0 hz1 hz2 rfl (by omega) (.slice VA k vc) out.length (flat encScr out) rfl (by rw [← Hok.out]; exact HA4.out.own) NoBlk (some ⟨W2.heap.size, 0, none⟩) 1 1 (encScr ⟨nm, dd, jj, A2, c2, L2, ln2, x2, y2, er⟩) rfl hX2.out rfl (encScr_one _) (by simp only [maxLen]; omega) (by omega) hBa ?_; intro v5 w5 hown5 hgr5 hv5; have Own5 := hide hown5; have Gr5 := hide hgr5; have Hv5 := hide hv5; clear hown5 hgr5 hv5)
     rw [← Hok.out] at Gr5 Hv5
     have HA5 := hide (HA4.out.grow Own5.out Gr5.out Hv5.out HVo4.out hBX hVX)
     have HE3 := hide (show readAll (V.map (·.m)) [] = readAll ((V.drop (k + 1)).map (·.m)) ((out ++ [(⟨nm, dd, jj, A2, c2, L2, ln2, x2, y2, er⟩ : ScrV)]).map (·.m)) by
      have e : readM (PartV.m ⟨ln, qA, qc, l⟩) (out.map (·.m)) = ScrV.m ⟨nm, dd, jj, A2, c2, L2, ln2, x2, y2, er⟩ := HVm2.out.symm
      rw [HE2.out, List.map_append, e]
      rfl)
     have HK5 := hide ((HK2.out.alloc (.cells (encScr (⟨nm, dd, jj, A2, c2, L2, ln2, x2, y2, er⟩ : ScrV)).toArray 45)).grown Gr5.out (fun j hj => Or.inl (own_ge HA4.out.own j hj)))
     clear Own5 Gr5 Hv5 HA4 HA3 HA2 HVo4 HVo HVm2 hX2 HK2 HE2
     go_roundw
     case rel => exact ⟨k + 1, out ++ [⟨nm, dd, jj, A2, c2, L2, ln2, x2, y2, er⟩], by omega, by have := Hok.out; simp; omega, by go_num, HA5, HE3, HK5⟩
     case measure => simp [intOf]; omega
    case neg =>
     obtain rfl : n = k := by omega
     have d3 : decide ((n : Int) < (n : Int)) = false := by simp
     have d4 : decide (n < n) = false := by simp
     have HEE := hide (show R = (out.map (·.m), 0) by rw [HR.out, HE.out, HDr.out]; rfl)
     have hsz : w.heap.size ≤ B := by have := HBw.out; have := HK0.out.size; omega
     have HOk := hide (show Only NoBlk w wr from HK0.out.fresh HK.out (fun i _ h => Or.inr (by have h' : B ≤ i := h; omega)))
     have HRo := hide (show Rd wr (· < w.heap.size) VA (flat encScr out) from Rd.of_own HA.out.own (fun j hj => Nat.lt_of_lt_of_le hj hsz))
     have HIo := hide (show ∀ v ∈ out, OpsRd wr (· < w.heap.size) v.A v.L from fun v hv => (HA.out.inn v hv).monoP (fun b hb => Or.inl (Nat.lt_of_lt_of_le hb hsz)))
     clear hok HA HE HR
     go_wp2_with fail
     refine bodyPost_ret (v := .tuple #[.slice VA out.length vc, .int .i64 0]) (by simp [results, Tryz.results21, go_sem]; try rfl) rfl ?_
     exact ⟨⟨VA, vc, out, by rw [HEE.out], by rw [HEE.out], HRo.out, HIo.out⟩, HOk.out⟩
def okS (s : ScrM) : Bool := decide (s.err = 0)
def rightM (l : List ScrM) : Nat := l.countP okS
theorem right_next (V : List ScrV) (k : Nat) (h : k < V.length) : rightM ((V.take (k + 1)).map (·.m)) = rightM ((V.take k).map (·.m)) + (if (scrAt V k).err = 0 then 1 else 0) := by
 unfold rightM
 rw [List.take_add_one, scrAt_some h, List.map_append, List.countP_append]
 congr 1
 by_cases he : (scrAt V k).err = 0
 ·rw [if_pos he]
  simp [okS, ScrV.m, he]
 ·rw [if_neg he]
  simp [okS, ScrV.m, he]
theorem right_le (l : List ScrM) : rightM l ≤ l.length := List.countP_le_length
def tameP (p : ProgM) : Prop := p.ops.length ≤ 200 ∧ ∀ o ∈ p.ops, o.arms.length ≤ 100
theorem readM_tame (p : PartM) (o : List ScrM) : tameP (readM p o).prog := by
 unfold readM readScr
 have h0 : tameP noProg := ⟨by simp [noProg], fun o h => by cases h⟩
 split
 ·exact h0
 ·next h =>
  split
  ·exact h0
  ·have h1 : (parseM (Lib.join p.l [10])).2.2 = 0 := by
    rcases Decidable.em ((parseM (Lib.join p.l [10])).2.2 = 0) with h2 | h2
    ·exact h2
    ·exact absurd h2 h
   have h2 := good_sz (p := (parseM (Lib.join p.l [10])).1) (by rw [parse_same] at h1 ⊢; exact parseD_good _ h1)
   exact ⟨h2.1, fun o ho => (h2.2.2 o ho).1⟩
theorem readAll_tame : ∀ (l : List PartM) (o : List ScrM), (∀ s ∈ o, tameP s.prog) → ∀ s ∈ readAll l o, tameP s.prog
 | [], o, h => h
 | p :: r, o, h => readAll_tame r _ fun s hs => by
  rcases List.mem_append.1 hs with hs | hs
  ·exact h s hs
  ·rw [List.mem_singleton] at hs
   subst hs
   exact readM_tame p o
theorem load_tame (t : List UInt8) : ∀ s ∈ (loadM t).1, tameP s.prog := by
 unfold loadM
 split
 ·intro s hs; cases hs
 ·split
  ·intro s hs; cases hs
  ·exact readAll_tame _ _ (fun s hs => by cases hs)
theorem load_len (t : List UInt8) : (loadM t).1.length ≤ 64 := by
 unfold loadM
 split
 ·simp
 ·split
  ·simp
  ·next h =>
   simp only
   rw [readAll_len]
   simp
   omega
set_option maxRecDepth 100000 in
set_option maxHeartbeats 3200000 in
theorem Right_c (M : Nat → Prop) (A : Option Addr) (c : Nat) (l : List ScrV) (w : World) (hr : Rd w M A (flat encScr l)) (hn0 : l.length ≤ 1000000) :
 Calls Tryz.prog 23 #[.slice A l.length c] w fun e w' => e = .returned (.int .i64 (rightM (l.map (·.m)) : Nat)) ∧ Below w.heap.size w w' := by
 have Hc := hide (fun k hk => scr_cells hr k hk)
 have HNx := hide (right_next l)
 have HLe := hide (fun k => right_le ((l.take k).map (·.m)))
 obtain ⟨n, hnl⟩ : ∃ n, n = l.length := ⟨_, rfl⟩
 have HR := hide (show rightM (l.map (·.m)) = rightM ((l.take n).map (·.m)) by rw [hnl, List.take_length])
 obtain ⟨R, hR⟩ : ∃ R, R = rightM (l.map (·.m)) := ⟨_, rfl⟩
 rw [← hR] at HR ⊢
 rw [← hnl] at hn0 HNx Hc ⊢
 clear hr hnl hR
 go_enter Tryz.func23, Tryz.ntmps23
 go_wp2_with fail
 go_loopw [3, 5, 8] (fun q _ i wr => ∃ k N : Nat, k ≤ n ∧ N ≤ k ∧ i = .int .i64 k ∧ q = .int .i64 N ∧ Hid (N = rightM ((l.take k).map (·.m))) ∧ Hid (Below w.heap.size w wr)) (fun _ _ i _ => n - (intOf i).toNat)
 case atStart => exact ⟨0, 0, Nat.zero_le _, Nat.le_refl _, rfl, rfl, hide (by rfl), hide (Below.refl _ _)⟩
 case round =>
  obtain ⟨k, N, hk, hNk, rfl, rfl, HN, hbel⟩ := hrel
  have w1 : IntKind.i64.wrap ((k : Int) + 1) = (k : Int) + 1 := IntWalk.i64_in _ (by omega)
  have w2 : IntKind.i64.wrap ((N : Int) + 1) = (N : Int) + 1 := IntWalk.i64_in _ (by omega)
  by_cases hlt2 : k < n
  ·obtain ⟨b2, o, rfl, hb2, _, hc⟩ := Hc.out k hlt2
   have hnx := HNx.out k hlt2
   obtain ⟨v, hv⟩ : ∃ v, v = scrAt l k := ⟨_, rfl⟩
   rw [← hv] at hc hnx
   have gc : ∀ j, j < 8 → wr.cell? ⟨b2, o + k * 8 + j, none⟩ = (encScr v)[j]? := fun j hj => (Only.cell (Only.of_below hbel.out NoBlk) (p := ⟨b2, o + k * 8 + j, none⟩) hb2 (fun h => h)).trans (hc j hj)
   have g0 : wr.cell? ⟨b2, o + k * 8, none⟩ = some (.string v.nm) := gc 0 (by omega)
   have g1 : wr.cell? ⟨b2, o + k * 8 + 1, none⟩ = some (.int .i64 v.d) := gc 1 (by omega)
   have g2 : wr.cell? ⟨b2, o + k * 8 + 2, none⟩ = some (.int .i64 v.j) := gc 2 (by omega)
   have g3 : wr.cell? ⟨b2, o + k * 8 + 3, none⟩ = some (.slice v.A v.L.length v.c) := gc 3 (by omega)
   have g4 : wr.cell? ⟨b2, o + k * 8 + 4, none⟩ = some (.int .i64 v.line) := gc 4 (by omega)
   have g5 : wr.cell? ⟨b2, o + k * 8 + 5, none⟩ = some (.int .i64 v.x) := gc 5 (by omega)
   have g6 : wr.cell? ⟨b2, o + k * 8 + 6, none⟩ = some (.int .i64 v.y) := gc 6 (by omega)
   have g7 : wr.cell? ⟨b2, o + k * 8 + 7, none⟩ = some (.int .i64 v.err) := gc 7 (by omega)
   have d1 : decide ((k : Int) < (n : Int)) = true := by simp; exact hlt2
   have d2 : decide (k < n) = true := by simp; exact hlt2
   have j1 : (0 : Int) ≤ (k : Int) := by omega
   have j2 : (k : Int) < (n : Int) := by omega
   have HBn := hide (hbel.out.alloc hbel.out.size (.cells (encScr v).toArray 45))
   by_cases he : v.err = 0
   ·have HN2 := hide (show N + 1 = rightM ((l.take (k + 1)).map (·.m)) by rw [hnx, ← HN.out, if_pos he])
    have q1 : (v.err == 0) = true := by rw [he]; rfl
    clear hc gc hv hnx he hlt2
    go_wp2_with fail
    go_roundw
    case rel => exact ⟨k + 1, N + 1, by omega, by omega, by go_num, by go_num, HN2, HBn⟩
    case measure => simp [intOf] <;> omega
   ·have HN2 := hide (show N = rightM ((l.take (k + 1)).map (·.m)) by rw [hnx, ← HN.out, if_neg he]; rfl)
    have q1 : (v.err == 0) = false := beq_eq_false_iff_ne.2 he
    clear hc gc hv hnx he hlt2
    go_wp2_with fail
    go_roundw
    case rel => exact ⟨k + 1, N, by omega, by omega, by go_num, rfl, HN2, HBn⟩
    case measure => simp [intOf] <;> omega
  ·obtain rfl : k = n := by omega
   have HI := hide (show N = R by rw [HN.out, HR.out])
   have d1 : decide ((k : Int) < (k : Int)) = false := by simp
   have d2 : decide (k < k) = false := by simp
   go_wp2_with fail
   go_ret
   exact ⟨by rw [← HI.out]; rfl, hbel.out⟩
def live17 : List UInt8 := [115, 99, 114, 105, 112, 116, 32, 97, 32, 57, 32, 48, 10, 115, 99, 114, 105, 112, 116, 32, 98, 32, 120, 32, 48, 10, 115, 99, 114, 105, 112, 116, 32, 99, 32, 57, 32, 48, 10]
theorem live17_err : (loadM live17).2 = 0 := by decide +kernel
theorem live17_in : (loadM live17).1.map (fun s => (s.prog.name.data.toList, s.x, s.y, s.err)) = [([97], 0, 0, 0), ([], 2, 10, 2), ([99], 0, 0, 0)] := by decide +kernel
theorem live17_c (w : World) (h : Vars w) : Calls Tryz.prog 21 #[.string ⟨#[115, 99, 114, 105, 112, 116, 32, 97, 32, 57, 32, 48, 10, 115, 99, 114, 105, 112, 116, 32, 98, 32, 120, 32, 48, 10, 115, 99, 114, 105, 112, 116, 32, 99, 32, 57, 32, 48, 10]⟩] w fun e w' => (∃ b o c, e = .returned (.tuple #[.slice (some ⟨b, o, none⟩) 3 c, .int .i64 0]) ∧ w'.cell? ⟨b, o, none⟩ = some (.string ⟨#[97]⟩) ∧ w'.cell? ⟨b, o + 8 + 7, none⟩ = some (.int .i64 2) ∧ w'.cell? ⟨b, o + 8 + 5, none⟩ = some (.int .i64 2) ∧ w'.cell? ⟨b, o + 8 + 6, none⟩ = some (.int .i64 10) ∧ w'.cell? ⟨b, o + 16, none⟩ = some (.string ⟨#[99]⟩)) ∧ Only NoBlk w w' := by
 refine (Load_c ⟨live17.toArray⟩ w (by decide) h).mono ?_
 rintro e w' ⟨⟨A, c, S, rfl, hS, hr, _⟩, k⟩
 refine ⟨?_, k⟩
 have hS' : S.map (·.m) = (loadM live17).1 := hS
 have e1 := live17_in
 rw [← hS', List.map_map] at e1
 have hl : S.length = 3 := by have := congrArg List.length e1; rw [List.length_map] at this; exact this
 obtain ⟨v0, v1, v2, rfl⟩ : ∃ v0 v1 v2, S = [v0, v1, v2] := by
  match S, hl with
  | [a, b, c], _ => exact ⟨a, b, c, rfl⟩
 obtain ⟨b, o, rfl, _, _, hc0⟩ := scr_cells hr 0 (by simp)
 obtain ⟨b', o', hA, _, _, hc1⟩ := scr_cells hr 1 (by simp)
 injection hA with hA; injection hA with h1 h2; subst h1 h2
 obtain ⟨b', o', hA, _, _, hc2⟩ := scr_cells hr 2 (by simp)
 injection hA with hA; injection hA with h1 h2; subst h1 h2
 have q0 := congrArg (fun l => l[0]?) e1
 have q1 := congrArg (fun l => l[1]?) e1
 have q2 := congrArg (fun l => l[2]?) e1
 have q0' := Option.some.inj q0
 have q1' := Option.some.inj q1
 have q2' := Option.some.inj q2
 have n0 : v0.m.prog.name.data.toList = [97] := congrArg (·.1) q0'
 have n2 : v2.m.prog.name.data.toList = [99] := congrArg (·.1) q2'
 have x1 : v1.m.x = 2 := congrArg (·.2.1) q1'
 have y1 : v1.m.y = 10 := congrArg (·.2.2.1) q1'
 have r1 : v1.m.err = 2 := congrArg (·.2.2.2) q1'
 have hn : ∀ (v : ScrV) (l : List UInt8), (v.m.prog.name.data.toList) = l → v.nm = ⟨l.toArray⟩ := fun v l h => by subst h; rfl
 refine ⟨b, o, c, ?_, ?_, ?_, ?_, ?_, ?_⟩
 ·show Ending.returned (.tuple #[_, .int .i64 (loadM live17).2]) = _
  rw [live17_err]; rfl
 ·have := hc0 0 (by omega)
  simp only [Nat.zero_mul, Nat.add_zero] at this
  rw [this]
  show some (Value.string v0.nm) = _
  rw [hn v0 _ n0]
 ·have := hc1 7 (by omega)
  rw [this]
  show some (Value.int .i64 v1.err) = _
  rw [show v1.err = 2 from r1]
 ·have := hc1 5 (by omega)
  rw [this]
  show some (Value.int .i64 v1.x) = _
  rw [show v1.x = 2 from x1]
 ·have := hc1 6 (by omega)
  rw [this]
  show some (Value.int .i64 v1.y) = _
  rw [show v1.y = 10 from y1]
 ·have := hc2 0 (by omega)
  rw [show o + 16 = o + 2 * 8 + 0 by omega, this]
  show some (Value.string v2.nm) = _
  rw [hn v2 _ n2]
set_option maxRecDepth 100000 in
set_option maxHeartbeats 12800000 in
theorem lives17_c (w : World) (h : Vars w) : Calls Tryz.prog 22 #[] w fun e w' => e = .returned (.bool true) ∧ Only NoBlk w w' := by
 have H1 := hide (live17_c w h)
 clear h
 go_enter Tryz.func22, Tryz.ntmps22
 go_wp2_with fail
 refine H1.out.mono ?_
 rintro e w1 ⟨⟨b, o, c, rfl, c0, c1, c2, c3, c4⟩, k1⟩
 have K1 := hide k1
 clear k1
 have c1' : w1.cell? ⟨b, o + 15, none⟩ = some (.int .i64 2) := c1
 have c2' : w1.cell? ⟨b, o + 13, none⟩ = some (.int .i64 2) := c2
 have c3' : w1.cell? ⟨b, o + 14, none⟩ = some (.int .i64 10) := c3
 go_wp2_with fail
 go_ret
 exact ⟨rfl, K1.out⟩
end Go.Proofs.YtaioaojfdngfdaaGreatDoor
