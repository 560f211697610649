/- The scripts of a text, by the program. Conditions: those of each theorem. -/
import Derived.Test.YtaioaojfdngfdaaGreatDoorPl45
import Derived.BigRegion
set_option linter.unusedVariables false
set_option linter.unusedSimpArgs false
namespace Go.Proofs.YtaioaojfdngfdaaGreatDoor
open Go.RowKit
theorem Tryz.infoScr : (Tryz.prog.info? 45).map (fun i => (i.zero, i.size, i.bytes)) = some (some (.agg #[.string ⟨#[]⟩, .int .i64 0, .int .i64 0, .slice none 0 0, .int .i64 0, .int .i64 0, .int .i64 0, .int .i64 0]), 8, 88) := by kernel_rfl
/-- the scripts that have been read: their row, and the rows of their ops -/
structure LdAt (w : World) (B : Nat) (T : TypeId) (out : List ScrV) (v : Value) : Prop where
 own : w.ownsRow B T 8 v out.length (flat encScr out)
 inn : ∀ s ∈ out, OpsRd w (Mi B v) s.A s.L
section
variable {w w' w1 : World} {B : Nat} {T : TypeId} {out : List ScrV} {v v' : Value}
theorem LdAt.same (h : LdAt w B T out v) (q : Only NoBlk w w') : LdAt w' B T out v := ⟨own_only h.own q (fun _ _ h => h.elim), fun s hs => (h.inn s hs).only q (fun _ h => h.elim)⟩
theorem LdAt.nil (w : World) (B : Nat) (T : TypeId) : LdAt w B T [] (.slice none 0 0) := ⟨World.ownsRow_nil _ _ _ _, fun s hs => by cases hs⟩
theorem LdAt.grow {s : ScrV} {K : Nat} (h : LdAt w B T out v) (ho : w1.ownsRow B T 8 v' (out.length + 1) (flat encScr out ++ encScr s)) (hg : w.grownBy w1 v.ownBlock)
 (hv : v'.ownBlock = v.ownBlock ∨ v'.ownBlock = some w.heap.size) (hs : OpsRd w (· < K) s.A s.L) (hB : B ≤ K) (hK : ∀ k, v.ownBlock = some k → k < K) : LdAt w1 B T (out ++ [s]) v' := by
 refine ⟨by rw [flat_snoc, List.length_append]; exact ho, fun x hx => ?_⟩
 have hm : ∀ (y : ScrV), OpsRd w (Mi B v) y.A y.L → OpsRd w1 (Mi B v') y.A y.L := fun y hy => ⟨inn_step hy.1 hg hv, fun z hz => inn_step (hy.2 z hz) hg hv⟩
 rcases List.mem_append.1 hx with hx | hx
 ·exact hm x (h.inn x hx)
 ·rw [List.mem_singleton] at hx
  subst hx
  refine hm x (hs.monoP fun b hb => ?_)
  rcases hb with hb | hb
  ·exact Nat.lt_of_lt_of_le hb hB
  ·exact hK b hb
end
def part0 : PartV := ⟨0, none, 0, []⟩
theorem readAll_at (V : List PartV) (k : Nat) (h : k < V.length) (o : List ScrM) : readAll ((V.drop k).map (·.m)) o = readAll ((V.drop (k + 1)).map (·.m)) (o ++ [readM (V.getD k part0).m o]) := by
 have e : V.getD k part0 = V[k] := by simp [List.getD, h]
 rw [List.drop_eq_getElem_cons h, e]
 rfl
theorem part_cells {w : World} {M : Nat → Prop} {A : Option Addr} {l : List PartV} (hr : Rd w M A (flat encPart l)) (k : Nat) (hk : k < l.length) : ∃ b o, A = some ⟨b, o, none⟩ ∧ b < w.heap.size ∧ ¬ M b ∧ w.cell? ⟨b, o + k * 2, none⟩ = some (.int .i64 ((l.getD k part0).line : Nat)) ∧ w.cell? ⟨b, o + k * 2 + 1, none⟩ = some (.slice (l.getD k part0).A (l.getD k part0).l.length (l.getD k part0).c) := by
 have e : l[k]? = some (l.getD k part0) := by simp [List.getD, hk]
 obtain ⟨b, o, hA, hm, hb, hc⟩ := flat_cells encPart_len hr k _ e (by omega)
 exact ⟨b, o, hA, hb, hm, hc 0 (by omega), hc 1 (by omega)⟩
set_option maxRecDepth 100000 in
set_option maxHeartbeats 25600000 in
theorem Load_c (s : ByteArray) (w : World) (hs : s.size ≤ 900000) (hvars : Vars w) : Calls Tryz.prog 21 #[.string s] w fun e w' => (∃ (A : Option Addr) (c : Nat) (S : List ScrV), e = .returned (.tuple #[.slice A S.length c, .int .i64 (loadM s.data.toList).2]) ∧ S.map (·.m) = (loadM s.data.toList).1 ∧ Rd w' (· < w.heap.size) A (flat encScr S) ∧ ∀ v ∈ S, OpsRd w' (· < w.heap.size) v.A v.L) ∧ Only NoBlk w w' := by
 have hsl : s.data.toList.length = s.size := by simp
 by_cases hz : 40000 < s.size
 case pos =>
  have HL := hide (show loadM s.data.toList = ([], 4) by unfold loadM; rw [if_pos (by omega)])
  have d1 : decide ((40000 : Int) < (s.size : Int)) = true := by simp; omega
  have d2 : decide (40000 < s.size) = true := by simp; omega
  obtain ⟨R, hR⟩ : ∃ R, R = loadM s.data.toList := ⟨_, rfl⟩
  rw [← hR] at HL ⊢
  clear hR hz
  go_enter Tryz.func21, Tryz.ntmps21
  go_wp2_with fail
  refine bodyPost_ret (v := .tuple #[.slice none 0 0, .int .i64 4]) (by simp [results, Tryz.results21, go_sem]; try rfl) rfl ?_
  exact ⟨⟨none, 0, [], by rw [HL.out]; rfl, by rw [HL.out]; rfl, Or.inl rfl, fun v hv => (by cases hv)⟩, Only.refl _ _⟩
 case neg =>
  have d1 : decide ((40000 : Int) < (s.size : Int)) = false := by simp; omega
  have d2 : decide (40000 < s.size) = false := by simp; omega
  have HCu := hide (cut_c s w (by omega) hvars.len)
  have HCz := hide (fun (q : PartM) (h : q ∈ cutM s.data.toList) => (show szP q.l ≤ 50000 ∧ q.line ≤ 50000 by have := cutM_sz _ q h; omega))
  have HL := hide (show loadM s.data.toList = if 64 < (cutM s.data.toList).length then ([], 4) else (readAll (cutM s.data.toList) [], 0) by unfold loadM; rw [if_neg (by omega)])
  have HVr := hide hvars
  obtain ⟨C, hC⟩ : ∃ C, C = cutM s.data.toList := ⟨_, rfl⟩
  obtain ⟨R, hR⟩ : ∃ R, R = loadM s.data.toList := ⟨_, rfl⟩
  rw [← hC] at HCu HCz HL
  rw [← hR] at HL ⊢
  clear hR hC hz hsl hs hvars
  obtain ⟨i0, hi, hz0, hz1, hz2⟩ := info_parts Tryz.infoScr
  go_enter Tryz.func21, Tryz.ntmps21
  go_wp2_with fail
  refine HCu.out.mono ?_
  rintro e W ⟨⟨A, c, V, rfl, hV, hr, hi2⟩, k0⟩
  have HK0 := hide k0
  have HRd := hide hr
  have HIn := hide hi2
  have HVm := hide hV
  have hVl : C.length = V.length := by rw [← hV]; simp
  obtain ⟨n, hn⟩ : ∃ n, n = V.length := ⟨_, rfl⟩
  rw [← hn] at hVl ⊢
  clear k0 hr hi2 hV
  by_cases h64 : 64 < n
  case pos =>
   have e1 : decide ((64 : Int) < (n : Int)) = true := by simp; omega
   have e2 : decide (64 < n) = true := by simp; omega
   have HR := hide (show R = ([], 4) by rw [HL.out, if_pos (by omega)])
   clear h64 hn
   go_wp2_with fail
   refine bodyPost_ret (v := .tuple #[.slice none 0 0, .int .i64 4]) (by simp [results, Tryz.results21, go_sem]; try rfl) rfl ?_
   exact ⟨⟨none, 0, [], by rw [HR.out]; rfl, by rw [HR.out]; rfl, Or.inl rfl, fun v hv => (by cases hv)⟩, HK0.out⟩
  case neg =>
   have e1 : decide ((64 : Int) < (n : Int)) = false := by simp; omega
   have e2 : decide (64 < n) = false := by simp; omega
   have HR := hide (show R = (readAll (V.map (·.m)) [], 0) by rw [HL.out, if_neg (by omega), HVm.out])
   have HMem := hide (fun (k : Nat) (h : k < n) => (show V.getD k part0 ∈ V ∧ (V.getD k part0).m ∈ C by
    have e : V.getD k part0 = V[k]'(by omega) := by simp [List.getD, show k < V.length by omega]
    rw [e, ← HVm.out]
    exact ⟨List.getElem_mem _, List.mem_map.2 ⟨_, List.getElem_mem _, rfl⟩⟩))
   have HStp := hide (fun (k : Nat) (h : k < n) (o : List ScrM) => readAll_at V k (by omega) o)
   have HCl := hide (fun (k : Nat) (h : k < n) => part_cells HRd.out k (by omega))
   have HDr := hide (show V.drop n = [] by rw [hn, List.drop_length])
   obtain ⟨B, hB⟩ : ∃ B, B = W.heap.size := ⟨_, rfl⟩
   have HBw := hide hB
   have hn64 : n ≤ 64 := by omega
   clear hn hVl h64 hB HL HCu HVm
   go_wp2_with fail
   go_loopw [4, 7, 18] (fun v _ i wr => ∃ (k : Nat) (out : List ScrV), k ≤ n ∧ out.length = k ∧ i = .int .i64 k ∧ Hid (LdAt wr B 45 out v) ∧ Hid (readAll (V.map (·.m)) [] = readAll ((V.drop k).map (·.m)) (out.map (·.m))) ∧ Hid (Only (B ≤ ·) W wr)) (fun _ _ i _ => n - (intOf i).toNat)
   case atStart => exact ⟨0, [], Nat.zero_le _, rfl, rfl, hide (LdAt.nil _ _ _), hide rfl, hide (Only.refl _ _)⟩
   case round =>
    obtain ⟨k, out, hk, hok, rfl, HA, HE, HK⟩ := hrel
    obtain ⟨VA, vc, rfl, hvc⟩ := own_cap HA.out.own
    have w1 : IntKind.i64.wrap ((k : Int) + 1) = (k : Int) + 1 := IntWalk.i64_in _ (by omega)
    by_cases hlt : k < n
    case pos =>
     obtain ⟨b, o, rfl, hb, _, g0, g1⟩ := HCl.out k hlt
     obtain ⟨hm1, hm2⟩ := HMem.out k hlt
     obtain ⟨hz3, hz4⟩ := HCz.out _ hm2
     obtain ⟨hi3, hi4⟩ := HIn.out _ hm1
     have hs1 := HStp.out k hlt (out.map (·.m))
     obtain ⟨q, hq⟩ : ∃ q, q = V.getD k part0 := ⟨_, rfl⟩
     rw [← hq] at g0 g1 hz3 hz4 hi3 hi4 hs1
     have HE2 := hide (HE.out.trans hs1)
     clear hq hm1 hm2 hs1 HE
     obtain ⟨ln, qA, qc, l⟩ := q
     simp only at g0 g1 hi3 hi4
     have hbB : b < B := by have := HBw.out; omega
     replace g0 := okeep HK.out (fun h : B ≤ b => by omega) g0
     replace g1 := okeep HK.out (fun h : B ≤ b => by omega) g1
     have d3 : decide ((k : Int) < (n : Int)) = true := by simp; exact hlt
     have d4 : decide (k < n) = true := by simp; exact hlt
     have j1 : (0 : Int) ≤ (k : Int) := by omega
     have j2 : (k : Int) < (n : Int) := by omega
     have HWw := hide (show Only NoBlk w wr from HK0.out.fresh HK.out (fun i _ h => Or.inr (by have h' : B ≤ i := h; have := HBw.out; have := HK0.out.size; omega)))
     obtain ⟨X, hX⟩ : ∃ X, X = wr.alloc (.cells #[.int .i64 (ln : Nat), .slice qA l.length qc] 100) := ⟨_, rfl⟩
     have HXw := hide (show Only NoBlk wr X by rw [hX]; exact (Only.refl _ wr).alloc _)
     have HXb := hide (show Blk X wr.heap.size 100 #[.int .i64 (ln : Nat), .slice qA l.length qc] by rw [hX]; exact Blk.new _ _ _)
     have HA2 := hide (HA.out.same HXw.out)
     have HRq := hide (show Rd X NoBlk qA (flat encLn l) from (rd_step (M' := NoBlk) hi3 HK.out (fun i hb h => by have h' : B ≤ i := h; have := HBw.out; omega) (fun i h => h.elim)).only HXw.out (fun _ h => h))
     have HCall := hide (pread_c ln qA qc l VA vc out X HRq.out hi4 hz3 hz4 (Rd.of_own HA2.out.own (fun b h => h.elim)) (by omega) (HVr.out.only (HWw.out.trans HXw.out)))
     rw [hok] at HCall
     have hXs : wr.heap.size + 1 = X.heap.size := by rw [hX]; simp
     have HX := hide hX
     clear hX hi3 hi4 hz3 hz4 HRq hbB
     obtain ⟨p0, p1⟩ := HXb.out.two
     go_upto_region 10 with fail
     rw [← HX.out]
     go_wp2_with fail
     refine HCall.out.mono ?_
     rintro e W2 ⟨⟨v, rfl, hvm, hvo⟩, k2⟩
     have HVm2 := hide hvm
     have HVo := hide hvo
     have HA3 := hide (HA2.out.same k2)
     have HK2 := hide ((HK.out.trans (HXw.out.none _)).trans (k2.none _))
     have hX2 := hide (show Rd (W2.alloc (.cells (encScr v).toArray 45)) NoBlk (some ⟨W2.heap.size, 0, none⟩) (encScr v) from rd_blkN (Blk.new _ _ _) (fun h => h))
     have HA4 := hide (HA3.out.same ((Only.refl _ W2).alloc (.cells (encScr v).toArray 45)))
     have HVo4 := hide (hvo.only ((Only.refl NoBlk W2).alloc (.cells (encScr v).toArray 45)) (fun _ h => h.elim))
     have hBs : B ≤ W2.heap.size := by have := HBw.out; have := HK2.out.size; omega
     have hBX : B ≤ X.heap.size := by have := HBw.out; have := HK.out.size; omega
     have hVX : ∀ j, (Value.slice VA out.length vc).ownBlock = some j → j < X.heap.size := fun j hj => own_newer HA2.out.own hj
     have hBa : B ≤ (W2.alloc (.cells (encScr v).toArray 45)).heap.size := by simp; omega
     clear hvm hvo k2 p0 p1 g0 g1
     obtain ⟨nm, dd, jj, A2, c2, L2, ln2, x2, y2, er⟩ := v
     simp only [encScr]
     have Hok := hide hok
     have hok2 : out.length ≤ 64 := by omega
     clear hok
     go_wp2_with (at_builtin; refine wpList_append_rd _ rfl (.tmp 22) (.tmp 26) _ rfl B 45 i0 (.agg #[.string ⟨#[]⟩, .int .i64 0, .int .i64 0, .slice none 0 0, .int .i64 0, .int .i64 0, .int .i64 0, .int .i64 0]) 8 88 Tryz.underlying41 hi hz0 hz1 hz2 rfl (by omega) (.slice VA k vc) out.length (flat encScr out) rfl (by rw [← Hok.out]; exact HA4.out.own) NoBlk (some ⟨W2.heap.size, 0, none⟩) 1 1 (encScr ⟨nm, dd, jj, A2, c2, L2, ln2, x2, y2, er⟩) rfl hX2.out rfl (encScr_one _) (by simp only [maxLen]; omega) (by omega) hBa ?_; intro v5 w5 hown5 hgr5 hv5; have Own5 := hide hown5; have Gr5 := hide hgr5; have Hv5 := hide hv5; clear hown5 hgr5 hv5)
     rw [← Hok.out] at Gr5 Hv5
     have HA5 := hide (HA4.out.grow Own5.out Gr5.out Hv5.out HVo4.out hBX hVX)
     have HE3 := hide (show readAll (V.map (·.m)) [] = readAll ((V.drop (k + 1)).map (·.m)) ((out ++ [(⟨nm, dd, jj, A2, c2, L2, ln2, x2, y2, er⟩ : ScrV)]).map (·.m)) by
      have e : readM (PartV.m ⟨ln, qA, qc, l⟩) (out.map (·.m)) = ScrV.m ⟨nm, dd, jj, A2, c2, L2, ln2, x2, y2, er⟩ := HVm2.out.symm
      rw [HE2.out, List.map_append, e]
      rfl)
     have HK5 := hide ((HK2.out.alloc (.cells (encScr (⟨nm, dd, jj, A2, c2, L2, ln2, x2, y2, er⟩ : ScrV)).toArray 45)).grown Gr5.out (fun j hj => Or.inl (own_ge HA4.out.own j hj)))
     clear Own5 Gr5 Hv5 HA4 HA3 HA2 HVo4 HVo HVm2 hX2 HK2 HE2
     go_roundw
     case rel => exact ⟨k + 1, out ++ [⟨nm, dd, jj, A2, c2, L2, ln2, x2, y2, er⟩], by omega, by have := Hok.out; simp; omega, by go_num, HA5, HE3, HK5⟩
     case measure => simp [intOf]; omega
    case neg =>
     obtain rfl : n = k := by omega
     have d3 : decide ((n : Int) < (n : Int)) = false := by simp
     have d4 : decide (n < n) = false := by simp
     have HEE := hide (show R = (out.map (·.m), 0) by rw [HR.out, HE.out, HDr.out]; rfl)
     have hsz : w.heap.size ≤ B := by have := HBw.out; have := HK0.out.size; omega
     have HOk := hide (show Only NoBlk w wr from HK0.out.fresh HK.out (fun i _ h => Or.inr (by have h' : B ≤ i := h; omega)))
     have HRo := hide (show Rd wr (· < w.heap.size) VA (flat encScr out) from Rd.of_own HA.out.own (fun j hj => Nat.lt_of_lt_of_le hj hsz))
     have HIo := hide (show ∀ v ∈ out, OpsRd wr (· < w.heap.size) v.A v.L from fun v hv => (HA.out.inn v hv).monoP (fun b hb => Or.inl (Nat.lt_of_lt_of_le hb hsz)))
     clear hok HA HE HR
     go_wp2_with fail
     refine bodyPost_ret (v := .tuple #[.slice VA out.length vc, .int .i64 0]) (by simp [results, Tryz.results21, go_sem]; try rfl) rfl ?_
     exact ⟨⟨VA, vc, out, by rw [HEE.out], by rw [HEE.out], HRo.out, HIo.out⟩, HOk.out⟩
end Go.Proofs.YtaioaojfdngfdaaGreatDoor
