/- Parts of a chain of lemmas: Comp, Check, Prg1, Prg2. Conditions: those of each theorem. -/
import Derived.Test.YtaioaojfdngfdaaGreatDoorNb12
import Derived.BigRegion
import Derived.Test.YtaioaojfdngfdaaGreatDoorNb01
import Derived.Laws.StructEq
set_option linter.unusedVariables false
set_option linter.unusedSimpArgs false
namespace Go.Proofs.YtaioaojfdngfdaaGreatDoor
open Go.RowKit
/-- whether a byte is in a set, whichever -/
def RetBool (w : World) (e : Ending) (w' : World) : Prop := ∃ v : Bool, e = .returned (.bool v) ∧ Below w.heap.size w w'
set_option maxRecDepth 100000 in
set_option maxHeartbeats 1600000 in
theorem has_c (a b c d : Int) (x : Nat) (w : World) (hx : x < 256) : Calls Tryz.prog 239 #[.agg #[.int .u64 a, .int .u64 b, .int .u64 c, .int .u64 d], .int .u8 x] w (RetBool w) := by
 have hr1 : Int.tmod (x : Int) 64 = ((x % 64 : Nat) : Int) := by rw [Int.tmod_eq_emod_of_nonneg (by omega)]; omega
 have hr2 : (x : Int) % 64 = ((x % 64 : Nat) : Int) := by omega
 have hr3 : x % 64 < 64 := Nat.mod_lt _ (by omega)
 have h4 : x / 64 = 0 ∨ x / 64 = 1 ∨ x / 64 = 2 ∨ x / 64 = 3 := by omega
 rcases h4 with h4 | h4 | h4 | h4
 all_goals
  have hq1 : Int.tdiv (x : Int) 64 = ((x / 64 : Nat) : Int) := by rw [Int.tdiv_eq_ediv_of_nonneg (by omega)]; omega
  have hq2 : (x : Int) / 64 = ((x / 64 : Nat) : Int) := by omega
  rw [h4] at hq1 hq2
  clear h4
  obtain ⟨r, hr⟩ : ∃ r, r = x % 64 := ⟨_, rfl⟩
  rw [← hr] at hr1 hr2 hr3
  clear hr
  go_enter Tryz.func239, Tryz.ntmps239
  go_wp2
  go_ret
  exact ⟨_, rfl, below_alloc _ _⟩
set_option maxRecDepth 100000 in
set_option maxHeartbeats 1600000 in
theorem Has_c (a b c d : Int) (x : Nat) (w : World) (hx : x < 256) : Calls Tryz.prog 226 #[.agg #[.int .u64 a, .int .u64 b, .int .u64 c, .int .u64 d], .int .u8 x] w (RetBool w) := by
 have HS := hide (fun (w' : World) => has_c a b c d x w' hx)
 clear hx
 go_enter Tryz.func226, Tryz.ntmps226
 go_wp2_with fail
 refine (HS.out _).mono ?_
 rintro e w2 ⟨v, rfl, hb⟩
 go_wp2_with fail
 go_ret
 exact ⟨v, rfl, (below_alloc _ _).trans (hb.mono (by simp))⟩
/-- a table under way: 256 words behind its two first cells -/
def TAt (w : World) (g : Nat) : Prop := ∃ cs, Blk w g 298 cs ∧ cs.size = 258 ∧ ∀ j, 1 ≤ j → j < 258 → ∃ x : Int, cs[j]? = some (.int .u64 x)
theorem TAt.set {w : World} {g : Nat} (h : TAt w g) (j : Nat) (x : Int) : TAt (w.setCell ⟨g, j, none⟩ (.int .u64 x)) g := by
 obtain ⟨cs, hb, hs, hc⟩ := h
 refine ⟨cs.setIfInBounds j (.int .u64 x), hb.set_ j _, by simpa using hs, fun i h1 h2 => ?_⟩
 by_cases e : j = i
 ·subst e
  exact ⟨x, by rw [Array.getElem?_setIfInBounds_self_of_lt (by omega)]⟩
 ·rw [Array.getElem?_setIfInBounds_ne e]
  exact hc i h1 h2
theorem TAt.only {S : Nat → Prop} {w w' : World} {g : Nat} (h : TAt w g) (k : Only S w w') (hg : ¬ S g) : TAt w' g := by
 obtain ⟨cs, hb, hr⟩ := h
 exact ⟨cs, hb.only k hg, hr⟩
theorem TAt.cell {w : World} {g : Nat} (h : TAt w g) (j : Nat) (h1 : 1 ≤ j) (h2 : j < 258) : ∃ x : Int, w.cell? ⟨g, j, none⟩ = some (.int .u64 x) := by
 obtain ⟨cs, hb, hs, hc⟩ := h
 obtain ⟨x, hx⟩ := hc j h1 h2
 exact ⟨x, by rw [hb.cell]; exact hx⟩
theorem TAt.frozen {w : World} {g : Nat} (h : TAt w g) (j : Nat) : w.frozen? ⟨g, j, none⟩ = false := by
 obtain ⟨cs, hb, _⟩ := h
 exact hb.frozen j
theorem TAt.lt {w : World} {g : Nat} (h : TAt w g) : g < w.heap.size := by
 obtain ⟨cs, hb, _⟩ := h
 exact hb.lt
theorem zero_table : Tryz.zeroCells298 = ((.int .i64 0 : Value) :: List.replicate 257 (.int .u64 0)).toArray := by kernel_rfl
set_option maxRecDepth 100000 in
theorem table_new (w : World) (v : Value) : TAt (w.alloc (.cells (Tryz.zeroCells298.setIfInBounds 0 v) 298)) w.heap.size := by
 refine ⟨_, Blk.new _ _ _, by rw [zero_table]; simp, fun j h1 h2 => ⟨0, ?_⟩⟩
 rw [zero_table, Array.getElem?_setIfInBounds_ne (by omega)]
 obtain ⟨i, rfl⟩ : ∃ i, j = i + 1 := ⟨j - 1, by omega⟩
 rw [List.getElem?_toArray, List.getElem?_cons_succ, List.getElem?_replicate, if_pos (by omega)]
set_option maxRecDepth 100000 in
set_option maxHeartbeats 6400000 in
theorem Compile_c (A : Option Addr) (c_ : Nat) (l : List ItM) (w : World) (hr : Rd w NoBlk A (flat encIt l)) (hn : l.length ≤ 60) (hok : ∀ x ∈ l, ItOk x) :
 Calls Tryz.prog 208 #[.slice A l.length c_] w fun e w' => ∃ p : Option Addr, e = .returned (.tuple #[.pointer p, .int .i64 (if (l.map (·.run)).all id = true then 9 else 0)]) ∧ Below w.heap.size w w' := by
 have HG := hide (Good_c NoBlk A c_ l w hr hn hok)
 have HE := hide (fun (w' : World) (h : Rd w' NoBlk A (flat encIt l)) => Empty_c NoBlk A c_ l w' h hn)
 have HR := hide hr
 have HOK := hide hok
 obtain ⟨n, hnl⟩ : ∃ n, n = l.length := ⟨_, rfl⟩
 rw [← hnl] at HG HE hn ⊢
 have HN := hide hnl
 clear hr hok hnl
 cases hall : (l.map (·.run)).all id with
 | true =>
  rw [hall] at HE
  rw [if_pos rfl]
  clear hall
  go_enter Tryz.func208, Tryz.ntmps208
  go_wp2_with fail
  refine HG.out.mono ?_
  rintro e w2 ⟨rfl, hb2⟩
  have HB2 := hide hb2
  have HR2 := hide (HR.out.below hb2)
  clear hb2
  go_wp2_with fail
  refine (HE.out _ HR2.out).mono ?_
  rintro e w3 ⟨rfl, hb3⟩
  have HB3 := hide (HB2.out.trans (hb3.mono HB2.out.size))
  clear hb3
  go_wp2_with fail
  refine bodyPost_ret (v := .tuple #[.pointer none, .int .i64 9]) (by simp [results, Tryz.results208, go_sem]) rfl ?_
  exact ⟨none, rfl, HB3.out⟩
 | false =>
  rw [hall] at HE
  rw [if_neg (by simp)]
  clear hall
  go_enter Tryz.func208, Tryz.ntmps208
  go_wp2_with fail
  refine HG.out.mono ?_
  rintro e w2 ⟨rfl, hb2⟩
  have HB2 := hide hb2
  have HR2 := hide (HR.out.below hb2)
  clear hb2
  go_wp2_with fail
  refine (HE.out _ HR2.out).mono ?_
  rintro e w3 ⟨rfl, hb3⟩
  have HB3 := hide (HB2.out.trans (hb3.mono HB2.out.size))
  have HR3 := hide (HR2.out.below hb3)
  clear hb3
  go_upto_region 6 with fail
  obtain ⟨W, hW⟩ : ∃ W, W = w3.alloc (.cells (Tryz.zeroCells298.setIfInBounds 0 (.int .i64 n)) 298) := ⟨_, rfl⟩
  have HT := hide (show TAt W w3.heap.size by rw [hW]; exact table_new w3 _)
  have HBW := hide (show Below w3.heap.size w3 W by rw [hW]; exact below_alloc _ _)
  rw [← hW]
  clear hW HE HG HR HR2
  go_wp2_with fail
  go_loopw [22] (fun i wr => ∃ k : Nat, k ≤ n ∧ i = .int .i64 k ∧ Hid (TAt wr w3.heap.size) ∧ Hid (Below w3.heap.size w3 wr)) (fun i _ => n - (intOf i).toNat)
  case atStart => exact ⟨0, Nat.zero_le _, rfl, HT, HBW⟩
  case round =>
   clear HT HBW W
   obtain ⟨k, hk, rfl, HT, HBr⟩ := hrel
   by_cases hlt : k < n
   ·obtain ⟨b, o, rfl, hb, g0, g1, g2, g3, g4⟩ := it_cells (HR3.out.below HBr.out) k (by rw [← HN.out]; exact hlt)
    obtain ⟨x, hx⟩ : ∃ x, x = itAt l k := ⟨_, rfl⟩
    rw [← hx] at g0 g1 g2 g3 g4
    clear hx
    obtain ⟨xr, xa, xb, xc, xd⟩ := x
    have j1 : (0 : Int) ≤ (k : Int) := by omega
    have j2 : (k : Int) < (n : Int) := by omega
    have d1 : decide ((k : Int) < (n : Int)) = true := by simp; exact hlt
    have d2 : decide (k < n) = true := by simp; exact hlt
    have w1 : IntKind.i64.wrap ((k : Int) + 1) = (k : Int) + 1 := IntWalk.i64_in _ (by omega)
    have hlt3 := HT.out.lt
    go_upto_region 9 with fail
    obtain ⟨wa, hwa⟩ : ∃ wa, wa = wr.alloc (.cells #[.bool xr, .int .u64 xa, .int .u64 xb, .int .u64 xc, .int .u64 xd] 253) := ⟨_, rfl⟩
    have HTa := hide (show TAt wa w3.heap.size by rw [hwa]; exact TAt.only (S := fun _ => False) HT.out ((Only.refl _ wr).alloc _) (fun h => h))
    have HBa := hide (show Below w3.heap.size w3 wa by rw [hwa]; exact HBr.out.alloc HBr.out.size _)
    have HIa := hide (show Blk wa wr.heap.size 253 #[.bool xr, .int .u64 xa, .int .u64 xb, .int .u64 xc, .int .u64 xd] by rw [hwa]; exact Blk.new wr 253 _)
    have hga : ¬ w3.heap.size = wr.heap.size := by omega
    have hga2 : ¬ wr.heap.size = w3.heap.size := by omega
    have hra : wr.heap.size < wa.heap.size := HIa.out.lt
    rw [← hwa]
    clear hwa HT HBr hlt3 g0 g1 g2 g3 g4
    obtain ⟨⟨g0, g1, g2, g3, g4⟩, _⟩ := HIa.out.five
    go_upto_if 31 with fail
    go_cut [] from 32 to 39 (fun wx => Hid (TAt wx w3.heap.size) ∧ Hid (Below w3.heap.size w3 wx) ∧ Hid (Blk wx wr.heap.size 253 #[.bool xr, .int .u64 xa, .int .u64 xb, .int .u64 xc, .int .u64 xd]))
    case first =>
     cases xr with
     | true =>
      obtain ⟨y, hy⟩ := HTa.out.cell 1 (by omega) (by omega)
      have hf := HTa.out.frozen 1
      go_wp2_with fail
      go_meet
      exact ⟨hide (HTa.out.set 1 _), hide (HBa.out.setCell (Nat.le_refl _) _), hide (HIa.out.only ((Only.refl (· = w3.heap.size) wa).setCell (Or.inl rfl) _) hga2)⟩
     | false =>
      go_wp2_with fail
      go_meet
      exact ⟨HTa, HBa, HIa⟩
    case rest =>
     obtain ⟨HTc, HBc, HIc⟩ := hcut
     clear HTa HBa HIa g0 g1 g2 g3 g4 hra
     go_wp2_with fail
     go_loopw [40] (fun i wq => ∃ q : Nat, q ≤ 256 ∧ i = .int .i64 q ∧ Hid (TAt wq w3.heap.size) ∧ Hid (Below w3.heap.size w3 wq) ∧ Hid (Blk wq wr.heap.size 253 #[.bool xr, .int .u64 xa, .int .u64 xb, .int .u64 xc, .int .u64 xd])) (fun i _ => 256 - (intOf i).toNat)
     case atStart => exact ⟨0, by omega, rfl, HTc, HBc, HIc⟩
     case round =>
      clear HTc HBc HIc
      obtain ⟨q, hq, rfl, HTq, HBq, HIq⟩ := hrel
      obtain ⟨⟨g0, g1, g2, g3, g4⟩, _⟩ := HIq.out.five
      by_cases hlq : q < 256
      ·have e1 : decide ((q : Int) < 256) = true := by simp; omega
       have e2 : decide (q < 256) = true := by simp; omega
       have e3 : IntKind.u8.wrap (q : Int) = (q : Int) := by
        have : IntKind.u8.wrap (q : Int) = (q : Int) % 256 := rfl
        omega
       have e4 : IntKind.i64.wrap ((q : Int) + 1) = (q : Int) + 1 := IntWalk.i64_in _ (by omega)
       have HH := hide (fun (w' : World) => Has_c xa xb xc xd q w' hlq)
       go_wp2_with fail
       refine (HH.out _).mono ?_
       rintro e w5 ⟨v, rfl, hb5⟩
       have HT5 := hide (TAt.only (S := fun _ => False) HTq.out (Only.of_below hb5 _) (fun h => h))
       have HB5 := hide (HBq.out.trans (hb5.mono HBq.out.size))
       have HI5 := hide (HIq.out.below hb5)
       clear hb5 HTq HBq HIq g0 g1 g2 g3 g4
       cases v with
       | false =>
        go_wp2_with fail
        go_roundw
        case rel => exact ⟨q + 1, by omega, by go_num, HT5, HB5, HI5⟩
        case measure => simp [intOf]; omega
       | true =>
        obtain ⟨y, hy⟩ := HT5.out.cell (2 + q) (by omega) (by omega)
        have hf := HT5.out.frozen (2 + q)
        have e5 : (0 : Int) ≤ (q : Int) := by omega
        have e6 : (q : Int) < 256 := by omega
        go_upto_region 16 with fail
        go_region
        go_wp2_with fail
        go_roundw
        case rel => exact ⟨q + 1, by omega, by go_num, hide (TAt.only (S := fun _ => False) (HT5.out.set (2 + q) _) ((Only.refl _ _).drew) (fun h => h)), hide (below_dr (HB5.out.setCell (Nat.le_refl _) _)), hide (Blk.drew (HI5.out.only ((Only.refl (· = w3.heap.size) w5).setCell (Or.inl rfl) _) hga2))⟩
        case measure => simp [intOf]; omega
      ·obtain rfl : q = 256 := by omega
       go_wp2_with fail
       go_roundw
       case rel => exact ⟨k + 1, by omega, by go_num, HTq, HBq⟩
       case measure => simp [intOf]; omega
   ·obtain rfl : k = n := by omega
    have d1 : decide ((k : Int) < (k : Int)) = false := by simp
    have d2 : decide (k < k) = false := by simp
    go_wp2_with fail
    refine bodyPost_ret (v := .tuple #[.pointer (some ⟨w3.heap.size, 0, none⟩), .int .i64 0]) (by simp [results, Tryz.results208, go_sem]) rfl ?_
    exact ⟨_, rfl, HB3.out.trans (HBr.out.mono HB3.out.size)⟩
set_option maxRecDepth 100000 in
set_option maxHeartbeats 3200000 in
theorem acompile_c (s : ByteArray) (w : World) (hs : s.size ≤ 9223372036854775807) : Calls Tryz.prog 181 #[.string s] w fun e w' =>
 ∃ p : Option Addr, e = .returned (.tuple #[.pointer p, .int .i64 (checkS s.data.toList).1, .int .i64 (checkS s.data.toList).2]) ∧ Only NoBlk w w' := by
 have HP := hide (Parse_c s w hs)
 obtain ⟨L, hL⟩ : ∃ L, L = s.data.toList := ⟨_, rfl⟩
 rw [← hL] at HP ⊢
 clear hL
 go_enter Tryz.func181, Tryz.ntmps181
 go_wp2_with fail
 refine HP.out.mono ?_
 rintro e w2 ⟨A, c, its, rfl, hm, hok, hl, hr, ho⟩
 have HC := hide (Compile_c A c its w2 hr hl hok)
 have HO := hide ho
 by_cases hb : (parsesS 0 L).2.2 = 0
 ·have hm' := hm hb
  rw [hm'] at HC
  have HQ := hide (show checkS L = if (parsesS 0 L).1.all id = true then (0, 9) else (0, 0) by unfold checkS; rw [if_neg (by simp [hb])])
  obtain ⟨n, hn⟩ : ∃ n, n = its.length := ⟨_, rfl⟩
  rw [← hn] at HC ⊢
  rw [hb]
  clear hm hm' hok hl hr ho hb hn
  cases hall : (parsesS 0 L).1.all id with
  | true =>
   rw [hall] at HC HQ
   rw [if_pos rfl] at HC HQ
   clear hall
   go_wp2_with fail
   refine HC.out.mono ?_
   rintro e w3 ⟨p, rfl, hb3⟩
   have HO3 := hide (HO.out.trans (Only.of_below hb3 _))
   clear hb3
   go_wp2_with fail
   refine bodyPost_ret (v := .tuple #[.pointer p, .int .i64 0, .int .i64 9]) (by simp [results, Tryz.results181, go_sem]) rfl ?_
   rw [HQ.out]
   exact ⟨p, rfl, HO3.out⟩
  | false =>
   rw [hall] at HC HQ
   rw [if_neg (by simp)] at HC HQ
   clear hall
   go_wp2_with fail
   refine HC.out.mono ?_
   rintro e w3 ⟨p, rfl, hb3⟩
   have HO3 := hide (HO.out.trans (Only.of_below hb3 _))
   clear hb3
   go_wp2_with fail
   refine bodyPost_ret (v := .tuple #[.pointer p, .int .i64 0, .int .i64 0]) (by simp [results, Tryz.results181, go_sem]) rfl ?_
   rw [HQ.out]
   exact ⟨p, rfl, HO3.out⟩
 ·have HQ := hide (show checkS L = (parsesS 0 L).2 by unfold checkS; rw [if_pos hb])
  obtain ⟨r0, a0, b0, h3⟩ : ∃ r0 a0 b0, parsesS 0 L = (r0, a0, b0) := ⟨_, _, _, rfl⟩
  rw [h3] at HQ hb ⊢
  simp only at HQ hb ⊢
  have hbe : ((b0 : Int) != 0) = true := by simp only [bne_iff_ne, ne_eq]; omega
  clear h3 hm hb HC
  go_wp2_with fail
  refine bodyPost_ret (v := .tuple #[.pointer none, .int .i64 a0, .int .i64 b0]) (by simp [results, Tryz.results181, go_sem]) rfl ?_
  rw [HQ.out]
  exact ⟨none, rfl, HO.out⟩
set_option maxRecDepth 100000 in
set_option maxHeartbeats 3200000 in
theorem Check_c (s : ByteArray) (w : World) (hs : s.size ≤ 9223372036854775807) : Calls Tryz.prog 147 #[.string s] w fun e w' =>
 e = .returned (.tuple #[.int .i64 (checkS s.data.toList).1, .int .i64 (checkS s.data.toList).2]) ∧ Only NoBlk w w' := by
 have HP := hide (acompile_c s w hs)
 obtain ⟨a0, b0, h3⟩ : ∃ a0 b0, checkS s.data.toList = (a0, b0) := ⟨_, _, rfl⟩
 rw [h3] at HP ⊢
 clear h3
 go_enter Tryz.func147, Tryz.ntmps147
 go_wp2_with fail
 refine HP.out.mono ?_
 rintro e w2 ⟨p, rfl, ho⟩
 go_wp2_with fail
 refine bodyPost_ret (v := .tuple #[.int .i64 a0, .int .i64 b0]) (by simp [results, Tryz.results147, go_sem]) rfl ?_
 exact ⟨rfl, ho⟩
def encArm (a : ArmM) : List Value := [.string a.pat, .int .i64 a.to]
theorem encArm_len (a : ArmM) : (encArm a).length = 2 := rfl
/-- an op, and where its arms lie -/
structure OpV where
 o : OpM
 A : Option Addr
 c : Nat
def opV (k : Int) (t : ByteArray) (n gt : Int) (A : Option Addr) (m c : Nat) (x y : Int) : Array Value := #[.int .i64 k, .string t, .int .i64 n, .int .i64 gt, .slice A m c, .int .i64 x, .int .i64 y]
def encOp (v : OpV) : List Value := [.int .i64 v.o.kind, .string v.o.text, .int .i64 v.o.n, .int .i64 v.o.to, .slice v.A v.o.arms.length v.c, .int .i64 v.o.onT, .int .i64 v.o.onE]
theorem encOp_len (v : OpV) : (encOp v).length = 7 := rfl
def progV (s : ByteArray) (d j : Int) (A : Option Addr) (n c : Nat) : Array Value := #[.string s, .int .i64 d, .int .i64 j, .slice A n c]
set_option maxRecDepth 100000 in
set_option maxHeartbeats 1600000 in
theorem in64_c (n a b : Int) (w : World) : Calls Tryz.prog 133 #[.int .i64 n, .int .i64 a, .int .i64 b] w fun e w' => e = .returned (.bool (decide (a ≤ n) && decide (n ≤ b))) ∧ w' = w := by
 cases h1 : decide (a ≤ n) with
 | false =>
  go_enter Tryz.func133, Tryz.ntmps133
  go_wp2_with fail
  go_ret
  exact ⟨rfl, rfl⟩
 | true =>
  go_enter Tryz.func133, Tryz.ntmps133
  go_wp2_with fail
  go_ret
  exact ⟨rfl, rfl⟩
set_option maxRecDepth 100000 in
set_option maxHeartbeats 1600000 in
theorem pin_c (n a b : Int) (w : World) : Calls Tryz.prog 134 #[.int .i64 n, .int .i64 a, .int .i64 b] w fun e w' => e = .returned (.bool (decide (a ≤ n) && decide (n ≤ b))) ∧ w' = w := by
 cases h1 : decide (a ≤ n) with
 | false =>
  go_enter Tryz.func134, Tryz.ntmps134
  go_wp2_with fail
  go_ret
  exact ⟨rfl, rfl⟩
 | true =>
  go_enter Tryz.func134, Tryz.ntmps134
  go_wp2_with fail
  go_ret
  exact ⟨rfl, rfl⟩
set_option maxRecDepth 100000 in
set_option maxHeartbeats 1600000 in
theorem comes_c (s : ByteArray) (d j : Int) (A : Option Addr) (n c : Nat) (gt : Int) (w : World) : Calls Tryz.prog 162 #[.agg #[.string s, .int .i64 d, .int .i64 j, .slice A n c], .int .i64 gt] w fun e w' => e = .returned (.bool (comesB n gt)) ∧ Below w.heap.size w w' := by
 unfold comesB
 cases h1 : decide (0 ≤ gt) with
 | false =>
  go_enter Tryz.func162, Tryz.ntmps162
  go_wp2_with fail
  go_ret
  exact ⟨rfl, below_alloc _ _⟩
 | true =>
  go_enter Tryz.func162, Tryz.ntmps162
  go_wp2_with fail
  go_ret
  exact ⟨rfl, below_alloc _ _⟩
/-- an op with the fields alone that its kind has -/
def bareV (k : Int) (t : ByteArray) (n gt : Int) (A : Option Addr) (m c : Nat) (x y : Int) : Array Value :=
 if k = 1 then opV k t 0 0 none 0 0 0 0 else if k = 2 then opV k ⟨#[]⟩ n 0 A m c x y else if k = 3 then opV k ⟨#[]⟩ 0 gt none 0 0 0 0 else if k = 4 then opV k ⟨#[]⟩ n 0 none 0 0 0 0 else opV k ⟨#[]⟩ 0 0 none 0 0 0 0
set_option maxRecDepth 100000 in
set_option maxHeartbeats 3200000 in
theorem bare_c (k : Int) (t : ByteArray) (n gt : Int) (A : Option Addr) (m c : Nat) (x y : Int) (w : World) :
 Calls Tryz.prog 160 #[.agg #[.int .i64 k, .string t, .int .i64 n, .int .i64 gt, .slice A m c, .int .i64 x, .int .i64 y]] w fun e w' => e = .returned (.agg (bareV k t n gt A m c x y)) ∧ Below w.heap.size w w' := by
 unfold bareV opV
 by_cases h1 : k = 1
 ·subst h1
  go_enter Tryz.func160, Tryz.ntmps160
  go_wp2_with fail
  refine bodyPost_ret (v := .agg #[.int .i64 1, .string t, .int .i64 0, .int .i64 0, .slice none 0 0, .int .i64 0, .int .i64 0]) (by simp [results, Tryz.results160, go_sem]) rfl ?_
  exact ⟨by simp, ((below_alloc w _).alloc (by simp) _).alloc (by simp <;> omega) _⟩
 have b1 : (k == 1) = false := by simp [h1]
 by_cases h2 : k = 2
 ·subst h2
  go_enter Tryz.func160, Tryz.ntmps160
  go_upto_region 6 with fail
  go_region
  go_wp2_with fail
  refine bodyPost_ret (v := .agg #[.int .i64 2, .string ⟨#[]⟩, .int .i64 n, .int .i64 0, .slice A m c, .int .i64 x, .int .i64 y]) (by simp [results, Tryz.results160, go_sem]) rfl ?_
  exact ⟨by simp, below_dr (((below_alloc w _).alloc (by simp) _).alloc (by simp <;> omega) _)⟩
 have b2 : (k == 2) = false := by simp [h2]
 by_cases h3 : k = 3
 ·subst h3
  go_enter Tryz.func160, Tryz.ntmps160
  go_wp2_with fail
  refine bodyPost_ret (v := .agg #[.int .i64 3, .string ⟨#[]⟩, .int .i64 0, .int .i64 gt, .slice none 0 0, .int .i64 0, .int .i64 0]) (by simp [results, Tryz.results160, go_sem]) rfl ?_
  exact ⟨by simp, ((below_alloc w _).alloc (by simp) _).alloc (by simp <;> omega) _⟩
 have b3 : (k == 3) = false := by simp [h3]
 by_cases h4 : k = 4
 ·subst h4
  go_enter Tryz.func160, Tryz.ntmps160
  go_wp2_with fail
  refine bodyPost_ret (v := .agg #[.int .i64 4, .string ⟨#[]⟩, .int .i64 n, .int .i64 0, .slice none 0 0, .int .i64 0, .int .i64 0]) (by simp [results, Tryz.results160, go_sem]) rfl ?_
  exact ⟨by simp, ((below_alloc w _).alloc (by simp) _).alloc (by simp <;> omega) _⟩
 have b4 : (k == 4) = false := by simp [h4]
 rw [if_neg h1, if_neg h2, if_neg h3, if_neg h4]
 clear h1 h2 h3 h4
 go_enter Tryz.func160, Tryz.ntmps160
 go_wp2_with fail
 refine bodyPost_ret (v := .agg #[.int .i64 k, .string ⟨#[]⟩, .int .i64 0, .int .i64 0, .slice none 0 0, .int .i64 0, .int .i64 0]) (by simp [results, Tryz.results160, go_sem]) rfl ?_
 exact ⟨by simp, ((below_alloc w _).alloc (by simp) _).alloc (by simp <;> omega) _⟩
def armAt (l : List ArmM) (k : Nat) : ArmM := l.getD k ⟨⟨#[]⟩, 0⟩
theorem armAt_some {l : List ArmM} {k : Nat} (hk : k < l.length) : l[k]? = some (armAt l k) := by simp [armAt, List.getD, hk]
theorem arm_cells {w : World} {M : Nat → Prop} {A : Option Addr} {l : List ArmM} (hr : Rd w M A (flat encArm l)) (k : Nat) (hk : k < l.length) : ∃ b o, A = some ⟨b, o, none⟩ ∧ b < w.heap.size ∧
 w.cell? ⟨b, o + k * 2, none⟩ = some (.string (armAt l k).pat) ∧ w.cell? ⟨b, o + k * 2 + 1, none⟩ = some (.int .i64 (armAt l k).to) := by
 obtain ⟨b, o, hA, _, hb, hc⟩ := flat_cells encArm_len hr k _ (armAt_some hk) (by omega)
 exact ⟨b, o, hA, hb, hc 0 (by omega), hc 1 (by omega)⟩
theorem below_drN {B : Nat} {w0 w : World} (h : Below B w0 w) (n : Nat) : Below B w0 (w.drewN n) := ⟨h.os, h.tape, h.output, h.size, h.block⟩
set_option maxRecDepth 100000 in
theorem eq_arm (s : ByteArray) (g : Int) (w : World) : Sem.run Tryz.prog (Op.equalIn 10000 94 (.agg #[.string s, .int .i64 g]) (.agg #[.string s, .int .i64 g])) w = .ok true w := by
 refine (run_equalIn_struct (P := Tryz.prog) w 9999 94 _ _ (by kernel_rfl) (by kernel_rfl)).trans ?_
 simp [go_sem, Op.eqFields]
set_option maxRecDepth 100000 in
set_option maxHeartbeats 1600000 in
theorem Equal_self (A : Option Addr) (c : Nat) (l : List ArmM) (w : World) (hr : Rd w NoBlk A (flat encArm l)) (hn : l.length ≤ maxLen) :
 Calls Tryz.prog 191 #[.slice A l.length c, .slice A l.length c] w fun e w' => e = .returned (.bool true) ∧ Below w.heap.size w w' := by
 have hn' : l.length ≤ 9223372036854775807 := hn
 have Hc := hide (fun k hk => arm_cells hr k hk)
 obtain ⟨n, hnl⟩ : ∃ n, n = l.length := ⟨_, rfl⟩
 rw [← hnl] at hn' ⊢
 have Hn := hide hnl
 have HE := @eq_arm
 have r1 : (n != n) = false := by simp
 have r2 : ((n : Int) != (n : Int)) = false := by simp
 clear hr hn hnl
 go_enter Tryz.func191, Tryz.ntmps191
 go_wp2_with fail
 go_loopw [13] (fun i wr => ∃ k : Nat, k ≤ n ∧ i = .int .i64 k ∧ Hid (Below w.heap.size w wr)) (fun i _ => n - (intOf i).toNat)
 case atStart => exact ⟨0, Nat.zero_le _, rfl, hide (Below.refl _ _)⟩
 case round =>
  obtain ⟨k, hk, rfl, hbel⟩ := hrel
  by_cases hlt : k < n
  ·obtain ⟨b, o, rfl, hb, g0, g1⟩ := Hc.out k (by rw [← Hn.out]; exact hlt)
   replace g0 := bkeepL hbel.out hb g0
   replace g1 := bkeepL hbel.out hb g1
   obtain ⟨x, hx⟩ : ∃ x, x = armAt l k := ⟨_, rfl⟩
   rw [← hx] at g0 g1
   clear hx
   obtain ⟨xp, xt⟩ := x
   have j1 : (0 : Int) ≤ (k : Int) := by omega
   have j2 : (k : Int) < (n : Int) := by omega
   have d1 : decide ((k : Int) < (n : Int)) = true := by simp; exact hlt
   have d2 : decide (k < n) = true := by simp; exact hlt
   have w1 : IntKind.i64.wrap ((k : Int) + 1) = (k : Int) + 1 := IntWalk.i64_in _ (by omega)
   go_upto_region 6 with fail
   go_quiet (fail)
   go_wp2_with fail
   go_roundw
   case rel => exact ⟨k + 1, by omega, by go_num, hide (below_drN hbel.out _)⟩
   case measure => simp [intOf]; omega
  ·obtain rfl : k = n := by omega
   have d1 : decide ((k : Int) < (k : Int)) = false := by simp
   have d2 : decide (k < k) = false := by simp
   go_wp2_with fail
   go_ret
   exact ⟨rfl, hbel.out⟩
set_option maxRecDepth 100000 in
set_option maxHeartbeats 1600000 in
theorem Equal_none (A : Option Addr) (n c : Nat) (w : World) :
 Calls Tryz.prog 191 #[.slice A n c, .slice none 0 0] w fun e w' => e = .returned (.bool (decide (n = 0))) ∧ Below w.heap.size w w' := by
 by_cases h : n = 0
 ·subst h
  go_enter Tryz.func191, Tryz.ntmps191
  go_wp2_with fail
  go_loopw [13] (fun i wr => i = .int .i64 0 ∧ wr = w) (fun _ _ => 0)
  case atStart => exact ⟨rfl, rfl⟩
  case round =>
   obtain ⟨rfl, rfl⟩ := hrel
   go_wp2_with fail
   go_ret
   exact ⟨rfl, Below.refl _ _⟩
 ·have r1 : ((n : Int) != 0) = true := by simp; exact h
  have r2 : ¬ n = 0 := h
  go_enter Tryz.func191, Tryz.ntmps191
  go_wp2_with fail
  go_ret
  exact ⟨by rw [decide_eq_false r2]; rfl, Below.refl _ _⟩
theorem str_nil {t : ByteArray} (h : t.size = 0) : t = ⟨#[]⟩ := by
 obtain ⟨⟨l⟩⟩ := t
 have : l.length = 0 := h
 rw [List.eq_nil_of_length_eq_zero this]
theorem str_some {t : ByteArray} (h : ¬ t.size = 0) : t.toList.isEmpty = false := by
 rw [ByteArray.toList_eq]
 cases hl : t.data.toList with
 | nil => exact absurd (by rw [← ba_size, hl]; rfl) h
 | cons c r => rfl
theorem str_e : (⟨#[]⟩ : ByteArray) = ByteArray.empty := rfl
set_option maxRecDepth 100000 in
set_option maxHeartbeats 6400000 in
theorem sameOp_c (k : Int) (t : ByteArray) (n gt : Int) (A : Option Addr) (l : List ArmM) (c : Nat) (x y : Int) (w : World) (hr : Rd w NoBlk A (flat encArm l)) (hn : l.length ≤ maxLen) :
 Calls Tryz.prog 159 #[.agg #[.int .i64 k, .string t, .int .i64 n, .int .i64 gt, .slice A l.length c, .int .i64 x, .int .i64 y], .agg (bareV k t n gt A l.length c x y)] w fun e w' =>
  e = .returned (.bool (bareB ⟨k, t, n, gt, l, x, y⟩)) ∧ Below w.heap.size w w' := by
 have HS := hide (fun (w' : World) (h : Rd w' NoBlk A (flat encArm l)) => Equal_self A c l w' h hn)
 have HN := hide (fun (w' : World) => Equal_none A l.length c w')
 have HR := hide hr
 unfold bareV opV bareB
 simp only
 obtain ⟨m, hm⟩ : ∃ m, m = l.length := ⟨_, rfl⟩
 rw [← hm] at HS HN ⊢
 clear hr hn hm
 by_cases h1 : k = 1
 ·subst h1
  by_cases hn : n = 0
  ·subst hn
   by_cases hgt : gt = 0
   ·subst hgt
    by_cases hx : x = 0
    ·subst hx
     by_cases hy : y = 0
     ·subst hy
      go_enter Tryz.func159, Tryz.ntmps159
      go_wp2_with fail
      refine (HN.out _).mono ?_
      rintro e w2 ⟨rfl, hb2⟩
      go_wp2_with fail
      go_ret
      exact ⟨by show Ending.returned (.bool (decide (m = 0))) = _; simp [str_e, *], ((below_alloc _ _).alloc (by simp) _).trans (hb2.mono (by simp <;> omega))⟩
     ·have q1 : (y == 0) = false := by simp [hy]
      go_enter Tryz.func159, Tryz.ntmps159
      go_wp2_with fail
      go_ret
      exact ⟨by simp [str_e, *], (below_alloc _ _).alloc (by simp) _⟩
    ·have q1 : (x == 0) = false := by simp [hx]
     go_enter Tryz.func159, Tryz.ntmps159
     go_wp2_with fail
     go_ret
     exact ⟨by simp [str_e, *], (below_alloc _ _).alloc (by simp) _⟩
   ·have q1 : (gt == 0) = false := by simp [hgt]
    go_enter Tryz.func159, Tryz.ntmps159
    go_wp2_with fail
    go_ret
    exact ⟨by simp [str_e, *], (below_alloc _ _).alloc (by simp) _⟩
  ·have q1 : (n == 0) = false := by simp [hn]
   go_enter Tryz.func159, Tryz.ntmps159
   go_wp2_with fail
   go_ret
   exact ⟨by simp [str_e, *], (below_alloc _ _).alloc (by simp) _⟩
 by_cases h2 : k = 2
 ·subst h2
  by_cases ht : t.size = 0
  ·obtain rfl := str_nil ht
   have Hx := hide ht
   clear ht Hx
   by_cases hgt : gt = 0
   ·subst hgt
    go_enter Tryz.func159, Tryz.ntmps159
    go_wp2_with fail
    refine (HS.out _ (HR.out.below ((below_alloc _ _).alloc (by simp) _))).mono ?_
    rintro e w2 ⟨rfl, hb2⟩
    go_wp2_with fail
    go_ret
    exact ⟨by show Ending.returned (.bool (true)) = _; simp [str_e, *], ((below_alloc _ _).alloc (by simp) _).trans (hb2.mono (by simp <;> omega))⟩
   ·have q1 : (gt == 0) = false := by simp [hgt]
    go_enter Tryz.func159, Tryz.ntmps159
    go_wp2_with fail
    go_ret
    exact ⟨by simp [str_e, *], (below_alloc _ _).alloc (by simp) _⟩
  ·have q1 := str_some ht
   go_enter Tryz.func159, Tryz.ntmps159
   go_wp2_with fail
   go_ret
   exact ⟨by simp [str_e, *], (below_alloc _ _).alloc (by simp) _⟩
 by_cases h3 : k = 3
 ·subst h3
  by_cases ht : t.size = 0
  ·obtain rfl := str_nil ht
   have Hx := hide ht
   clear ht Hx
   by_cases hn : n = 0
   ·subst hn
    by_cases hx : x = 0
    ·subst hx
     by_cases hy : y = 0
     ·subst hy
      go_enter Tryz.func159, Tryz.ntmps159
      go_wp2_with fail
      refine (HN.out _).mono ?_
      rintro e w2 ⟨rfl, hb2⟩
      go_wp2_with fail
      go_ret
      exact ⟨by show Ending.returned (.bool (decide (m = 0))) = _; simp [str_e, *], ((below_alloc _ _).alloc (by simp) _).trans (hb2.mono (by simp <;> omega))⟩
     ·have q1 : (y == 0) = false := by simp [hy]
      go_enter Tryz.func159, Tryz.ntmps159
      go_wp2_with fail
      go_ret
      exact ⟨by simp [str_e, *], (below_alloc _ _).alloc (by simp) _⟩
    ·have q1 : (x == 0) = false := by simp [hx]
     go_enter Tryz.func159, Tryz.ntmps159
     go_wp2_with fail
     go_ret
     exact ⟨by simp [str_e, *], (below_alloc _ _).alloc (by simp) _⟩
   ·have q1 : (n == 0) = false := by simp [hn]
    go_enter Tryz.func159, Tryz.ntmps159
    go_wp2_with fail
    go_ret
    exact ⟨by simp [str_e, *], (below_alloc _ _).alloc (by simp) _⟩
  ·have q1 := str_some ht
   go_enter Tryz.func159, Tryz.ntmps159
   go_wp2_with fail
   go_ret
   exact ⟨by simp [str_e, *], (below_alloc _ _).alloc (by simp) _⟩
 by_cases h4 : k = 4
 ·subst h4
  by_cases ht : t.size = 0
  ·obtain rfl := str_nil ht
   have Hx := hide ht
   clear ht Hx
   by_cases hgt : gt = 0
   ·subst hgt
    by_cases hx : x = 0
    ·subst hx
     by_cases hy : y = 0
     ·subst hy
      go_enter Tryz.func159, Tryz.ntmps159
      go_wp2_with fail
      refine (HN.out _).mono ?_
      rintro e w2 ⟨rfl, hb2⟩
      go_wp2_with fail
      go_ret
      exact ⟨by show Ending.returned (.bool (decide (m = 0))) = _; simp [str_e, *], ((below_alloc _ _).alloc (by simp) _).trans (hb2.mono (by simp <;> omega))⟩
     ·have q1 : (y == 0) = false := by simp [hy]
      go_enter Tryz.func159, Tryz.ntmps159
      go_wp2_with fail
      go_ret
      exact ⟨by simp [str_e, *], (below_alloc _ _).alloc (by simp) _⟩
    ·have q1 : (x == 0) = false := by simp [hx]
     go_enter Tryz.func159, Tryz.ntmps159
     go_wp2_with fail
     go_ret
     exact ⟨by simp [str_e, *], (below_alloc _ _).alloc (by simp) _⟩
   ·have q1 : (gt == 0) = false := by simp [hgt]
    go_enter Tryz.func159, Tryz.ntmps159
    go_wp2_with fail
    go_ret
    exact ⟨by simp [str_e, *], (below_alloc _ _).alloc (by simp) _⟩
  ·have q1 := str_some ht
   go_enter Tryz.func159, Tryz.ntmps159
   go_wp2_with fail
   go_ret
   exact ⟨by simp [str_e, *], (below_alloc _ _).alloc (by simp) _⟩
 rw [if_neg h1, if_neg h2, if_neg h3, if_neg h4]
 by_cases ht : t.size = 0
 ·obtain rfl := str_nil ht
  have Hx := hide ht
  clear ht Hx
  by_cases hn : n = 0
  ·subst hn
   by_cases hgt : gt = 0
   ·subst hgt
    by_cases hx : x = 0
    ·subst hx
     by_cases hy : y = 0
     ·subst hy
      go_enter Tryz.func159, Tryz.ntmps159
      go_wp2_with fail
      refine (HN.out _).mono ?_
      rintro e w2 ⟨rfl, hb2⟩
      go_wp2_with fail
      go_ret
      exact ⟨by show Ending.returned (.bool (decide (m = 0))) = _; simp [str_e, *], ((below_alloc _ _).alloc (by simp) _).trans (hb2.mono (by simp <;> omega))⟩
     ·have q1 : (y == 0) = false := by simp [hy]
      go_enter Tryz.func159, Tryz.ntmps159
      go_wp2_with fail
      go_ret
      exact ⟨by simp [str_e, *], (below_alloc _ _).alloc (by simp) _⟩
    ·have q1 : (x == 0) = false := by simp [hx]
     go_enter Tryz.func159, Tryz.ntmps159
     go_wp2_with fail
     go_ret
     exact ⟨by simp [str_e, *], (below_alloc _ _).alloc (by simp) _⟩
   ·have q1 : (gt == 0) = false := by simp [hgt]
    go_enter Tryz.func159, Tryz.ntmps159
    go_wp2_with fail
    go_ret
    exact ⟨by simp [str_e, *], (below_alloc _ _).alloc (by simp) _⟩
  ·have q1 : (n == 0) = false := by simp [hn]
   go_enter Tryz.func159, Tryz.ntmps159
   go_wp2_with fail
   go_ret
   exact ⟨by simp [str_e, *], (below_alloc _ _).alloc (by simp) _⟩
 ·have q1 := str_some ht
  go_enter Tryz.func159, Tryz.ntmps159
  go_wp2_with fail
  go_ret
  exact ⟨by simp [str_e, *], (below_alloc _ _).alloc (by simp) _⟩
end Go.Proofs.YtaioaojfdngfdaaGreatDoor
