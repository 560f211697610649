/- Parts of a chain of lemmas: Map, Prg3, Prg4. Conditions: those of each theorem. -/
import Derived.Test.YtaioaojfdngfdaaGreatDoorNb18
import Derived.Maps.Own
import Derived.Maps.OwnSet
import Derived.Test.YtaioaojfdngfdaaGreatDoorNb13
set_option linter.unusedVariables false
set_option linter.unusedSimpArgs false
namespace Go.Proofs.YtaioaojfdngfdaaGreatDoor
open Go.RowKit Go.WideMaps
set_option maxRecDepth 100000
theorem Tryz.lawS : Maps.Keyed Tryz.prog 9 := Maps.string_keyed Tryz.underlying9
theorem Tryz.zeroInt (w : World) : (zeroValue 3).run Tryz.prog w = .ok (.int .i64 0) w := by kernel_rfl
/-- block b is a map of at most n entries that reads as the labels -/
def LbAt (w : World) (b n : Nat) (ls : List (List UInt8 × Int)) : Prop :=
 ∃ D : DataW Unit, w.ownsMap Tryz.prog 9 (plainElem Tryz.prog 3) b n D ∧ Maps.IsMap D ∧ ∀ k : List UInt8, Maps.has D (.string k) = (lbF k ls).isSome ∧ ∀ v, lbF k ls = some v → D.atKey (.string k) (.lit (.int .i64 0)) = .lit (.int .i64 v)
theorem lb_made (w : World) : LbAt (w.alloc (.map #[] 0)) w.heap.size 0 [] :=
 ⟨.map [], World.ownsMap_made _ _ _ _, Maps.isMap_empty, fun k => ⟨rfl, fun v h => by cases h⟩⟩
theorem LbAt.drew {w : World} {b n : Nat} {ls : List (List UInt8 × Int)} (h : LbAt w b n ls) : LbAt w.drew b n ls := h
theorem LbAt.lt {w : World} {b n : Nat} {ls : List (List UInt8 × Int)} (h : LbAt w b n ls) : b < w.heap.size := h.elim fun D h => h.1.lt
theorem LbAt.only {S : Nat → Prop} {w w' : World} {b n : Nat} {ls : List (List UInt8 × Int)} (h : LbAt w b n ls) (k : Only S w w') (hS : ¬ S b) : LbAt w' b n ls := by
 obtain ⟨D, ⟨es, clock, hb, F, hs, hD⟩, h2⟩ := h
 have hlt : b < w.heap.size := (Array.getElem?_eq_some_iff.1 hb).1
 exact ⟨D, ⟨es, clock, (k.block b hlt hS).trans hb, F, hs, hD⟩, h2⟩
theorem LbAt.ne {w : World} {b n g : Nat} {T : TypeId} {cs : Array Value} {ls : List (List UInt8 × Int)} (h : LbAt w b n ls) (hg : Blk w g T cs) : g ≠ b := by
 obtain ⟨D, ⟨es, clock, hb, _⟩, _⟩ := h
 rintro rfl
 unfold Blk at hg
 rw [hg] at hb
 cases hb
theorem LbAt.own_ne {w : World} {b n base size m : Nat} {e : TypeId} {v : Value} {xs : List Value} {ls : List (List UInt8 × Int)} (h : LbAt w b n ls) (ho : w.ownsRow base e size v m xs) : ∀ g, v.ownBlock = some g → g ≠ b := by
 intro g hg
 rcases ho.2 with ⟨rfl, _⟩ | ⟨g', cap, cur, rfl, _, hb, _⟩
 ·simp [Value.ownBlock] at hg
 ·simp [Value.ownBlock] at hg
  subst hg
  exact h.ne (T := e) (cs := cur) hb
theorem lb_key (k : List UInt8) (hk : k.length ≤ 1000000000) : keyOf Tryz.prog 9 (.string (bs k)) = some (.string k) := by
 have := keyOf_string_mk (P := Tryz.prog) (k := 9) Tryz.underlying9 (s := bs k) (by rw [bs_size]; unfold maxLen; omega)
 rw [this]
theorem lb_look {w : World} {b n : Nat} {ls : List (List UInt8 × Int)} (h : LbAt w b n ls) (k : List UInt8) (hk : k.length ≤ 1000000000) :
 (Instr.lookup 71 (.map (some b)) (.string (bs k)) true).run Tryz.prog w = .ok (.tuple #[.int .i64 ((lbF k ls).getD 0), .bool (lbF k ls).isSome]) w := by
 obtain ⟨D, ho, hm, hD⟩ := h
 obtain ⟨v, ps, hrun, hv⟩ := ho.look_ok Tryz.lawS Tryz.underlying71 (Tryz.zeroInt w) (plainElem_int Tryz.underlying3 (by decide)) (lb_key k hk)
 obtain ⟨c, rfl, hc, _⟩ := plainElem_int_inv Tryz.underlying3 hv
 have hc2 := congrArg Prod.fst hc
 simp only at hc2
 rw [hrun, (hD k).1]
 congr 3
 cases hf : lbF k ls with
 | none =>
  have hn := (hD k).1
  rw [hf] at hn
  rw [Maps.atKey_of_not_has hn] at hc2
  injection hc2 with hc3
  injection hc3 with _ hc4
  rw [← hc4]; rfl
 | some x =>
  rw [(hD k).2 x hf] at hc2
  injection hc2 with hc3
  injection hc3 with _ hc4
  rw [← hc4]; rfl
theorem lb_store {w : World} {b n : Nat} {ls : List (List UInt8 × Int)} (h : LbAt w b n ls) (hn : n ≤ 1000000000) (k : List UInt8) (hk : k.length ≤ 1000000000) (v : Int) (h0 : -1000000000 ≤ v) (h1 : v ≤ 1000000000) :
 ∃ w', (Instr.mapUpdate 71 (.map (some b)) (.string (bs k)) (.int .i64 v)).run Tryz.prog w = .ok () w' ∧ LbAt w' b (n + 1) ((k, v) :: ls) ∧ Only (· = b) w w' := by
 obtain ⟨D, ho, hm, hD⟩ := h
 have hwf : (Lit.int .i64 v).wf = true := by
  show (decide (IntKind.i64.min ≤ v) && decide (v ≤ IntKind.i64.max)) = true
  have e1 : IntKind.i64.min = -9223372036854775808 := by decide
  have e2 : IntKind.i64.max = 9223372036854775807 := by decide
  rw [e1, e2, decide_eq_true (by omega), decide_eq_true (by omega)]
  rfl
 have hkl : WideAt.IsKeyLit (.string k) := by trivial
 obtain ⟨w', hrun, ho', hg⟩ := ho.update Tryz.lawS Tryz.underlying71 (by unfold maxLen; omega) (lb_key k hk) (plainElem_int Tryz.underlying3 hwf)
 refine ⟨w', hrun, ⟨_, ho', hm.put _ _, fun j => ?_⟩, ⟨hg.os, hg.output, hg.size, fun i hi hne => hg.block i hi (fun e => hne (by injection e))⟩⟩
 by_cases hj : k = j
 ·subst hj
  refine ⟨by rw [Maps.has_put_same hm hkl]; simp [lbF], fun x hx => ?_⟩
  rw [Maps.atKey_put_same hm hkl]
  simp [lbF] at hx
  rw [hx]
 ·have hne : Lit.string j ≠ Lit.string k := fun e => hj (by injection e with e; exact e.symm)
  have hl : lbF j ((k, v) :: ls) = lbF j ls := by simp [lbF, hj]
  rw [hl, Maps.has_put_other hne, Maps.atKey_put_other hne]
  exact hD j
end Go.Proofs.YtaioaojfdngfdaaGreatDoor
namespace Go.Proofs.YtaioaojfdngfdaaGreatDoor
open Go.RowKit
theorem onlyBox {w w1 w2 : World} (h : Only NoBlk w w1) (k : Below w1.heap.size w1 w2) : Only NoBlk w w2 := h.trans (Only.of_below k _)
set_option maxRecDepth 100000 in
set_option maxHeartbeats 3200000 in
theorem armed_c (s : ByteArray) (d j : Int) (PA : Option Addr) (pn pc : Nat) (a : ArmM) (w : World) (hs : a.pat.size ≤ 9223372036854775807) :
 Calls Tryz.prog 192 #[.agg #[.string s, .int .i64 d, .int .i64 j, .slice PA pn pc], .agg #[.string a.pat, .int .i64 a.to]] w fun e w' => e = .returned (.int .i64 (armE pn a)) ∧ Only NoBlk w w' := by
 obtain ⟨pt, g⟩ := a
 simp only at hs ⊢
 obtain ⟨a0, b0, hck⟩ : ∃ a0 b0, checkS pt.data.toList = (a0, b0) := ⟨_, _, rfl⟩
 have HC := hide (fun (w' : World) => Check_c pt w' hs)
 rw [hck] at HC
 have HA := hide (show armE pn ⟨pt, g⟩ = if 64 < pt.size then 4 else if ((b0 : Nat) : Int) ≠ 0 then ((b0 : Nat) : Int) else if comesB pn g = true then 0 else 13 by unfold armE patE; rw [hck])
 have HCm := hide (fun (w' : World) => comes_c s d j PA pn pc g w')
 have hB : Below w.heap.size w ((w.alloc (.cells #[.string s, .int .i64 d, .int .i64 j, .slice PA pn pc] 25)).alloc (.cells #[.string pt, .int .i64 g] 94)) := (below_alloc _ _).alloc (by simp) _
 have HO := hide (Only.of_below hB NoBlk)
 have HP := hide (show Blk ((w.alloc (.cells #[.string s, .int .i64 d, .int .i64 j, .slice PA pn pc] 25)).alloc (.cells #[.string pt, .int .i64 g] 94)) w.heap.size 25 #[.string s, .int .i64 d, .int .i64 j, .slice PA pn pc] from (Blk.new w 25 _).alloc _)
 have HM := hide (show Blk ((w.alloc (.cells #[.string s, .int .i64 d, .int .i64 j, .slice PA pn pc] 25)).alloc (.cells #[.string pt, .int .i64 g] 94)) (w.heap.size + 1) 94 #[.string pt, .int .i64 g] from Blk.new' (by simp))
 clear hB hck
 by_cases h1 : 64 < pt.size
 ·have d1 : decide ((pt.size : Int) > 64) = true := by simp; omega
  have d2 : decide (64 < pt.size) = true := by simp; exact h1
  have HQ := hide (show armE pn ⟨pt, g⟩ = 4 by rw [HA.out, if_pos h1])
  clear h1
  go_enter Tryz.func192, Tryz.ntmps192
  go_wp2_with fail
  go_ret
  exact ⟨by rw [HQ.out]; rfl, HO.out⟩
 ·have d1 : decide ((pt.size : Int) > 64) = false := by simp; omega
  have d2 : decide (64 < pt.size) = false := by simp; omega
  replace HA := hide (HA.out.trans (if_neg h1))
  clear h1
  by_cases hb : b0 = 0
  ·subst hb
   replace HA := hide (HA.out.trans (if_neg (by simp)))
   go_enter Tryz.func192, Tryz.ntmps192
   go_wp2_with fail
   refine (HC.out _).mono ?_
   rintro e w2 ⟨rfl, ho2⟩
   have HP2 := hide (HP.out.only ho2 (fun h => h))
   have HM2 := hide (HM.out.only ho2 (fun h => h))
   have HO2 := hide (HO.out.trans ho2)
   clear ho2 HP HM HO
   obtain ⟨⟨g0, g1, g2, g3⟩, _⟩ := HP2.out.four
   have m0 : w2.cell? ⟨w.heap.size + 1, 0, none⟩ = some (.string pt) := by rw [HM2.out.cell]; rfl
   have m1 : w2.cell? ⟨w.heap.size + 1, 1, none⟩ = some (.int .i64 g) := by rw [HM2.out.cell]; rfl
   cases hc : comesB pn g with
   | true =>
    rw [hc] at HCm
    have HQ := hide (show armE pn ⟨pt, g⟩ = 0 by rw [HA.out, hc]; rfl)
    clear hc
    go_wp2_with fail
    refine (HCm.out _).mono ?_
    rintro e w3 ⟨rfl, hb3⟩
    go_wp2_with fail
    go_ret
    exact ⟨by rw [HQ.out]; rfl, onlyBox HO2.out hb3⟩
   | false =>
    rw [hc] at HCm
    have HQ := hide (show armE pn ⟨pt, g⟩ = 13 by rw [HA.out, hc]; rfl)
    clear hc
    go_wp2_with fail
    refine (HCm.out _).mono ?_
    rintro e w3 ⟨rfl, hb3⟩
    go_wp2_with fail
    go_ret
    exact ⟨by rw [HQ.out]; rfl, onlyBox HO2.out hb3⟩
  ·have hbe : ((b0 : Int) != 0) = true := by simp only [bne_iff_ne, ne_eq]; omega
   have HQ := hide (show armE pn ⟨pt, g⟩ = b0 by rw [HA.out, if_pos (by omega)])
   clear hb
   go_enter Tryz.func192, Tryz.ntmps192
   go_wp2_with fail
   refine (HC.out _).mono ?_
   rintro e w2 ⟨rfl, ho2⟩
   have HO2 := hide (HO.out.trans ho2)
   clear ho2
   go_wp2_with fail
   go_ret
   exact ⟨by rw [HQ.out]; rfl, HO2.out⟩
theorem Blk.seven {w : World} {g : Nat} {t : TypeId} {a b c d e f h : Value} (hb : Blk w g t #[a, b, c, d, e, f, h]) :
 w.cell? ⟨g, 0, none⟩ = some a ∧ w.cell? ⟨g, 1, none⟩ = some b ∧ w.cell? ⟨g, 2, none⟩ = some c ∧ w.cell? ⟨g, 3, none⟩ = some d ∧ w.cell? ⟨g, 4, none⟩ = some e ∧ w.cell? ⟨g, 5, none⟩ = some f ∧ w.cell? ⟨g, 6, none⟩ = some h := by
 refine ⟨?_, ?_, ?_, ?_, ?_, ?_, ?_⟩ <;> (rw [hb.cell]; rfl)
theorem Blk.two {w : World} {g : Nat} {t : TypeId} {a b : Value} (hb : Blk w g t #[a, b]) : w.cell? ⟨g, 0, none⟩ = some a ∧ w.cell? ⟨g, 1, none⟩ = some b := by
 refine ⟨?_, ?_⟩ <;> (rw [hb.cell]; rfl)
theorem map_getD {α : Type} (f : α → Int) (l : List α) (d : α) (i : Nat) (h : i < l.length) : (l.map f).getD i 0 = f (l.getD i d) := by
 simp [List.getD, h]
set_option maxRecDepth 100000 in
set_option maxHeartbeats 6400000 in
theorem expect_c (s : ByteArray) (d j : Int) (PA : Option Addr) (pn pc : Nat) (k : Int) (t : ByteArray) (n gt : Int) (A : Option Addr) (l : List ArmM) (c : Nat) (x y : Int) (w : World)
 (hr : Rd w NoBlk A (flat encArm l)) (hn : l.length ≤ maxLen) (hsz : ∀ a ∈ l, a.pat.size ≤ 9223372036854775807) :
 Calls Tryz.prog 161 #[.agg #[.string s, .int .i64 d, .int .i64 j, .slice PA pn pc], .agg #[.int .i64 k, .string t, .int .i64 n, .int .i64 gt, .slice A l.length c, .int .i64 x, .int .i64 y]] w fun e w' => e = .returned (.int .i64 (expectE pn ⟨k, t, n, gt, l, x, y⟩)) ∧ Only NoBlk w w' := by
 have hn' : l.length ≤ 9223372036854775807 := hn
 have HE := hide (show expectE pn ⟨k, t, n, gt, l, x, y⟩ = if (nevB n || tickB 0 n) = false then 12 else if 8 < l.length then 4 else if firstE (l.map (armE pn)) ≠ 0 then firstE (l.map (armE pn)) else if (toB pn x && toB pn y) = true then 0 else 13 from rfl)
 have HAr := hide (fun (i : Nat) (hi : i < l.length) (w' : World) => armed_c s d j PA pn pc (armAt l i) w' (hsz _ (by have := armAt_some hi; exact List.mem_of_getElem? this)))
 have HF1 := hide (fun (i : Nat) (hi : i < l.length) (h : ∀ q, q < i → armE pn (armAt l q) = 0) (hne : armE pn (armAt l i) ≠ 0) => (show firstE (l.map (armE pn)) = armE pn (armAt l i) from by
  have e := map_getD (armE pn) l ⟨⟨#[]⟩, 0⟩ i hi
  rw [firstE_take (k := i) (fun q hq => by rw [map_getD (armE pn) l ⟨⟨#[]⟩, 0⟩ q (by omega)]; exact h q hq) (by simpa using hi) (by rw [e]; exact hne), e]
  rfl))
 have HF2 := hide (fun (h : ∀ q, q < l.length → armE pn (armAt l q) = 0) => (show firstE (l.map (armE pn)) = 0 from firstE_zero (fun q hq => by rw [map_getD (armE pn) l ⟨⟨#[]⟩, 0⟩ q (by simpa using hq)]; exact h q (by simpa using hq))))
 have HC := hide (fun (g : Int) (w' : World) => comes_c s d j PA pn pc g w')
 obtain ⟨m, hm⟩ : ∃ m, m = l.length := ⟨_, rfl⟩
 rw [← hm] at hn' HE HAr HF1 HF2 ⊢
 have HM := hide hm
 obtain ⟨W, hW⟩ : ∃ W, W = (w.alloc (.cells #[.string s, .int .i64 d, .int .i64 j, .slice PA pn pc] 25)).alloc (.cells #[.int .i64 k, .string t, .int .i64 n, .int .i64 gt, .slice A m c, .int .i64 x, .int .i64 y] 92) := ⟨_, rfl⟩
 have hB : Below w.heap.size w W := by rw [hW]; exact (below_alloc _ _).alloc (by simp) _
 have HO := hide (Only.of_below hB NoBlk)
 have HP := hide (show Blk W w.heap.size 25 #[.string s, .int .i64 d, .int .i64 j, .slice PA pn pc] by rw [hW]; exact (Blk.new w 25 _).alloc _)
 have HV := hide (show Blk W (w.heap.size + 1) 92 #[.int .i64 k, .string t, .int .i64 n, .int .i64 gt, .slice A m c, .int .i64 x, .int .i64 y] by rw [hW]; exact Blk.new' (by simp))
 have HR := hide (fun (w' : World) (h : Only NoBlk w w') (i : Nat) (hi : i < m) => arm_cells (hr.only h (fun _ h => h)) i (by rw [← HM.out]; exact hi))
 have HW := hide hW
 clear hB hW hr hn hsz hm
 go_enter Tryz.func161, Tryz.ntmps161
 go_upto_region 1 with fail
 change Code.wp _ _ _ _ ((w.alloc (.cells #[.string s, .int .i64 d, .int .i64 j, .slice PA pn pc] 25)).alloc (.cells #[.int .i64 k, .string t, .int .i64 n, .int .i64 gt, .slice A m c, .int .i64 x, .int .i64 y] 92))
 rw [← HW.out]
 obtain ⟨v0, v1, v2, v3, v4, v5, v6⟩ := HV.out.seven
 go_cut [10] from 11 to 19 (fun v wx => v = .bool (!(nevB n || tickB 0 n)) ∧ wx = W)
 case first =>
  by_cases hnv : n = 9223372036854775807
  ·subst hnv
   go_wp2_with fail
   go_meet
   exact ⟨rfl, rfl⟩
  ·have hnb : (n != 9223372036854775807) = true := by simpa using hnv
   have HT := hide (show (!(nevB n || tickB 0 n)) = !(decide (0 ≤ n) && decide (n ≤ 1000000000000)) by unfold nevB tickB; rw [decide_eq_false hnv]; rfl)
   clear hnv
   go_wp2_with fail
   refine (in64_c n 0 1000000000000 _).mono ?_
   rintro e w2 ⟨rfl, rfl⟩
   go_wp2_with fail
   go_meet
   exact ⟨by rw [HT.out]; simp, rfl⟩
 case rest =>
  obtain ⟨rfl, rfl⟩ := hcut
  obtain ⟨z, hz⟩ : ∃ z, z = !(nevB n || tickB 0 n) := ⟨_, rfl⟩
  rw [← hz]
  cases z with
  | true =>
   have HQ := hide (HE.out.trans (if_pos (by simpa using hz.symm)))
   clear hz
   go_wp2_with fail
   go_ret
   exact ⟨by rw [HQ.out]; rfl, HO.out⟩
  | false =>
   replace HE := hide (HE.out.trans (if_neg (by intro h; rw [h] at hz; cases hz)))
   clear hz
   by_cases h8 : 8 < m
   ·have d1 : decide ((m : Int) > 8) = true := by simp; omega
    have d2 : decide (8 < m) = true := by simp; exact h8
    have HQ := hide (HE.out.trans (if_pos h8))
    go_wp2_with fail
    go_ret
    exact ⟨by rw [HQ.out]; rfl, HO.out⟩
   ·have d1 : decide ((m : Int) > 8) = false := by simp; omega
    have d2 : decide (8 < m) = false := by simp; omega
    replace HE := hide (HE.out.trans (if_neg h8))
    clear h8
    go_wp2_with fail
    go_loopw [28] (fun i wr => ∃ q : Nat, q ≤ m ∧ i = .int .i64 q ∧ Hid (∀ i, i < q → armE pn (armAt l i) = 0) ∧ Hid (Only NoBlk w wr) ∧ Hid (Blk wr w.heap.size 25 #[.string s, .int .i64 d, .int .i64 j, .slice PA pn pc]) ∧ Hid (Blk wr (w.heap.size + 1) 92 #[.int .i64 k, .string t, .int .i64 n, .int .i64 gt, .slice A m c, .int .i64 x, .int .i64 y])) (fun i _ => m - (intOf i).toNat)
    case atStart => exact ⟨0, Nat.zero_le _, rfl, hide (fun i h => by omega), HO, HP, HV⟩
    case round =>
     clear HO HP HV v0 v1 v2 v3 v4 v5 v6 d1 d2 HW
     obtain ⟨q, hq, rfl, HZ, HO, HP, HV⟩ := hrel
     obtain ⟨⟨g0, g1, g2, g3⟩, _⟩ := HP.out.four
     by_cases hlt : q < m
     ·obtain ⟨b, o, rfl, hb, r0, r1⟩ := HR.out wr HO.out q hlt
      have HArq := hide (fun (w' : World) => HAr.out q hlt w')
      have HF1q := hide (HF1.out q hlt HZ.out)
      have HZq := hide (fun (h : armE pn (armAt l q) = 0) (i : Nat) (hi : i < q + 1) => (show armE pn (armAt l i) = 0 from by
       by_cases e : i = q
       ·rw [e]; exact h
       ·exact HZ.out i (by omega)))
      obtain ⟨a, ha⟩ : ∃ a, a = armAt l q := ⟨_, rfl⟩
      rw [← ha] at r0 r1 HArq HF1q HZq
      clear ha
      obtain ⟨ap, at_⟩ := a
      obtain ⟨E, hE⟩ : ∃ E, E = armE pn ⟨ap, at_⟩ := ⟨_, rfl⟩
      rw [← hE] at HArq HF1q HZq
      clear hE
      have j1 : (0 : Int) ≤ (q : Int) := by omega
      have j2 : (q : Int) < (m : Int) := by omega
      have d1 : decide ((q : Int) < (m : Int)) = true := by simp; exact hlt
      have d2 : decide (q < m) = true := by simp; exact hlt
      have w1 : IntKind.i64.wrap ((q : Int) + 1) = (q : Int) + 1 := IntWalk.i64_in _ (by omega)
      have hpl := HP.out.lt
      have hne1 : ¬ w.heap.size = wr.heap.size := by omega
      have hne2 : ¬ wr.heap.size = w.heap.size := by omega
      have HOa := hide (HO.out.alloc (.cells #[.string ap, .int .i64 at_] 94))
      have HPa := hide (HP.out.alloc (.cells #[.string ap, .int .i64 at_] 94))
      have HVa := hide (HV.out.alloc (.cells #[.string ap, .int .i64 at_] 94))
      go_wp2_with fail
      refine (HArq.out _).mono ?_
      rintro e w2 ⟨rfl, ho2⟩
      have HO2 := hide (HOa.out.trans ho2)
      have HP2 := hide (HPa.out.only ho2 (fun h => h))
      have HV2 := hide (HVa.out.only ho2 (fun h => h))
      clear ho2 HO HP HV HOa HPa HVa g0 g1 g2 g3
      by_cases he : E = 0
      ·have hZ := hide (HZq.out he)
       subst he
       go_wp2_with fail
       go_roundw
       case rel => exact ⟨q + 1, by omega, by go_num, hZ, HO2, HP2, HV2⟩
       case measure => simp [intOf]; omega
      ·have hbe : (E != 0) = true := by simpa using he
       have hf := HF1q.out he
       have HQ := hide (show expectE pn ⟨k, t, n, gt, l, x, y⟩ = E by rw [HE.out, hf, if_pos he])
       clear hf he
       go_wp2_with fail
       go_ret
       exact ⟨by rw [HQ.out]; rfl, HO2.out⟩
     ·obtain rfl : q = m := by omega
      have d1 : decide ((q : Int) < (q : Int)) = false := by simp
      have d2 : decide (q < q) = false := by simp
      have hf := HF2.out HZ.out
      replace HE := hide (show expectE pn ⟨k, t, n, gt, l, x, y⟩ = if (toB pn x && toB pn y) = true then 0 else 13 by rw [HE.out, hf, if_neg (by simp)])
      obtain ⟨v0, v1, v2, v3, v4, v5, v6⟩ := HV.out.seven
      have hvl := HV.out.lt
      clear hf HZ HAr HF1 HF2 g0 g1 g2 g3
      have hn1 : ¬ w.heap.size = wr.heap.size := by omega
      have hn2 : ¬ wr.heap.size = w.heap.size := by omega
      have HO0 := hide (HO.out.alloc (.cells #[.int .i64 x, .int .i64 y] 3))
      have HP0 := hide (HP.out.alloc (.cells #[.int .i64 x, .int .i64 y] 3))
      have HB0 := hide (Blk.new wr 3 #[.int .i64 x, .int .i64 y])
      have HV0 := hide (HV.out.alloc (.cells #[.int .i64 x, .int .i64 y] 3))
      obtain ⟨wb, hwb⟩ : ∃ wb, wb = wr.alloc (.cells #[.int .i64 x, .int .i64 y] 3) := ⟨_, rfl⟩
      go_upto_region 13 with fail
      change Code.wp _ _ _ _ (wr.alloc (.cells #[.int .i64 x, .int .i64 y] 3))
      rw [← hwb] at HO0 HP0 HB0 HV0 ⊢
      clear hwb HO HP HV v0 v1 v2 v3 v4 v5 v6
      go_wp2_with fail
      go_loopw [45] (fun i wy => ∃ q : Nat, q ≤ 2 ∧ i = .int .i64 q ∧ Hid (1 ≤ q → toB pn x = true) ∧ Hid (2 ≤ q → toB pn y = true) ∧ Hid (Only NoBlk w wy) ∧ Hid (Blk wy w.heap.size 25 #[.string s, .int .i64 d, .int .i64 j, .slice PA pn pc]) ∧ Hid (Blk wy wr.heap.size 3 #[.int .i64 x, .int .i64 y])) (fun i _ => 2 - (intOf i).toNat)
      case atStart => exact ⟨0, by omega, rfl, hide (fun h => by omega), hide (fun h => by omega), HO0, HP0, HB0⟩
      case round =>
       clear HO0 HP0 HB0 HV0
       obtain ⟨p, hp, rfl, HX, HY, HO, HP, HB⟩ := hrel
       obtain ⟨⟨g0, g1, g2, g3⟩, _⟩ := HP.out.four
       obtain ⟨b0, b1⟩ := HB.out.two
       have hp3 : p = 0 ∨ p = 1 ∨ p = 2 := by omega
       rcases hp3 with rfl | rfl | rfl
       ·by_cases hm1 : x = -1
        ·have e1 : (x != -1) = false := by simp [hm1]
         have hz : toB pn x = true := by unfold toB; rw [decide_eq_true hm1]; rfl
         have HZ1 := hide (fun (_ : 1 ≤ 1) => hz)
         have HZ2 : Hid (2 ≤ 1 → toB pn y = true) := hide (fun h => by omega)
         clear hz HX HY hm1
         go_wp2_with fail
         go_roundw
         case rel => exact ⟨1, by omega, by go_num, HZ1, HZ2, HO, HP, HB⟩
         case measure => simp [intOf]
        ·have e1 : (x != -1) = true := by simpa using hm1
         have htb : toB pn x = comesB pn x := by unfold toB; rw [decide_eq_false hm1]; rfl
         cases hc : comesB pn x with
         | true =>
          have hz : toB pn x = true := htb.trans hc
          have HCz := hide (fun w' => HC.out x w')
          rw [hc] at HCz
          have HZ1 := hide (fun (_ : 1 ≤ 1) => hz)
          have HZ2 : Hid (2 ≤ 1 → toB pn y = true) := hide (fun h => by omega)
          clear hz HX HY hm1 htb hc
          go_wp2_with fail
          refine (HCz.out _).mono ?_
          rintro e w5 ⟨rfl, hb5⟩
          have HO5 := hide (onlyBox HO.out hb5)
          have HP5 := hide (HP.out.below hb5)
          have HB5 := hide (HB.out.below hb5)
          clear hb5
          go_wp2_with fail
          go_roundw
          case rel => exact ⟨1, by omega, by go_num, HZ1, HZ2, HO5, HP5, HB5⟩
          case measure => simp [intOf]
         | false =>
          have hz : toB pn x = false := htb.trans hc
          have HCz := hide (fun w' => HC.out x w')
          rw [hc] at HCz
          have HQ := hide (show expectE pn ⟨k, t, n, gt, l, x, y⟩ = 13 by rw [HE.out, hz]; simp)
          clear hz HX HY hm1 htb hc HE
          go_wp2_with fail
          refine (HCz.out _).mono ?_
          rintro e w5 ⟨rfl, hb5⟩
          have HO5 := hide (onlyBox HO.out hb5)
          clear hb5
          go_wp2_with fail
          go_ret
          exact ⟨by rw [HQ.out]; rfl, HO5.out⟩
       ·by_cases hm1 : y = -1
        ·have e1 : (y != -1) = false := by simp [hm1]
         have hz : toB pn y = true := by unfold toB; rw [decide_eq_true hm1]; rfl
         have HZ1 := hide (fun (_ : 1 ≤ 2) => HX.out (by omega))
         have HZ2 : Hid (2 ≤ 2 → toB pn y = true) := hide (fun _ => hz)
         clear hz HX HY hm1
         go_wp2_with fail
         go_roundw
         case rel => exact ⟨2, by omega, by go_num, HZ1, HZ2, HO, HP, HB⟩
         case measure => simp [intOf]
        ·have e1 : (y != -1) = true := by simpa using hm1
         have htb : toB pn y = comesB pn y := by unfold toB; rw [decide_eq_false hm1]; rfl
         cases hc : comesB pn y with
         | true =>
          have hz : toB pn y = true := htb.trans hc
          have HCz := hide (fun w' => HC.out y w')
          rw [hc] at HCz
          have HZ1 := hide (fun (_ : 1 ≤ 2) => HX.out (by omega))
          have HZ2 : Hid (2 ≤ 2 → toB pn y = true) := hide (fun _ => hz)
          clear hz HX HY hm1 htb hc
          go_wp2_with fail
          refine (HCz.out _).mono ?_
          rintro e w5 ⟨rfl, hb5⟩
          have HO5 := hide (onlyBox HO.out hb5)
          have HP5 := hide (HP.out.below hb5)
          have HB5 := hide (HB.out.below hb5)
          clear hb5
          go_wp2_with fail
          go_roundw
          case rel => exact ⟨2, by omega, by go_num, HZ1, HZ2, HO5, HP5, HB5⟩
          case measure => simp [intOf]
         | false =>
          have hz : toB pn y = false := htb.trans hc
          have HCz := hide (fun w' => HC.out y w')
          rw [hc] at HCz
          have HQ := hide (show expectE pn ⟨k, t, n, gt, l, x, y⟩ = 13 by rw [HE.out, hz]; simp)
          clear hz HX HY hm1 htb hc HE
          go_wp2_with fail
          refine (HCz.out _).mono ?_
          rintro e w5 ⟨rfl, hb5⟩
          have HO5 := hide (onlyBox HO.out hb5)
          clear hb5
          go_wp2_with fail
          go_ret
          exact ⟨by rw [HQ.out]; rfl, HO5.out⟩
       ·have HQ := hide (show expectE pn ⟨k, t, n, gt, l, x, y⟩ = 0 by rw [HE.out, HX.out (by omega), HY.out (by omega)]; rfl)
        clear HE HX HY
        go_wp2_with fail
        go_ret
        exact ⟨by rw [HQ.out]; rfl, HO.out⟩
end Go.Proofs.YtaioaojfdngfdaaGreatDoor
