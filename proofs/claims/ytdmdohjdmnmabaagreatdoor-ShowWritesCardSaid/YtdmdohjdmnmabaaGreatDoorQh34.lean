/- Numbers in place: those below 0 are dropped. Conditions: those of each theorem. -/
import Derived.Test.YtdmdohjdmnmabaaGreatDoorQh25
import Derived.Test.YtdmdohjdmnmabaaGreatDoorQh33
import Derived.BigFrame
import Derived.Deep.RegionHeld3
namespace Go.Proofs.YtdmdohjdmnmabaaGreatDoor
open Go.RowKit Go.Sort
set_option linter.unusedVariables false
set_option linter.unusedSimpArgs false

def ngB (x : Int) : Bool := decide (x < 0)
theorem encI_len1 (a : Int) : (encI a).length = 1 := rfl
theorem Tryz.zeroI (w : World) : (zeroValue 3).run Tryz.prog w = .ok (.int .i64 0) w := by kernel_rfl
theorem below_setCells {B g : Nat} {w0 : World} (hg : B ≤ g) : ∀ (vs : List Value) (o : Nat) (w : World), Below B w0 w → Below B w0 (w.setCells g o vs)
 | [], _, _, h => h
 | v :: r, o, w, h => below_setCells hg r (o + 1) _ (h.setCell (p := ⟨g, o, none⟩) hg v)
theorem neg_c (x : Int) (w : World) : Calls Tryz.prog 58 #[.int .i64 x] w fun e w' => e = .returned (.bool (ngB x)) ∧ w' = w := by
 have HN := hide (show ngB x = decide (x < 0) from rfl)
 obtain ⟨N, hN⟩ : ∃ N, N = ngB x := ⟨_, rfl⟩
 rw [← hN] at HN ⊢
 clear hN
 go_enter Tryz.func58, Tryz.ntmps58
 go_wp2_with fail
 go_ret
 exact ⟨by rw [HN.out]; rfl, rfl⟩
set_option maxRecDepth 100000 in
set_option maxHeartbeats 3200000 in
theorem IndexI_c (A : Option Addr) (c : Nat) (l : List Int) (w : World) (hr : Rd w NoBlk A (flat encI l)) (hn0 : l.length ≤ maxLen) :
 Calls Tryz.prog 88 #[.slice A l.length c, .func (.func 58) #[] #[]] w fun e w' => e = .returned (.int .i64 (idxG ngB l)) ∧ w' = w := by
 have hn : l.length ≤ 9223372036854775807 := hn0
 have Hc := hide (fun (k : Nat) (x : Int) (hx : l[k]? = some x) => flat_cells encI_len1 hr k x hx (by omega))
 have HPr := hide (fun (x : Int) (w' : World) => neg_c x w')
 obtain ⟨n, hnl⟩ : ∃ n, n = l.length := ⟨_, rfl⟩
 rw [← hnl] at hn ⊢
 have Hn := hide hnl
 clear hr hn0 hnl
 go_enter Tryz.func88, Tryz.ntmps88
 go_wp2_with fail
 go_loopw [8] (fun i wr => ∃ k : Nat, k ≤ n ∧ i = .int .i64 k ∧ Hid (∀ y ∈ l.take k, ngB y = false) ∧ Hid (wr = w)) (fun i _ => n - (intOf i).toNat)
 case atStart => exact ⟨0, Nat.zero_le _, rfl, hide (by simp), hide rfl⟩
 case round =>
  obtain ⟨k, hk, rfl, hnone, hbel⟩ := hrel
  by_cases hlt2 : k < n
  ·obtain ⟨x, hx⟩ : ∃ x, l[k]? = some x := ⟨l[k]'(by rw [← Hn.out]; exact hlt2), List.getElem?_eq_getElem _⟩
   obtain ⟨b2, o, rfl, _, hb2, hc⟩ := Hc.out k x hx
   have hpred := HPr.out x w
   have g0 : wr.cell? ⟨b2, o + k, none⟩ = some (.int .i64 x) := by have := hc 0 (by omega); rw [Nat.mul_one, Nat.add_zero] at this; rw [hbel.out]; exact this
   rw [hbel.out] at g0 ⊢
   have d1 : decide ((k : Int) < (n : Int)) = true := by simp; exact hlt2
   have d2 : decide (k < n) = true := by simp; exact hlt2
   have j1 : (0 : Int) ≤ (k : Int) := by omega
   have j2 : (k : Int) < (n : Int) := by omega
   have w1 : IntKind.i64.wrap ((k : Int) + 1) = (k : Int) + 1 := IntWalk.i64_in _ (by omega)
   clear hc hbel
   cases ho : ngB x with
   | true =>
    rw [ho] at hpred
    have HP := hide hpred
    have HI := hide (idxG_at ngB l k x hx hnone.out ho)
    clear hpred ho hx
    go_wp2_with (go_at_call 58; refine HP.out.mono ?_; rintro e w2 ⟨rfl, rfl⟩)
    go_ret
    exact ⟨ret_int HI.out.symm, rfl⟩
   | false =>
    rw [ho] at hpred
    have HP := hide hpred
    have HIn : Hid (∀ y ∈ l.take (k + 1), ngB y = false) := by
     intro y hy
     rw [List.take_add_one, hx] at hy
     rcases List.mem_append.1 hy with hy | hy
     ·exact hnone.out y hy
     ·simp only [Option.toList_some, List.mem_singleton] at hy
      subst hy
      exact ho
    clear hpred ho hnone hx
    go_wp2_with (go_at_call 58; refine HP.out.mono ?_; rintro e w2 ⟨rfl, rfl⟩)
    go_roundw
    case rel => exact ⟨k + 1, by omega, by go_num, HIn, hide trivial⟩
    case measure => simp [intOf]; omega
  ·have hd : decide ((k : Int) < n) = false := by simp; omega
   have hd2 : decide (k < n) = false := by simp; omega
   have HI := hide (idxG_none ngB l (fun y hy => hnone.out y (by rw [List.take_of_length_le (by rw [← Hn.out]; omega)]; exact hy)))
   go_wp2_with fail
   go_ret
   exact ⟨ret_int HI.out.symm, hbel.out⟩
theorem holds_of_lo {w : World} {g k : Nat} {K : List Int} (hK : K.length = k) (hl : ∀ t, t < k → w.cell? ⟨g, t, none⟩ = (flat encI K)[t]?) (hf : ∀ t, w.frozen? ⟨g, t, none⟩ = false) : Holds (Value.int .i64) w g 0 K.toArray := by
 intro j hj
 have hj' : j < K.length := by simpa using hj
 refine ⟨?_, hf _⟩
 rw [Nat.zero_add, hl j (by omega), flat_encI]
 simp [hj']
/-- a block of numbers -/
def Ty (w : World) (g : Nat) : Prop := ∃ cs, Blk w g 3 cs
theorem Ty.set {w : World} {g : Nat} (h : Ty w g) (i : Nat) (v : Value) : Ty (w.setCell ⟨g, i, none⟩ v) g := h.elim fun cs h => ⟨_, h.set_ i v⟩
theorem Ty.sets {g : Nat} : ∀ (vs : List Value) (o : Nat) (w : World), Ty w g → Ty (w.setCells g o vs) g
 | [], _, _, h => h
 | v :: r, o, w, h => Ty.sets r (o + 1) _ (h.set o v)
theorem Ty.map {w : World} {g : Nat} (h : Ty w g) (f : Array Value → Array Value) : Ty (mapBlock w g f) g := by
 obtain ⟨cs, h⟩ := h
 refine ⟨f cs, ?_⟩
 unfold Blk at h ⊢
 simp [mapBlock, Array.getElem?_modify, h, onCells]
theorem Ty.ahead {w : World} {g : Nat} (h : Ty w g) (n : Nat) : Ty (Sort.ahead w n) g := h
theorem Ty.grow {w : World} {g : Nat} (h : Ty w g) (os : Array Obj) : Ty (grow w os) g := by
 obtain ⟨cs, h⟩ := h
 refine ⟨cs, ?_⟩
 have hl := h.lt
 unfold Blk at h ⊢
 simp only [Go.Sort.grow]
 rw [Array.getElem?_append_left hl]
 exact h
theorem ty_of_own {w : World} {base g n c : Nat} {xs : List Value} (h : w.ownsRow base 3 1 (.slice (some ⟨g, 0, none⟩) n c) n xs) (hn : 0 < n) : Ty w g := by
 rcases h.2 with ⟨hv, h0⟩ | ⟨g', cap, cur, hv, _, hh, _⟩
 ·omega
 ·injection hv with h1 _ _
  injection h1 with h1
  injection h1 with h1 _ _
  subst h1
  exact ⟨cur, hh⟩
/-- a row of numbers that may be written in place, or nothing -/
def IRow (w : World) (base : Nat) (A : Option Addr) (c : Nat) (xs : List Int) : Prop := xs = [] ∨ ∃ g, A = some ⟨g, 0, none⟩ ∧ base ≤ g ∧ g < w.heap.size ∧ Holds (Value.int .i64) w g 0 xs.toArray ∧ xs.length ≤ c ∧ Ty w g
set_option maxRecDepth 100000 in
set_option maxHeartbeats 6400000 in
theorem DeleteI_c (base : Nat) (l : List Int) (v : Value) (w : World) (hb0 : base ≤ w.heap.size) (how : w.ownsRow base 3 1 v l.length (flat encI l)) (hn0 : l.length ≤ 100000000) :
 Calls Tryz.prog 57 #[v, .func (.func 58) #[] #[]] w fun e w' => (∃ A1 c1, e = .returned (.slice A1 (keepL ngB l).length c1) ∧ IRow w' base A1 c1 (keepL ngB l)) ∧ Below base w w' := by
 obtain ⟨VA, vc, rfl, hvc⟩ := own_cap how
 have hr := Rd.of_own (M := NoBlk) how (fun _ h => h.elim)
 have HIdx := hide (IndexI_c VA vc l w hr (by simp only [maxLen]; omega))
 have HPr := hide (fun (x : Int) (w' : World) => neg_c x w')
 by_cases hl0 : l.length = 0
 ·obtain rfl : l = [] := List.eq_nil_of_length_eq_zero hl0
  have e0 : idxG ngB ([] : List Int) = -1 := rfl
  rw [e0] at HIdx
  clear how hr HPr hb0 hl0
  go_enter Tryz.func57, Tryz.ntmps57
  go_wp2_with fail
  refine HIdx.out.mono ?_
  rintro e w1 ⟨rfl, rfl⟩
  go_wp2_with fail
  go_ret
  exact ⟨⟨VA, vc, rfl, Or.inl rfl⟩, Below.refl _ _⟩
 have hlp : 0 < l.length := by omega
 obtain ⟨g, c, hveq, hgb, hnc, hcm, hdel⟩ := del_of_own how hlp rfl encI_len1
 injection hveq with h1 _ h2
 subst h1 h2
 obtain ⟨c, hcc⟩ : ∃ c, c = vc := ⟨_, rfl⟩
 subst hcc
 have hty := hide (ty_of_own how hlp)
 have hglt : g < w.heap.size := (hdel 0 0 (Nat.le_refl _) (Nat.zero_le _)).lt
 rcases idxG_or ngB l with ⟨hm, hno⟩ | ⟨k0, hk0, hm, hno⟩
 ·rw [hm] at HIdx
  have HK := hide (keep_none hno)
  have hd := hdel l.length l.length (Nat.le_refl _) (Nat.le_refl _)
  rw [List.take_length] at hd
  have HH := hide (holds_of_lo (K := l) (k := l.length) rfl (fun t ht => by have := hd.lo t (by omega); exact this) hd.fr)
  have Hg := hide (And.intro hgb (And.intro hglt hnc))
  clear hm hno how hr HPr hb0 hdel hd hlp hl0 hgb hglt hnc
  go_enter Tryz.func57, Tryz.ntmps57
  go_wp2_with fail
  refine HIdx.out.mono ?_
  rintro e w1 ⟨rfl, rfl⟩
  go_wp2_with fail
  go_ret
  rw [HK.out]
  exact ⟨⟨_, c, rfl, Or.inr ⟨g, rfl, Hg.out.1, Hg.out.2.1, HH.out, Hg.out.2.2, hty.out⟩⟩, Below.refl _ _⟩
 ·have hD0 := hdel k0 (k0 + 1) (by omega) (by omega)
  have hK0 : keepL ngB (l.take k0) = l.take k0 := keep_none hno
  obtain ⟨x0, hx0⟩ : ∃ x, l[k0]? = some x := ⟨l[k0], List.getElem?_eq_getElem _⟩
  have hp0 : ngB x0 = true := by
   have h1 := hm
   unfold idxG at h1
   split at h1
   ·rename_i ha
    have hf : l.findIdx ngB < l.length := List.findIdx_lt_length.2 (by simpa using List.any_eq_true.1 ha)
    have : l.findIdx ngB = k0 := by omega
    subst this
    have := List.findIdx_getElem (p := ngB) (xs := l) (w := hf)
    rw [List.getElem?_eq_getElem hf] at hx0
    injection hx0 with hx0
    rw [← hx0]; exact this
   ·omega
  have hKs := keep_succ ngB l k0 x0 hx0
  rw [hK0, if_pos hp0, List.append_nil] at hKs
  rw [hm] at HIdx
  have HKp := hide (show ∀ (q : Nat) (x : Int), l[q]? = some x → keepL ngB (l.take (q + 1)) = keepL ngB (l.take q) ++ (if ngB x = true then [] else [x]) from fun q x hx => keep_succ ngB l q x hx)
  have HLast := hide (show keepL ngB (l.take l.length) = keepL ngB l by rw [List.take_length])
  have HKl := hide (show (l.take k0).length = k0 by rw [List.length_take]; omega)
  rw [← hKs] at hD0 HKl
  obtain ⟨n, hnl⟩ : ∃ n, n = l.length := ⟨_, rfl⟩
  rw [← hnl] at hD0 HIdx HLast hk0 hlp hn0 hnc ⊢
  have Hn := hide hnl
  have HD0 := hide hD0
  have HO0 := hide (Below.refl base w)
  have HGL := hide (show ∀ q, q < n → ∃ x, l[q]? = some x from fun q hq => ⟨l[q]'(by rw [← hnl]; exact hq), List.getElem?_eq_getElem _⟩)
  have hcm' : c ≤ 9223372036854775807 := hcm
  have w0 : IntKind.i64.wrap ((k0 : Int) + 1) = ((k0 + 1 : Nat) : Int) := by rw [IntWalk.i64_in _ (by omega)]; omega
  clear hm hno how hr hdel hK0 hx0 hp0 hKs hD0 hnl hcm hb0 hl0
  have e0 : ((k0 : Int) == -1) = false := by simp
  go_enter Tryz.func57, Tryz.ntmps57
  go_wp2_with fail
  refine HIdx.out.mono ?_
  rintro e w1 ⟨rfl, hw1⟩
  rw [hw1]
  clear hw1
  go_wp2_with fail
  go_loopw [5, 6] (fun i j wr => ∃ k q : Nat, k < q ∧ q ≤ n ∧ i = .int .i64 k ∧ j = .int .i64 q ∧ Hid ((keepL ngB (l.take q)).length = k) ∧ Hid (DelAt encI 1 wr g n k q (keepL ngB (l.take q)) l) ∧ Hid (Below base w wr) ∧ Hid (Ty wr g)) (fun _ j _ => n - (intOf j).toNat)
  case atStart => exact ⟨k0, k0 + 1, by omega, by omega, rfl, rfl, HKl, HD0, HO0, hty⟩
  case round =>
   clear HD0 HO0 HKl w0 hk0 e0 HIdx hty
   obtain ⟨k, q, hkq, hqn, rfl, rfl, HL, HD, HO, HY⟩ := hrel
   by_cases hlt : q < n
   ·obtain ⟨x, hx⟩ := HGL.out q hlt
    have g0 : wr.cell? ⟨g, q, none⟩ = some (.int .i64 x) := by have := HD.out.at_ encI_len1 x hx hlt 0 (by omega); rw [Nat.mul_one, Nat.add_zero] at this; exact this
    have hpred := HPr.out x wr
    have HKq := hide (HKp.out q x hx)
    have d1 : decide ((q : Int) < (n : Int)) = true := by simp; exact hlt
    have d2 : decide (q < n) = true := by simp; exact hlt
    have j1 : (0 : Int) ≤ (q : Int) := by omega
    have j2 : (q : Int) < (n : Int) := by omega
    have w1 : IntKind.i64.wrap ((q : Int) + 1) = (q : Int) + 1 := IntWalk.i64_in _ (by omega)
    have w2' : IntKind.i64.wrap ((k : Int) + 1) = (k : Int) + 1 := IntWalk.i64_in _ (by omega)
    have i1 : (0 : Int) ≤ (k : Int) := by omega
    have i2 : (k : Int) < (n : Int) := by omega
    cases ho : ngB x with
    | true =>
     rw [ho] at hpred HKq
     have HP := hide hpred
     have HK1 := hide (show keepL ngB (l.take (q + 1)) = keepL ngB (l.take q) by rw [HKq.out]; simp)
     clear hpred ho hx
     go_wp2_with (go_at_call 58; refine HP.out.mono ?_; rintro e w3 ⟨rfl, hw3⟩; rw [hw3]; clear hw3)
     have HD3 := hide (show DelAt encI 1 wr g n k (q + 1) (keepL ngB (l.take (q + 1))) l by rw [HK1.out]; exact HD.out.skip)
     have HL3 := hide (show (keepL ngB (l.take (q + 1))).length = k by rw [HK1.out]; exact HL.out)
     go_roundw
     case rel => exact ⟨k, q + 1, by omega, by omega, rfl, by go_num, HL3, HD3, HO, HY⟩
     case measure => simp [intOf]; omega
    | false =>
     rw [ho] at hpred HKq
     have HP := hide hpred
     have HK1 := hide (show keepL ngB (l.take (q + 1)) = keepL ngB (l.take q) ++ [x] by rw [HKq.out]; simp)
     have HXq := hide hx
     obtain ⟨u0, c0⟩ := HD.out.some_ (show k < n by omega) 0 (by omega)
     rw [Nat.mul_one, Nat.add_zero] at c0
     have f0 := HD.out.fr k
     have HD4 := hide (show DelAt encI 1 (wr.setCell ⟨g, k, none⟩ (.int .i64 x)) g n (k + 1) (q + 1) (keepL ngB (l.take (q + 1))) l by
      have := HD.out.store encI_len1 HL.out x HXq.out hkq hlt
      rw [← HK1.out, Nat.mul_one] at this
      exact this)
     have HO4 := hide (HO.out.setCell (p := ⟨g, k, none⟩) hgb (.int .i64 x))
     have HY4 := hide (HY.out.set k (.int .i64 x))
     have HL4 := hide (show (keepL ngB (l.take (q + 1))).length = k + 1 by rw [HK1.out, List.length_append, HL.out]; rfl)
     clear hpred ho hx
     go_wp2_with (go_at_call 58; refine HP.out.mono ?_; rintro e w3 ⟨rfl, hw3⟩; rw [hw3]; clear hw3)
     go_roundw
     case rel => exact ⟨k + 1, q + 1, by omega, by omega, by go_num, by go_num, HL4, HD4, HO4, HY4⟩
     case measure => simp [intOf]; omega
   ·obtain rfl : q = n := by omega
    have d1 : decide ((q : Int) < (q : Int)) = false := by simp
    have d2 : decide (q < q) = false := by simp
    have i1 : (0 : Int) ≤ (k : Int) := by omega
    have i2 : (k : Int) ≤ (q : Int) := by omega
    have i3 : (k : Int) ≤ (c : Int) := by omega
    have i4 : ¬ k = c := by omega
    have i5 : ¬ c = k := by omega
    obtain ⟨vs, hcl⟩ := run_clear_rows (P := Tryz.prog) wr 58 3 (.int .i64 0) [.int .i64 0] Tryz.underlying58 Tryz.zeroI rfl (by simp) (by intro u hu; simp at hu; subst hu; rfl) g k (q - k) (c - k) (by omega)
     (fun j hj => HD.out.so _ (by simp only [List.length_cons, List.length_nil] at hj; omega)) (fun j hj => HD.out.fr _)
    have HRd := hide (show Holds (Value.int .i64) (wr.setCells g k vs) g 0 (keepL ngB l).toArray by
     rw [← HLast.out]
     refine holds_of_lo HL.out (fun t ht => ?_) (fun t => by rw [frozen_setCells]; exact HD.out.fr t)
     rw [cell_out (Or.inl ht)]
     exact HD.out.lo t (by omega))
    rw [HLast.out] at HL
    have HO5 := hide (below_setCells hgb vs k _ HO.out)
    have Hg5 := hide (show g < (wr.setCells g k vs).heap.size by have := (only_setCells g vs k wr).size; have := HD.out.lt; omega)
    clear HD HO HKp HGL HPr
    go_wp2_with (simp only [hcl])
    go_ret
    exact ⟨⟨_, c, by rw [HL.out]; rfl, Or.inr ⟨g, rfl, hgb, Hg5.out, HRd.out, by rw [HL.out]; omega, Ty.sets vs k _ HY.out⟩⟩, HO5.out⟩
end Go.Proofs.YtdmdohjdmnmabaaGreatDoor
