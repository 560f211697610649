/- The life of one. Conditions: those of each theorem. -/
import Derived.Test.YtdmdohjdmnmabaaGreatQw16
namespace Go.Proofs.YtdmdohjdmnmabaaGreat
open Go.RowKit
set_option linter.unusedVariables false

/-- a life that is returned, or none -/
def RetLife (M : Nat → Prop) (id : Int) (o : Option LifeM) (tail : Bool → List Value → Prop) (w : World) (e : Ending) (w' : World) : Prop :=
 Below w.heap.size w w' ∧ match o with
 | none => ∃ r, tail false r ∧ e = .returned (.tuple (.agg #[.int .i64 0, .int .i64 0, .int .i64 0, .slice none 0 0, .slice none 0 0, .string ⟨#[]⟩, .string ⟨#[]⟩, .bool false, .int .i64 0] :: r).toArray)
 | some f => ∃ A c B d r, tail true r ∧ e = .returned (.tuple (.agg #[.int .i64 id, .int .i64 f.script, .int .i64 f.start, .slice A f.ins.length c, .slice B f.steps.length d, .string f.read, .string f.taken, .bool f.eof, .int .i64 f.status] :: r).toArray) ∧
  Rd w' M A (flat encInp f.ins) ∧ Rd w' M B (flat encStp f.steps) ∧ f.ins.length ≤ c ∧ f.steps.length ≤ d
theorem clock_succ (c : Int) (l : List Ev) (k : Nat) (h : k < l.length) : clockOf c (l.take (k + 1)) = if (evAt l k).k = 1 then (evAt l k).tick else clockOf c (l.take k) := by
 have e : evAt l k = l[k] := by simp [evAt, List.getD, h]
 unfold clockOf
 rw [List.take_succ_eq_append_getElem h, List.foldl_append, e]
 rfl
theorem fold_succ (id : Int) (f : LifeM) (l : List Ev) (k : Nat) (h : k < l.length) : (l.take (k + 1)).foldl (addL id) f = addL id ((l.take k).foldl (addL id) f) (evAt l k) := by
 have e : evAt l k = l[k] := by simp [evAt, List.getD, h]
 rw [List.take_succ_eq_append_getElem h, List.foldl_append, e]
 rfl
/-- how much a life may hold behind k events of texts up to 100 -/
structure Small (f : LifeM) (k : Nat) : Prop where
 ins : f.ins.length ≤ k
 steps : f.steps.length ≤ k
 read : f.read.size ≤ 100 * k
 taken : f.taken.size ≤ 100 * k
theorem Small.add {id : Int} {f : LifeM} {k : Nat} (h : Small f k) (x : Ev) (hx : x.s.size ≤ 100) : Small (addL id f x) (k + 1) := by
 have h1 := h.ins; have h2 := h.steps; have h3 := h.read; have h4 := h.taken
 have sz : ∀ a b : ByteArray, (a ++ b).size = a.size + b.size := fun a b => by rw [← ba_size, ba_app, List.length_append, ba_size, ba_size]
 unfold addL
 repeat' split
 all_goals constructor
 all_goals try simp only [List.length_append, List.length_cons, List.length_nil, sz]
 all_goals omega
theorem small_fold (id : Int) (s t : Int) (l : List Ev) (hx : ∀ x ∈ l, x.s.size ≤ 100) : ∀ k, k ≤ l.length → Small ((l.take k).foldl (addL id) (life0 s t)) k := by
 intro k
 induction k with
 | zero => intro _; exact ⟨Nat.le_refl _, Nat.le_refl _, Nat.le_refl _, Nat.le_refl _⟩
 | succ k ih =>
  intro hk
  rw [fold_succ id _ l k (by omega)]
  refine (ih (by omega)).add _ (hx _ ?_)
  have e : evAt l k = l[k]'(by omega) := by simp [evAt, List.getD, show k < l.length by omega]
  rw [e]; exact List.getElem_mem _
theorem split_at (l : List Ev) (k : Nat) (h : k < l.length) : l = l.take k ++ evAt l k :: l.drop (k + 1) := by
 have e : evAt l k = l[k] := by simp [evAt, List.getD, h]
 rw [e, List.getElem_cons_drop, List.take_append_drop]
theorem open_or (id : Int) (l : List Ev) : (idxO id l = -1 ∧ lifeGo id 0 l = none) ∨ ∃ k, k < l.length ∧ idxO id l = k ∧ lifeGo id 0 l = some ((l.drop (k + 1)).foldl (addL id) (life0 (evAt l k).n (clockOf 0 (l.take k)))) := by
 by_cases h : ∀ y ∈ l, opens id y = false
 ·exact Or.inl ⟨idxO_none id l h, lifeGo_none id l h 0⟩
 ·right
  have hk : l.findIdx (opens id) < l.length := by
   rw [List.findIdx_lt_length]
   simp only [Classical.not_forall] at h
   obtain ⟨y, hy, ho⟩ := h
   exact ⟨y, hy, by simpa using ho⟩
  refine ⟨l.findIdx (opens id), hk, ?_⟩
  have e : evAt l (l.findIdx (opens id)) = l[l.findIdx (opens id)] := by simp [evAt, List.getD, hk]
  have hx : opens id (evAt l (l.findIdx (opens id))) = true := by rw [e]; exact List.findIdx_getElem
  have hp : ∀ y ∈ l.take (l.findIdx (opens id)), opens id y = false := by
   intro y hy
   rw [List.mem_take_iff_getElem] at hy
   obtain ⟨j, hj, rfl⟩ := hy
   have := List.not_of_lt_findIdx (p := opens id) (xs := l) (i := j) (by omega)
   simpa using this
  refine ⟨idxO_at id l _ hk hp hx, ?_⟩
  have hs := split_at l _ hk
  conv => lhs; rw [hs]
  exact lifeGo_at id _ _ _ hp hx 0
theorem below_drew' {B : Nat} {w0 w : World} (h : Below B w0 w) : Below B w0 w.drew := ⟨h.os, h.tape, h.output, h.size, h.block⟩
theorem Blk.put9 {w : World} {g : Nat} {t : TypeId} {a b c d e f i j k : Value} (h : Blk w g t #[a, b, c, d, e, f, i, j, k]) (v0 v1 v2 v3 v4 v5 v6 v7 v8 : Value) : Blk (((((((((w.setCell ⟨g, 0, none⟩ v0).setCell ⟨g, 1, none⟩ v1).setCell ⟨g, 2, none⟩ v2).setCell ⟨g, 3, none⟩ v3).setCell ⟨g, 4, none⟩ v4).setCell ⟨g, 5, none⟩ v5).setCell ⟨g, 6, none⟩ v6).setCell ⟨g, 7, none⟩ v7).setCell ⟨g, 8, none⟩ v8).drew g t #[v0, v1, v2, v3, v4, v5, v6, v7, v8] := by
 have q := (((((((((h.set_ 0 v0).set_ 1 v1).set_ 2 v2).set_ 3 v3).set_ 4 v4).set_ 5 v5).set_ 6 v6).set_ 7 v7).set_ 8 v8).drew
 simpa using q
theorem below_put9 {B g : Nat} {w0 w : World} (h : Below B w0 w) (hg : B ≤ g) (v0 v1 v2 v3 v4 v5 v6 v7 v8 : Value) : Below B w0 (((((((((w.setCell ⟨g, 0, none⟩ v0).setCell ⟨g, 1, none⟩ v1).setCell ⟨g, 2, none⟩ v2).setCell ⟨g, 3, none⟩ v3).setCell ⟨g, 4, none⟩ v4).setCell ⟨g, 5, none⟩ v5).setCell ⟨g, 6, none⟩ v6).setCell ⟨g, 7, none⟩ v7).setCell ⟨g, 8, none⟩ v8).drew := below_drew' (((((((((h.setCell (p := ⟨g, 0, none⟩) hg v0).setCell (p := ⟨g, 1, none⟩) hg v1).setCell (p := ⟨g, 2, none⟩) hg v2).setCell (p := ⟨g, 3, none⟩) hg v3).setCell (p := ⟨g, 4, none⟩) hg v4).setCell (p := ⟨g, 5, none⟩) hg v5).setCell (p := ⟨g, 6, none⟩) hg v6).setCell (p := ⟨g, 7, none⟩) hg v7).setCell (p := ⟨g, 8, none⟩) hg v8)
theorem Rd.put9 {w : World} {g : Nat} {M : Nat → Prop} {A : Option Addr} {xs : List Value} (h : Rd w M A xs) (hg : M g) (v0 v1 v2 v3 v4 v5 v6 v7 v8 : Value) : Rd (((((((((w.setCell ⟨g, 0, none⟩ v0).setCell ⟨g, 1, none⟩ v1).setCell ⟨g, 2, none⟩ v2).setCell ⟨g, 3, none⟩ v3).setCell ⟨g, 4, none⟩ v4).setCell ⟨g, 5, none⟩ v5).setCell ⟨g, 6, none⟩ v6).setCell ⟨g, 7, none⟩ v7).setCell ⟨g, 8, none⟩ v8).drew M A xs := (((((((((h.set_ (p := ⟨g, 0, none⟩) hg v0).set_ (p := ⟨g, 1, none⟩) hg v1).set_ (p := ⟨g, 2, none⟩) hg v2).set_ (p := ⟨g, 3, none⟩) hg v3).set_ (p := ⟨g, 4, none⟩) hg v4).set_ (p := ⟨g, 5, none⟩) hg v5).set_ (p := ⟨g, 6, none⟩) hg v6).set_ (p := ⟨g, 7, none⟩) hg v7).set_ (p := ⟨g, 8, none⟩) hg v8).drew
set_option maxRecDepth 100000 in
set_option maxHeartbeats 3200000 in
theorem of_c (M : Nat → Prop) (A : Option Addr) (c : Nat) (l : List Ev) (id : Int) (w : World) (hr : Rd w M A (flat encEv l)) (hn : l.length ≤ 10000) (hx : ∀ x ∈ l, x.s.size ≤ 100) (hlc : l.length ≤ c) (hM : ∀ k, M k → k < w.heap.size) :
 Calls Tryz.prog 108 #[.slice A l.length c, .int .i64 id] w (RetLife M id (lifeGo id 0 l) (fun ok r => ∃ v, r = [v, .bool ok]) w) := by
 obtain ⟨W, hW⟩ : ∃ W, W = (((w.alloc (.cells #[.int .i64 id] 3)).alloc (.cells #[.int .i64 0, .int .i64 0, .int .i64 0, .slice none 0 0, .slice none 0 0, .string ⟨#[]⟩, .string ⟨#[]⟩, .bool false, .int .i64 0] 118)).alloc (.cells #[.int .i64 id, .int .i64 0, .int .i64 0, .slice none 0 0, .slice none 0 0, .string ⟨#[]⟩, .string ⟨#[]⟩, .bool false, .int .i64 0] 118)).alloc (.cells #[.slice none 0 0] 165) := ⟨_, rfl⟩
 have bI : Blk W w.heap.size 3 #[.int .i64 id] := by rw [hW]; exact (((Blk.new w _ _).alloc _).alloc _).alloc _
 have bR : Blk W (w.heap.size + 1) 118 #[.int .i64 0, .int .i64 0, .int .i64 0, .slice none 0 0, .slice none 0 0, .string ⟨#[]⟩, .string ⟨#[]⟩, .bool false, .int .i64 0] := by rw [hW]; exact ((Blk.new' (by simp)).alloc _).alloc _
 have bF : Blk W (w.heap.size + 1 + 1) 118 #[.int .i64 id, .int .i64 0, .int .i64 0, .slice none 0 0, .slice none 0 0, .string ⟨#[]⟩, .string ⟨#[]⟩, .bool false, .int .i64 0] := by rw [hW]; exact (Blk.new' (by simp)).alloc _
 have bW : Blk W (w.heap.size + 1 + 1 + 1) 165 #[.slice none 0 0] := by rw [hW]; exact Blk.new' (by simp)
 have lW : Below w.heap.size w W := by rw [hW]; exact ((((Below.refl _ _).alloc (Nat.le_refl _) _).alloc (by simp) _).alloc (by simp; omega) _).alloc (by simp; omega) _
 have hrW := hr.below lW
 have HW := hide hW
 have HI := hide bI
 have HR := hide bR
 have HF := hide bF
 have HWn := hide bW
 have LW := hide lW
 have HRW := hide hrW
 have HM := hide hM
 have HX := hide hx
 rcases open_or id l with ⟨hi, hl⟩ | ⟨k, hk, hi, hl⟩
 ·have hc := IndexO_c M A c l id w.heap.size W hrW (by unfold maxLen; omega) (bI.cell 0) bI.lt
  rw [hi] at hc
  rw [hl]
  have HC := hide hc
  clear hW bI bR bF bW lW hrW hi hl hr hM hx hc
  go_enter Tryz.func108, Tryz.ntmps108
  go_wp2_with fail
  rw [← HW.out]
  refine HC.out.mono ?_
  rintro e w1 ⟨rfl, hb1⟩
  obtain ⟨⟨z0, z1, z2, z3, z4, z5, z6, z7, z8⟩, f0, f1, f2, f3, f4, f5, f6, f7, f8⟩ := (HR.out.below hb1).nine
  have hbb := hide (LW.out.trans (hb1.mono LW.out.size))
  clear hb1
  go_wp2_with fail
  refine bodyPost_ret (v := .tuple #[.agg #[.int .i64 0, .int .i64 0, .int .i64 0, .slice none 0 0, .slice none 0 0, .string ⟨#[]⟩, .string ⟨#[]⟩, .bool false, .int .i64 0], .slice none 0 0, .bool false]) (by simp [results, Tryz.results108, go_sem, z0, z1, z2, z3, z4, z5, z6, z7, z8]) rfl ?_
  refine ⟨?_, [.slice none 0 0, .bool false], ⟨_, rfl⟩, rfl⟩
  exact (((((((((hbb.out.setCell (p := ⟨w.heap.size + 1, 0, none⟩) (by simp) _).setCell (p := ⟨w.heap.size + 1, 1, none⟩) (by simp) _).setCell (p := ⟨w.heap.size + 1, 2, none⟩) (by simp) _).setCell (p := ⟨w.heap.size + 1, 3, none⟩) (by simp) _).setCell (p := ⟨w.heap.size + 1, 4, none⟩) (by simp) _).setCell (p := ⟨w.heap.size + 1, 5, none⟩) (by simp) _).setCell (p := ⟨w.heap.size + 1, 6, none⟩) (by simp) _).setCell (p := ⟨w.heap.size + 1, 7, none⟩) (by simp) _).setCell (p := ⟨w.heap.size + 1, 8, none⟩) (by simp) _)
 ·have hc := IndexO_c M A c l id w.heap.size W hrW (by unfold maxLen; omega) (bI.cell 0) bI.lt
  rw [hi] at hc
  rw [hl]
  have HC := hide hc
  have HE := hide (fun j hj => ev_cells hr j hj)
  have HL := hide (small_fold id (evAt l k).n (clockOf 0 (l.take k)) (l.drop (k + 1)) (fun x hx' => hx x (List.mem_of_mem_drop hx')))
  obtain ⟨b, o, rfl, -⟩ := ev_cells hr k hk
  obtain ⟨n, hnl⟩ : ∃ n, n = l.length := ⟨_, rfl⟩
  rw [← hnl] at hn hlc hk HC ⊢
  have Hn := hide hnl
  clear hW bI bR bF bW lW hrW hi hl hr hM hx hc hnl
  go_enter Tryz.func108, Tryz.ntmps108
  go_wp2_with fail
  rw [← HW.out]
  refine HC.out.mono ?_
  rintro e w1 ⟨rfl, hb1⟩
  have gR := hide (HR.out.below hb1)
  have gF := hide (HF.out.below hb1)
  have gW := hide (HWn.out.below hb1)
  have hbb := hide (LW.out.trans (hb1.mono LW.out.size))
  clear hb1
  go_wp2_with fail
  go_loopw [26] (fun i wr => ∃ j : Nat, j ≤ k ∧ i = .int .i64 j ∧ Hid (Blk wr (w.heap.size + 1 + 1) 118 #[.int .i64 id, .int .i64 0, .int .i64 (clockOf 0 (l.take j)), .slice none 0 0, .slice none 0 0, .string ⟨#[]⟩, .string ⟨#[]⟩, .bool false, .int .i64 0]) ∧ Hid (Blk wr (w.heap.size + 1) 118 #[.int .i64 0, .int .i64 0, .int .i64 0, .slice none 0 0, .slice none 0 0, .string ⟨#[]⟩, .string ⟨#[]⟩, .bool false, .int .i64 0]) ∧ Hid (Blk wr (w.heap.size + 1 + 1 + 1) 165 #[.slice none 0 0]) ∧ Hid (Below w.heap.size w wr)) (fun i _ => k - (intOf i).toNat)
  case atStart => exact ⟨0, Nat.zero_le _, rfl, gF, gR, gW, hbb⟩
  case round =>
   obtain ⟨j, hj, rfl, qF, qR, qW, qb⟩ := hrel
   by_cases hlt : j < k
   ·obtain ⟨b2, o2, hbo, _, hb, g0, g1, g2, g3, g4, g5, g6, g7, g8, g9, g10, g11⟩ := HE.out j (by rw [← Hn.out]; omega)
    injection hbo with hbo
    injection hbo with hb1 ho1
    subst hb1; subst ho1
    replace g0 := bkeepL qb.out hb g0
    replace g1 := bkeepL qb.out hb g1
    replace g2 := bkeepL qb.out hb g2
    replace g3 := bkeepL qb.out hb g3
    replace g4 := bkeepL qb.out hb g4
    replace g5 := bkeepL qb.out hb g5
    replace g6 := bkeepL qb.out hb g6
    replace g7 := bkeepL qb.out hb g7
    replace g8 := bkeepL qb.out hb g8
    replace g9 := bkeepL qb.out hb g9
    replace g10 := bkeepL qb.out hb g10
    replace g11 := bkeepL qb.out hb g11
    have HS := hide (clock_succ 0 l j (by rw [← Hn.out]; omega))
    obtain ⟨x, hx⟩ : ∃ x, x = evAt l j := ⟨_, rfl⟩
    rw [← hx] at g0 g1 g2 g3 g4 g5 g6 g7 g8 g9 g10 g11 HS
    clear hx
    obtain ⟨⟨z0, z1, z2, z3, z4, z5, z6, z7, z8⟩, f0, f1, f2, f3, f4, f5, f6, f7, f8⟩ := qF.out.nine
    have hne : ¬ w.heap.size + 1 + 1 = wr.heap.size := by have := qF.out.lt; omega
    have hne2 : ¬ wr.heap.size = w.heap.size + 1 + 1 := by have := qF.out.lt; omega
    have f2a := (qF.out.alloc (.cells (evV x) 82)).frozen 2
    have z2a : (wr.alloc (.cells (evV x) 82)).cell? ⟨w.heap.size + 1 + 1, 2, none⟩ = some (.int .i64 (clockOf 0 (l.take j))) := by rw [(qF.out.alloc _).cell]; rfl
    simp only [evV] at f2a z2a
    cases hk1 : (x.k == 1) with
    | true =>
     go_wp2_with fail
     go_roundw
     case rel =>
      refine ⟨j + 1, by omega, by go_num, ?_, ?_, ?_, ?_⟩
      ·rw [HS.out, if_pos (by simpa using hk1)]
       exact hide ((qF.out.alloc _).set_ 2 _)
      ·exact hide ((qR.out.alloc _).far (p := ⟨w.heap.size + 1 + 1, 2, none⟩) (by simp) _)
      ·exact hide ((qW.out.alloc _).far (p := ⟨w.heap.size + 1 + 1, 2, none⟩) (by simp) _)
      ·exact hide ((qb.out.alloc qb.out.size _).setCell (p := ⟨w.heap.size + 1 + 1, 2, none⟩) (by simp; omega) _)
     case measure => simp [intOf]; omega
    | false =>
     go_wp2_with fail
     go_roundw
     case rel =>
      refine ⟨j + 1, by omega, by go_num, ?_, ?_, ?_, ?_⟩
      ·rw [HS.out, if_neg (by simpa using hk1)]
       exact hide (qF.out.alloc _)
      ·exact hide (qR.out.alloc _)
      ·exact hide (qW.out.alloc _)
      ·exact hide (qb.out.alloc qb.out.size _)
     case measure => simp [intOf]; omega
   ·have hjk : j = k := by omega
    subst hjk
    have hd : decide ((j : Int) < j) = false := by simp
    obtain ⟨b2, o2, hbo, _, hb, g0, g1, g2, g3, g4, g5, g6, g7, g8, g9, g10, g11⟩ := HE.out j (by rw [← Hn.out]; omega)
    injection hbo with hbo
    injection hbo with hb1 ho1
    subst hb1; subst ho1
    replace g2 := bkeepL qb.out hb g2
    clear g0 g1 g3 g4 g5 g6 g7 g8 g9 g10 g11
    obtain ⟨⟨z0, z1, z2, z3, z4, z5, z6, z7, z8⟩, f0, f1, f2, f3, f4, f5, f6, f7, f8⟩ := qF.out.nine
    have sF := hide (qF.out.set_ 1 (.int .i64 (evAt l j).n))
    have sR := hide (qR.out.far (p := ⟨w.heap.size + 1 + 1, 1, none⟩) (by simp) (.int .i64 (evAt l j).n))
    have sW := hide (qW.out.far (p := ⟨w.heap.size + 1 + 1, 1, none⟩) (by simp) (.int .i64 (evAt l j).n))
    have sb := hide (qb.out.setCell (p := ⟨w.heap.size + 1 + 1, 1, none⟩) (by simp; omega) (.int .i64 (evAt l j).n))
    have hlife : LifeAt (wr.setCell ⟨w.heap.size + 1 + 1, 1, none⟩ (.int .i64 (evAt l j).n)) (w.heap.size + 1 + 1) (w.heap.size + 1 + 1) (w.heap.size + 1 + 1 + 1) id (life0 (evAt l j).n (clockOf 0 (l.take j))) :=
     ⟨⟨_, _, sF.out, ⟨rfl, Or.inl ⟨rfl, rfl⟩⟩, ⟨rfl, Or.inl ⟨rfl, rfl⟩⟩⟩, ⟨_, [], sW.out, ⟨rfl, Or.inl ⟨rfl, rfl⟩⟩⟩, Nat.le_refl _, by omega⟩
    have HLife := hide hlife
    clear hlife
    by_cases hcc : c = j + 1
    ·go_wp2_with fail
     generalize wr.setCell ⟨w.heap.size + 1 + 1, 1, none⟩ (.int .i64 (evAt l j).n) = wq at sR sb HLife ⊢
     clear z0 z1 z2 z3 z4 z5 z6 z7 z8 f0 f1 f2 f3 f4 f5 f6 f7 f8 g2
     go_loopw [48] (fun i wr => ∃ q : Nat, q ≤ n - (j + 1) ∧ i = .int .i64 q ∧ Hid (LifeAt wr (w.heap.size + 1 + 1) (w.heap.size + 1 + 1) (w.heap.size + 1 + 1 + 1) id (((l.drop (j + 1)).take q).foldl (addL id) (life0 (evAt l j).n (clockOf 0 (l.take j))))) ∧ Hid (Blk wr (w.heap.size + 1) 118 #[.int .i64 0, .int .i64 0, .int .i64 0, .slice none 0 0, .slice none 0 0, .string ⟨#[]⟩, .string ⟨#[]⟩, .bool false, .int .i64 0]) ∧ Hid (Below w.heap.size w wr)) (fun i _ => (n - (j + 1)) - (intOf i).toNat)
     case atStart => exact ⟨0, Nat.zero_le _, rfl, HLife, sR, sb⟩
     case round =>
      obtain ⟨q, hq, rfl, tL, tR, tb⟩ := hrel
      by_cases hlt : q < n - (j + 1)
      ·exfalso; omega
      ·have hd : decide ((q : Int) < ((n - (j + 1) : Nat) : Int)) = false := by simp; omega
       have hd2 : decide (q < n - (j + 1)) = false := by simp; omega
       obtain ⟨vi, vs, tF, ti, ts⟩ := tL.out.own
       obtain ⟨vw, xs, tW, -⟩ := tL.out.want
       obtain ⟨A1, c1, rfl, hc1⟩ := own_cap ti
       obtain ⟨A2, c2, rfl, hc2⟩ := own_cap ts
       have hft : (l.drop (j + 1)).take q = l.drop (j + 1) := List.take_of_length_le (by rw [List.length_drop, ← Hn.out]; omega)
       rw [hft] at tF ti ts hc1 hc2
       obtain ⟨f, hf⟩ : ∃ f, f = (l.drop (j + 1)).foldl (addL id) (life0 (evAt l j).n (clockOf 0 (l.take j))) := ⟨_, rfl⟩
       rw [← hf] at tF ti ts hc1 hc2
       have rI := hide (Rd.of_own (M := fun k => M k ∨ k = w.heap.size + 1) ti (fun k hk => hk.elim (fun hk => by have := HM.out k hk; omega) (fun hk => by omega)))
       have rS := hide (Rd.of_own (M := fun k => M k ∨ k = w.heap.size + 1) ts (fun k hk => hk.elim (fun hk => by have := HM.out k hk; omega) (fun hk => by omega)))
       have HFE := hide hf
       clear hf hft ti ts tL
       obtain ⟨⟨z0, z1, z2, z3, z4, z5, z6, z7, z8⟩, f0, f1, f2, f3, f4, f5, f6, f7, f8⟩ := tF.nine
       obtain ⟨⟨y0, y1, y2, y3, y4, y5, y6, y7, y8⟩, e0, e1, e2, e3, e4, e5, e6, e7, e8⟩ := tR.out.nine
       have v0 : wr.cell? ⟨w.heap.size + 1 + 1 + 1, 0, none⟩ = some vw := by rw [tW.cell]; rfl
       clear tF tW
       go_wp2_with fail
       go_region
       obtain ⟨wz, hz⟩ : ∃ wz, wz = (((((((((wr.setCell ⟨w.heap.size + 1, 0, none⟩ (.int .i64 id)).setCell ⟨w.heap.size + 1, 1, none⟩ (.int .i64 f.script)).setCell ⟨w.heap.size + 1, 2, none⟩ (.int .i64 f.start)).setCell ⟨w.heap.size + 1, 3, none⟩ (.slice A1 f.ins.length c1)).setCell ⟨w.heap.size + 1, 4, none⟩ (.slice A2 f.steps.length c2)).setCell ⟨w.heap.size + 1, 5, none⟩ (.string f.read)).setCell ⟨w.heap.size + 1, 6, none⟩ (.string f.taken)).setCell ⟨w.heap.size + 1, 7, none⟩ (.bool f.eof)).setCell ⟨w.heap.size + 1, 8, none⟩ (.int .i64 f.status)).drew := ⟨_, rfl⟩
       have tB : Blk wz (w.heap.size + 1) 118 #[.int .i64 id, .int .i64 f.script, .int .i64 f.start, .slice A1 f.ins.length c1, .slice A2 f.steps.length c2, .string f.read, .string f.taken, .bool f.eof, .int .i64 f.status] := by rw [hz]; exact tR.out.put9 (.int .i64 id) (.int .i64 f.script) (.int .i64 f.start) (.slice A1 f.ins.length c1) (.slice A2 f.steps.length c2) (.string f.read) (.string f.taken) (.bool f.eof) (.int .i64 f.status)
       have lB := hide (show Below w.heap.size w wz from by rw [hz]; exact below_put9 tb.out (by omega) (.int .i64 id) (.int .i64 f.script) (.int .i64 f.start) (.slice A1 f.ins.length c1) (.slice A2 f.steps.length c2) (.string f.read) (.string f.taken) (.bool f.eof) (.int .i64 f.status))
       have qI := hide (show Rd wz M A1 (flat encInp f.ins) from by rw [hz]; exact (rI.out.put9 (g := w.heap.size + 1) (Or.inr rfl) (.int .i64 id) (.int .i64 f.script) (.int .i64 f.start) (.slice A1 f.ins.length c1) (.slice A2 f.steps.length c2) (.string f.read) (.string f.taken) (.bool f.eof) (.int .i64 f.status)).mono (fun _ h => Or.inl h))
       have qS := hide (show Rd wz M A2 (flat encStp f.steps) from by rw [hz]; exact (rS.out.put9 (g := w.heap.size + 1) (Or.inr rfl) (.int .i64 id) (.int .i64 f.script) (.int .i64 f.start) (.slice A1 f.ins.length c1) (.slice A2 f.steps.length c2) (.string f.read) (.string f.taken) (.bool f.eof) (.int .i64 f.status)).mono (fun _ h => Or.inl h))
       rw [← hz]
       clear hz y0 y1 y2 y3 y4 y5 y6 y7 y8 e0 e1 e2 e3 e4 e5 e6 e7 e8 z0 z1 z2 z3 z4 z5 z6 z7 z8 f0 f1 f2 f3 f4 f5 f6 f7 f8 v0
       obtain ⟨⟨z0, z1, z2, z3, z4, z5, z6, z7, z8⟩, -⟩ := tB.nine
       clear tB
       go_wp2_with fail
       refine bodyPost_ret (v := .tuple #[.agg #[.int .i64 id, .int .i64 f.script, .int .i64 f.start, .slice A1 f.ins.length c1, .slice A2 f.steps.length c2, .string f.read, .string f.taken, .bool f.eof, .int .i64 f.status], vw, .bool true]) (by simp [results, Tryz.results108, go_sem, z0, z1, z2, z3, z4, z5, z6, z7, z8]) rfl ?_
       refine ⟨lB.out, ?_⟩
       rw [← HFE.out]
       exact ⟨A1, c1, A2, c2, [vw, .bool true], ⟨_, rfl⟩, rfl, qI.out, qS.out, hc1, hc2⟩
    ·go_wp2_with fail
     generalize wr.setCell ⟨w.heap.size + 1 + 1, 1, none⟩ (.int .i64 (evAt l j).n) = wq at sR sb HLife ⊢
     clear z0 z1 z2 z3 z4 z5 z6 z7 z8 f0 f1 f2 f3 f4 f5 f6 f7 f8 g2
     go_loopw [48] (fun i wr => ∃ q : Nat, q ≤ n - (j + 1) ∧ i = .int .i64 q ∧ Hid (LifeAt wr (w.heap.size + 1 + 1) (w.heap.size + 1 + 1) (w.heap.size + 1 + 1 + 1) id (((l.drop (j + 1)).take q).foldl (addL id) (life0 (evAt l j).n (clockOf 0 (l.take j))))) ∧ Hid (Blk wr (w.heap.size + 1) 118 #[.int .i64 0, .int .i64 0, .int .i64 0, .slice none 0 0, .slice none 0 0, .string ⟨#[]⟩, .string ⟨#[]⟩, .bool false, .int .i64 0]) ∧ Hid (Below w.heap.size w wr)) (fun i _ => (n - (j + 1)) - (intOf i).toNat)
     case atStart => exact ⟨0, Nat.zero_le _, rfl, HLife, sR, sb⟩
     case round =>
      obtain ⟨q, hq, rfl, tL, tR, tb⟩ := hrel
      by_cases hlt : q < n - (j + 1)
      ·obtain ⟨b2, o2, hbo, _, hb, g0, g1, g2, g3, g4, g5, g6, g7, g8, g9, g10, g11⟩ := HE.out (j + 1 + q) (by rw [← Hn.out]; omega)
       injection hbo with hbo
       injection hbo with hb1 ho1
       subst hb1; subst ho1
       have eo : o + (j + 1 + q) * 12 = o + (j + 1) * 12 + q * 12 := by omega
       rw [eo] at g0 g1 g2 g3 g4 g5 g6 g7 g8 g9 g10 g11
       replace g0 := bkeepL tb.out hb g0
       replace g1 := bkeepL tb.out hb g1
       replace g2 := bkeepL tb.out hb g2
       replace g3 := bkeepL tb.out hb g3
       replace g4 := bkeepL tb.out hb g4
       replace g5 := bkeepL tb.out hb g5
       replace g6 := bkeepL tb.out hb g6
       replace g7 := bkeepL tb.out hb g7
       replace g8 := bkeepL tb.out hb g8
       replace g9 := bkeepL tb.out hb g9
       replace g10 := bkeepL tb.out hb g10
       replace g11 := bkeepL tb.out hb g11
       have ed : evAt (l.drop (j + 1)) q = evAt l (j + 1 + q) := by simp [evAt, List.getD]
       have HS := hide (fold_succ id (life0 (evAt l j).n (clockOf 0 (l.take j))) (l.drop (j + 1)) q (by rw [List.length_drop, ← Hn.out]; omega))
       have hxs := HX.out (evAt l (j + 1 + q)) (by
        have e : evAt l (j + 1 + q) = l[j + 1 + q]'(by rw [← Hn.out]; omega) := by simp [evAt, List.getD, show j + 1 + q < l.length by rw [← Hn.out]; omega]
        rw [e]; exact List.getElem_mem _)
       rw [ed] at HS
       obtain ⟨x, hx⟩ : ∃ x, x = evAt l (j + 1 + q) := ⟨_, rfl⟩
       rw [← hx] at g0 g1 g2 g3 g4 g5 g6 g7 g8 g9 g10 g11 HS hxs
       clear hx ed eo
       have hsm := HL.out q (by rw [List.length_drop, ← Hn.out]; omega)
       have hadd := add_c (w.heap.size + 1 + 1) (w.heap.size + 1 + 1) (w.heap.size + 1 + 1 + 1) id _ x _ (((tL.out.same ((Only.refl NoBlk _).alloc (.cells (evV x) 82))))) (by have := tL.out.own; obtain ⟨_, _, h1, _⟩ := this; have := h1.lt; simp; omega) (by have := hsm.ins; omega) (by have := hsm.steps; omega) (by have := hsm.read; omega) (by have := hsm.taken; omega)
       have HA := hide hadd
       clear hadd hsm hxs
       go_wp2_with (go_at_call 131; refine HA.out.mono ?_; rintro e w2 ⟨rfl, hL2, hb2⟩)
       go_roundw
       case rel =>
        refine ⟨q + 1, by omega, by go_num, ?_, ?_, ?_⟩
        ·rw [HS.out]; exact hide hL2
        ·exact hide ((hb2.block _ (by omega)).trans (tR.out.alloc _))
        ·exact hide ((tb.out.alloc tb.out.size _).trans (hb2.mono (by omega)))
       case measure => simp [intOf]; omega
      ·have hd : decide ((q : Int) < ((n - (j + 1) : Nat) : Int)) = false := by simp; omega
       have hd2 : decide (q < n - (j + 1)) = false := by simp; omega
       obtain ⟨vi, vs, tF, ti, ts⟩ := tL.out.own
       obtain ⟨vw, xs, tW, -⟩ := tL.out.want
       obtain ⟨A1, c1, rfl, hc1⟩ := own_cap ti
       obtain ⟨A2, c2, rfl, hc2⟩ := own_cap ts
       have hft : (l.drop (j + 1)).take q = l.drop (j + 1) := List.take_of_length_le (by rw [List.length_drop, ← Hn.out]; omega)
       rw [hft] at tF ti ts hc1 hc2
       obtain ⟨f, hf⟩ : ∃ f, f = (l.drop (j + 1)).foldl (addL id) (life0 (evAt l j).n (clockOf 0 (l.take j))) := ⟨_, rfl⟩
       rw [← hf] at tF ti ts hc1 hc2
       have rI := hide (Rd.of_own (M := fun k => M k ∨ k = w.heap.size + 1) ti (fun k hk => hk.elim (fun hk => by have := HM.out k hk; omega) (fun hk => by omega)))
       have rS := hide (Rd.of_own (M := fun k => M k ∨ k = w.heap.size + 1) ts (fun k hk => hk.elim (fun hk => by have := HM.out k hk; omega) (fun hk => by omega)))
       have HFE := hide hf
       clear hf hft ti ts tL
       obtain ⟨⟨z0, z1, z2, z3, z4, z5, z6, z7, z8⟩, f0, f1, f2, f3, f4, f5, f6, f7, f8⟩ := tF.nine
       obtain ⟨⟨y0, y1, y2, y3, y4, y5, y6, y7, y8⟩, e0, e1, e2, e3, e4, e5, e6, e7, e8⟩ := tR.out.nine
       have v0 : wr.cell? ⟨w.heap.size + 1 + 1 + 1, 0, none⟩ = some vw := by rw [tW.cell]; rfl
       clear tF tW
       go_wp2_with fail
       go_region
       obtain ⟨wz, hz⟩ : ∃ wz, wz = (((((((((wr.setCell ⟨w.heap.size + 1, 0, none⟩ (.int .i64 id)).setCell ⟨w.heap.size + 1, 1, none⟩ (.int .i64 f.script)).setCell ⟨w.heap.size + 1, 2, none⟩ (.int .i64 f.start)).setCell ⟨w.heap.size + 1, 3, none⟩ (.slice A1 f.ins.length c1)).setCell ⟨w.heap.size + 1, 4, none⟩ (.slice A2 f.steps.length c2)).setCell ⟨w.heap.size + 1, 5, none⟩ (.string f.read)).setCell ⟨w.heap.size + 1, 6, none⟩ (.string f.taken)).setCell ⟨w.heap.size + 1, 7, none⟩ (.bool f.eof)).setCell ⟨w.heap.size + 1, 8, none⟩ (.int .i64 f.status)).drew := ⟨_, rfl⟩
       have tB : Blk wz (w.heap.size + 1) 118 #[.int .i64 id, .int .i64 f.script, .int .i64 f.start, .slice A1 f.ins.length c1, .slice A2 f.steps.length c2, .string f.read, .string f.taken, .bool f.eof, .int .i64 f.status] := by rw [hz]; exact tR.out.put9 (.int .i64 id) (.int .i64 f.script) (.int .i64 f.start) (.slice A1 f.ins.length c1) (.slice A2 f.steps.length c2) (.string f.read) (.string f.taken) (.bool f.eof) (.int .i64 f.status)
       have lB := hide (show Below w.heap.size w wz from by rw [hz]; exact below_put9 tb.out (by omega) (.int .i64 id) (.int .i64 f.script) (.int .i64 f.start) (.slice A1 f.ins.length c1) (.slice A2 f.steps.length c2) (.string f.read) (.string f.taken) (.bool f.eof) (.int .i64 f.status))
       have qI := hide (show Rd wz M A1 (flat encInp f.ins) from by rw [hz]; exact (rI.out.put9 (g := w.heap.size + 1) (Or.inr rfl) (.int .i64 id) (.int .i64 f.script) (.int .i64 f.start) (.slice A1 f.ins.length c1) (.slice A2 f.steps.length c2) (.string f.read) (.string f.taken) (.bool f.eof) (.int .i64 f.status)).mono (fun _ h => Or.inl h))
       have qS := hide (show Rd wz M A2 (flat encStp f.steps) from by rw [hz]; exact (rS.out.put9 (g := w.heap.size + 1) (Or.inr rfl) (.int .i64 id) (.int .i64 f.script) (.int .i64 f.start) (.slice A1 f.ins.length c1) (.slice A2 f.steps.length c2) (.string f.read) (.string f.taken) (.bool f.eof) (.int .i64 f.status)).mono (fun _ h => Or.inl h))
       rw [← hz]
       clear hz y0 y1 y2 y3 y4 y5 y6 y7 y8 e0 e1 e2 e3 e4 e5 e6 e7 e8 z0 z1 z2 z3 z4 z5 z6 z7 z8 f0 f1 f2 f3 f4 f5 f6 f7 f8 v0
       obtain ⟨⟨z0, z1, z2, z3, z4, z5, z6, z7, z8⟩, -⟩ := tB.nine
       clear tB
       go_wp2_with fail
       refine bodyPost_ret (v := .tuple #[.agg #[.int .i64 id, .int .i64 f.script, .int .i64 f.start, .slice A1 f.ins.length c1, .slice A2 f.steps.length c2, .string f.read, .string f.taken, .bool f.eof, .int .i64 f.status], vw, .bool true]) (by simp [results, Tryz.results108, go_sem, z0, z1, z2, z3, z4, z5, z6, z7, z8]) rfl ?_
       refine ⟨lB.out, ?_⟩
       rw [← HFE.out]
       exact ⟨A1, c1, A2, c2, [vw, .bool true], ⟨_, rfl⟩, rfl, qI.out, qS.out, hc1, hc2⟩
end Go.Proofs.YtdmdohjdmnmabaaGreat
