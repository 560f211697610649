/- Labels' ops put where they are used. Conditions: those of each theorem. -/
import Derived.Test.YtaioaojfdngfdaaGreatDoorNb28
set_option linter.unusedVariables false
set_option linter.unusedSimpArgs false
namespace Go.Proofs.YtaioaojfdngfdaaGreatDoor
open Go.RowKit
/-- behind the uses -/
def resOf (m : PM) (R : List OpM × Option UseM) : PM := match R.2 with
 | none => { m with ops := R.1 }
 | some u => { m with ops := R.1, line := u.line, st := failS u.line m.st (u.col - 1) 13 }
def resM (m : PM) : PM := resOf m (mRes m.labels m.uses m.ops)
def u0 : UseM := ⟨[], 0, 0, 0, 0⟩
def usAt (l : List UseM) (k : Nat) : UseM := l.getD k u0
theorem usAt_some {l : List UseM} {k : Nat} (hk : k < l.length) : l[k]? = some (usAt l k) := by simp [usAt, List.getD, hk]
theorem usAt_mem {l : List UseM} {k : Nat} (hk : k < l.length) : usAt l k ∈ l := List.mem_of_getElem? (usAt_some hk)
theorem usAt_drop {l : List UseM} {k : Nat} (hk : k < l.length) : l.drop k = usAt l k :: l.drop (k + 1) := by
 rw [List.drop_eq_getElem_cons hk]
 have := usAt_some hk
 rw [List.getElem?_eq_getElem hk] at this
 injection this with this
 rw [this]
theorem PAt.useCells {w : World} {B a : Nat} {p : Pp} (h : PAt w B a p) {k : Nat} (hk : k < p.uses.length) : ∃ b o, p.uA = some ⟨b, o, none⟩ ∧ b < w.heap.size ∧ w.cell? ⟨b, o + k * 5, none⟩ = some (.string (bs (usAt p.uses k).name)) ∧ w.cell? ⟨b, o + k * 5 + 1, none⟩ = some (.int .i64 (usAt p.uses k).line) ∧
 w.cell? ⟨b, o + k * 5 + 2, none⟩ = some (.int .i64 (usAt p.uses k).col) ∧ w.cell? ⟨b, o + k * 5 + 3, none⟩ = some (.int .i64 (usAt p.uses k).op) ∧ w.cell? ⟨b, o + k * 5 + 4, none⟩ = some (.int .i64 (usAt p.uses k).how) := by
 have hr : Rd w (fun _ => False) p.uA (flat encUse p.uses) := Rd.of_own h.uses (fun _ h => h.elim)
 obtain ⟨b, o, hA, _, hb, hc⟩ := flat_cells (n := 5) (enc := encUse) (fun _ => rfl) hr k _ (usAt_some hk) (by omega)
 exact ⟨b, o, hA, hb, hc 0 (by omega), hc 1 (by omega), hc 2 (by omega), hc 3 (by omega), hc 4 (by omega)⟩
theorem use_at {L : List OpV} {u : UseM} (h : UseOk (L.map (·.o)) u) : ∃ i : Nat, u.op = i ∧ i < L.length ∧ opI (L.map (·.o)) u = (opAt L i).o ∧ ((u.how = -1 ∧ (opAt L i).o.kind = 3) ∨ ((opAt L i).o.kind = 2 ∧ (u.how = -2 ∨ u.how = -3 ∨ ∃ k : Nat, u.how = k ∧ k < (opAt L i).o.arms.length))) := by
 obtain ⟨h0, h1, h2⟩ := h
 rw [List.length_map] at h1
 have e : opI (L.map (·.o)) u = (opAt L u.op.toNat).o := by
  unfold opI
  rw [List.getD_eq_getElem?_getD, List.getElem?_map, opAt_some (by omega)]
  rfl
 refine ⟨u.op.toNat, by omega, by omega, e, ?_⟩
 rw [e] at h2
 rcases h2 with h2 | ⟨h2, h3⟩
 ·exact Or.inl h2
 ·refine Or.inr ⟨h2, ?_⟩
  rcases h3 with h3 | h3 | h3
  ·exact Or.inl h3
  ·exact Or.inr (Or.inl h3)
  ·exact Or.inr (Or.inr ⟨u.how.toNat, by omega, by omega⟩)
theorem setUse_map {L : List OpV} {u : UseM} {i : Nat} {t : Int} {v : OpV} (hi : u.op = i) (hL : i < L.length) (hv : v.o = if u.how = -1 then { (opAt L i).o with «to» := t } else if u.how = -2 then { (opAt L i).o with onT := t } else if u.how = -3 then { (opAt L i).o with onE := t }
 else { (opAt L i).o with arms := (opAt L i).o.arms.set u.how.toNat ⟨((opAt L i).o.arms.getD u.how.toNat ⟨⟨#[]⟩, 0⟩).pat, t⟩ }) : setUse (L.map (·.o)) u t = (L.set i v).map (·.o) := by
 have e : (L.map (·.o)).getD u.op.toNat op0 = (opAt L i).o := by
  rw [hi, List.getD_eq_getElem?_getD, List.getElem?_map, Int.toNat_natCast, opAt_some hL]
  rfl
 unfold setUse
 rw [e, map_set_o, hv, hi, Int.toNat_natCast]
theorem res_step {ls : List (List UInt8 × Int)} {us : List UseM} {ops : List OpM} {k : Nat} {t : Int} (hk : k < us.length) (hl : lbF (usAt us k).name ls = some t) : mRes ls (us.drop k) ops = mRes ls (us.drop (k + 1)) (setUse ops (usAt us k) t) := by
 rw [usAt_drop hk]
 conv => lhs; unfold mRes
 rw [hl]
theorem res_miss {ls : List (List UInt8 × Int)} {us : List UseM} {ops : List OpM} {k : Nat} (hk : k < us.length) (hl : lbF (usAt us k).name ls = none) : mRes ls (us.drop k) ops = (ops, some (usAt us k)) := by
 rw [usAt_drop hk]
 unfold mRes
 rw [hl]
theorem own_at {w : World} {base size n c : Nat} {e : TypeId} {A : Option Addr} {xs : List Value} (h : w.ownsRow base e size (.slice A n c) n xs) (hn : 0 < n) : ∃ g, A = some ⟨g, 0, none⟩ ∧ base ≤ g ∧ g < w.heap.size := by
 rcases h.2 with ⟨_, h0⟩ | ⟨g, cap, cur, hv, hb, hh, _⟩
 ·omega
 ·injection hv with h1
  exact ⟨g, h1, hb, Blk.lt (t := e) (cs := cur) hh⟩
set_option maxRecDepth 100000 in
set_option maxHeartbeats 12800000 in
theorem presolve_c (B a : Nat) (p : Pp) (w : World) (h : PAt w B a p) (hu : ∀ u ∈ p.uses, UseOk (p.L.map (·.o)) u) (hlb : ∀ k v, lbF k p.labels = some v → 0 ≤ v ∧ v ≤ 200) (htx : ∀ u ∈ p.uses, u.name.length ≤ 1000000000 ∧ 1 ≤ u.col ∧ u.col ≤ 1000000001) (hul : p.uses.length ≤ 1000000) (hol : p.L.length ≤ 1000000) (hal8 : ∀ v ∈ p.L, v.o.arms.length ≤ 1000000) :
 Calls Tryz.prog 41 #[.pointer (some ⟨a, 0, none⟩)] w fun e w' => e = .returned (.tuple #[]) ∧ Did w w' B a (resM p.pl) := by
 have hBa := h.base
 have c5 := h.cells.2.2.2.2.2.1
 have H := hide h
 have HU := hide hu
 have HLb := hide hlb
 have HTx := hide htx
 obtain ⟨R, hR⟩ : ∃ R, R = mRes p.labels p.uses (p.L.map (·.o)) := ⟨_, rfl⟩
 have HR := hide (show resM p.pl = resOf p.pl R by rw [hR]; rfl)
 have HR0 := hide (show mRes p.labels (p.uses.drop 0) (p.L.map (·.o)) = R from hR.symm)
 clear hR h hu hlb htx
 obtain ⟨m, hm⟩ : ∃ m, m = p.uses.length := ⟨_, rfl⟩
 have Hm := hide hm
 rw [← hm] at c5 hul
 clear hm
 have HOl := hide (show ∀ Lq : List OpV, Lq.length = p.L.length → Lq.length ≤ 1000000 from fun Lq e => by omega)
 go_enter Tryz.func41, Tryz.ntmps41
 go_wp2_with fail
 go_loopw [12] (fun i wr => ∃ (q : Nat) (Lq : List OpV), q ≤ m ∧ i = .int .i64 q ∧ Hid (PAt wr B a { p with L := Lq }) ∧ Hid (OnB B w wr) ∧ Hid (mRes p.labels (p.uses.drop q) (Lq.map (·.o)) = R) ∧ Hid (∀ u ∈ p.uses, UseOk (Lq.map (·.o)) u) ∧ Hid (Lq.length = p.L.length)) (fun i _ => m - (intOf i).toNat)
 case atStart => exact ⟨0, p.L, Nat.zero_le _, rfl, H, hide (OnB.refl _ _), HR0, HU, hide rfl⟩
 case round =>
  obtain ⟨q, Lq, hqm, rfl, HP, HO, HRq, HUq, HLq⟩ := hrel
  by_cases hlt : q < m
  case neg =>
   have d1 : decide ((q : Int) < (m : Int)) = false := by simp; omega
   have d2 : decide (q < m) = false := by simp; omega
   have HE := hide (show ({ p with L := Lq } : Pp).pl = resM p.pl by
    have e : p.uses.drop q = [] := List.drop_eq_nil_of_le (by have := Hm.out; omega)
    have q2 := HRq.out
    rw [e] at q2
    rw [HR.out, ← q2]
    rfl)
   clear hlt
   go_wp2_with fail
   go_end0
   exact ⟨rfl, ⟨_, HP.out, HE.out⟩, HO.out⟩
  case pos =>
   have d1 : decide ((q : Int) < (m : Int)) = true := by simp; omega
   have j1 : (0 : Int) ≤ (q : Int) := by omega
   have j2 : (q : Int) < (m : Int) := by omega
   have w1 : IntKind.i64.wrap ((q : Int) + 1) = (q : Int) + 1 := IntWalk.i64_in _ (by omega)
   have hqu : q < p.uses.length := by have := Hm.out; omega
   obtain ⟨b, ob, hA, hb, k0, k1, k2, k3, k4⟩ := HP.out.useCells (k := q) hqu
   have HA := hide hA
   rw [hA]
   have HTu := hide (HTx.out _ (usAt_mem hqu))
   have HOk := hide (HUq.out _ (usAt_mem hqu))
   have HSt := hide (fun (t : Int) (hl : lbF (usAt p.uses q).name p.labels = some t) => res_step (ls := p.labels) (ops := Lq.map (·.o)) hqu hl)
   have HMi := hide (fun (hl : lbF (usAt p.uses q).name p.labels = none) => res_miss (ls := p.labels) (ops := Lq.map (·.o)) hqu hl)
   obtain ⟨U, hU⟩ : ∃ U, U = usAt p.uses q := ⟨_, rfl⟩
   rw [← hU] at k0 k1 k2 k3 k4 HTu HOk HSt HMi
   obtain ⟨un, ul, uc, uo, uh⟩ := U
   simp only at k0 k1 k2 k3 k4 HTu HSt HMi
   clear hU hA hlt
   go_upto_region 3 with fail
   generalize hX : World.alloc wr _ = X
   have hI : Blk X wr.heap.size 135 #[.string (bs un), .int .i64 ul, .int .i64 uc, .int .i64 uo, .int .i64 uh] := by rw [← hX]; exact Blk.new _ _ _
   have hP : PAt X B a { p with L := Lq } := by rw [← hX]; exact HP.out.alloc _
   have hO : OnB B w X := by rw [← hX]; exact HO.out.alloc _
   have hal := HP.out.lt
   obtain ⟨g0, hg0⟩ : ∃ g0, g0 = wr.heap.size := ⟨_, rfl⟩
   rw [← hg0] at hI hal ⊢
   have hNe : a ≠ g0 := by omega
   have HNe := hide hNe
   clear hX k0 k1 k2 k3 k4 hg0 hal hb hNe HP HO
   have c4 := hP.cells.2.2.2.2.1
   have e0 : X.cell? ⟨g0, 0, none⟩ = some (.string (bs un)) := hI.cell 0
   have hlk := lb_look hP.lb.drew un HTu.out.1
   rw [show ({ p with L := Lq } : Pp).labels = p.labels from rfl] at hlk
   cases hl : lbF un p.labels with
   | none =>
    rw [hl] at hlk
    simp only [Option.getD_none, Option.isSome_none] at hlk
    have HMi2 := hide (HMi.out hl)
    have HE := hide (show ({ p with L := Lq, line := ul, st := failS ul p.st (uc - 1) 13 } : Pp).pl = resM p.pl by
     rw [HR.out, ← HRq.out, HMi2.out]
     rfl)
    clear hl
    go_region
    obtain ⟨Y, hY⟩ : ∃ Y, Y = X.drew := ⟨_, rfl⟩
    have HI1 := hide (hI.drew)
    have HP1 := hide (hP.drew)
    have HO1 := hide (hO.drew)
    rw [← hY] at HI1 HP1 HO1 ⊢
    clear hY hI hP hO c4 e0 hlk
    have i1 : Y.cell? ⟨g0, 1, none⟩ = some (.int .i64 ul) := HI1.out.cell 1
    have i2 : Y.cell? ⟨g0, 2, none⟩ = some (.int .i64 uc) := HI1.out.cell 2
    have d10 := HP1.out.cells2.1
    have f10 := HP1.out.frozen 10
    have w2 : IntKind.i64.wrap (uc - 1) = uc - 1 := by have := HTu.out.2; exact IntWalk.i64_in _ (by omega)
    have hc1 : 0 ≤ uc - 1 ∧ uc - 1 ≤ 1000000000 := by have := HTu.out.2; omega
    go_wp2_with fail
    generalize hZ : World.setCell Y _ _ = Z
    have hP2 : PAt Z B a { p with L := Lq, line := ul } := by rw [← hZ]; exact (HP1.out.cell (p' := { p with L := Lq, line := ul }) 10 _ rfl).1
    have hO2 : OnB B w Z := by rw [← hZ]; exact HO1.out.trans (HP1.out.cell (p' := { p with L := Lq, line := ul }) 10 _ rfl).2
    clear hZ
    refine (pfail_c a ({ p with L := Lq, line := ul } : Pp).fr p.st (uc - 1) 13 Z hP2.blk hc1.1 hc1.2).mono ?_
    rintro e w7 ⟨rfl, hb, ho⟩
    go_wp2_with fail
    refine bodyPost_ret (v := .tuple #[]) (by simp [results, Tryz.results41, go_sem]) rfl ?_
    exact ⟨rfl, ⟨_, hP2.st ho hb, by rw [← HE.out]; rfl⟩, hO2.trans (hP2.only ho)⟩
   | some t =>
    rw [hl] at hlk
    simp only [Option.getD_some, Option.isSome_some] at hlk
    have HSt2 := hide (HSt.out t hl)
    have ht := HLb.out _ _ hl
    clear hl
    obtain ⟨i, hui, hiL, hop, hhow⟩ := use_at HOk.out
    simp only at hui hhow
    subst hui
    obtain ⟨g, hoA, hgB, hgl⟩ := hP.ops.at_ (i := i) hiL
    have hops := hP.ops
    rw [hoA] at hops
    have hcl := hops.cells (i := i) hiL
    have HoA := hide hoA
    go_region
    obtain ⟨Y, hY⟩ : ∃ Y, Y = X.drew := ⟨_, rfl⟩
    have HI1 := hide (hI.drew)
    have HP1 := hide (hP.drew)
    have HO1 := hide (hO.drew)
    rw [← hY] at HI1 HP1 HO1 ⊢
    clear hY hI hP hO c4 e0 hlk hcl hops hoA
    have i2 : Y.cell? ⟨g0, 2, none⟩ = some (.int .i64 uc) := HI1.out.cell 2
    have i3 : Y.cell? ⟨g0, 3, none⟩ = some (.int .i64 i) := HI1.out.cell 3
    have i4 : Y.cell? ⟨g0, 4, none⟩ = some (.int .i64 uh) := HI1.out.cell 4
    have d3 : Y.cell? ⟨a, 3, none⟩ = some (.slice (some ⟨g, 0, none⟩) Lq.length p.oc) := by have q := HP1.out.cells.2.2.2.1; rw [show ({ p with L := Lq } : Pp).oA = some ⟨g, 0, none⟩ from HoA.out] at q; exact q
    have j3 : (0 : Int) ≤ (i : Int) := by omega
    have j4 : (i : Int) < (Lq.length : Int) := by omega
    go_upto_region 7 with fail
    go_region
    obtain ⟨Y2, hY⟩ : ∃ Y2, Y2 = Y.drew := ⟨_, rfl⟩
    have HI2 := hide (HI1.out.drew)
    have HP2 := hide (HP1.out.drew)
    have HO2 := hide (HO1.out.drew)
    rw [← hY] at HI2 HP2 HO2 ⊢
    clear hY i2 i3 i4 d3 HI1 HP1 HO1
    have i4 : Y2.cell? ⟨g0, 4, none⟩ = some (.int .i64 uh) := HI2.out.cell 4
    have hops := HP2.out.ops
    rw [show ({ p with L := Lq } : Pp).oA = some ⟨g, 0, none⟩ from HoA.out] at hops
    have hcl := hops.cells (i := i) hiL
    rw [show ({ p with L := Lq } : Pp).L = Lq from rfl] at hcl
    obtain ⟨⟨_, _, _, o3, o4, o5, o6⟩, ofr⟩ := hcl
    have of3 := ofr (i * 7 + 3)
    have of5 := ofr (i * 7 + 5)
    have of6 := ofr (i * 7 + 6)
    have HNxt := hide (fun (v : OpV) (hv : v.o = if uh = -1 then { (opAt Lq i).o with «to» := t } else if uh = -2 then { (opAt Lq i).o with onT := t } else if uh = -3 then { (opAt Lq i).o with onE := t }
     else { (opAt Lq i).o with arms := (opAt Lq i).o.arms.set uh.toNat ⟨((opAt Lq i).o.arms.getD uh.toNat ⟨⟨#[]⟩, 0⟩).pat, t⟩ }) => (show mRes p.labels (p.uses.drop (q + 1)) ((Lq.set i v).map (·.o)) = R ∧ (∀ u ∈ p.uses, UseOk ((Lq.set i v).map (·.o)) u) ∧ (Lq.set i v).length = p.L.length by
     have e := setUse_map (L := Lq) (u := ⟨un, ul, uc, i, uh⟩) (i := i) (t := t) (v := v) rfl hiL hv
     rw [← e]
     exact ⟨by rw [← HSt2.out]; exact HRq.out, fun u hu => setUse_ok (HUq.out u hu), by rw [List.length_set]; exact HLq.out⟩))
    clear ofr hops hop j3 j4
    have hal8' := hal8
    rcases hhow with ⟨rfl, _⟩ | ⟨_, rfl | rfl | ⟨k, rfl, hk⟩⟩
    ·have N := HNxt.out ⟨{ (opAt Lq i).o with «to» := t }, (opAt Lq i).A, (opAt Lq i).c⟩ rfl
     have HN1 := hide N.1
     have HN2 := hide N.2.1
     have HN3 := hide N.2.2
     have HF := hide (HP2.out.setOp (p' := { p with L := Lq.set i ⟨{ (opAt Lq i).o with «to» := t }, (opAt Lq i).A, (opAt Lq i).c⟩ }) (g := g) (i := i) (j := 3) (u := .int .i64 t) (v := ⟨{ (opAt Lq i).o with «to» := t }, (opAt Lq i).A, (opAt Lq i).c⟩) HoA.out hiL (by decide) rfl rfl rfl rfl rfl)
     clear N
     go_wp2_with fail
     go_roundw
     ·exact ⟨q + 1, _, by omega, by simp, hide (by rw [← show p.uA = some ⟨b, ob, none⟩ from HA.out]; exact HF.out.1), hide (HO2.out.trans HF.out.2), HN1, HN2, HN3⟩
     ·simp only [intOf]; omega
    ·have N := HNxt.out ⟨{ (opAt Lq i).o with onT := t }, (opAt Lq i).A, (opAt Lq i).c⟩ rfl
     have HN1 := hide N.1
     have HN2 := hide N.2.1
     have HN3 := hide N.2.2
     have HF := hide (HP2.out.setOp (p' := { p with L := Lq.set i ⟨{ (opAt Lq i).o with onT := t }, (opAt Lq i).A, (opAt Lq i).c⟩ }) (g := g) (i := i) (j := 5) (u := .int .i64 t) (v := ⟨{ (opAt Lq i).o with onT := t }, (opAt Lq i).A, (opAt Lq i).c⟩) HoA.out hiL (by decide) rfl rfl rfl rfl rfl)
     clear N
     go_wp2_with fail
     go_roundw
     ·exact ⟨q + 1, _, by omega, by simp, hide (by rw [← show p.uA = some ⟨b, ob, none⟩ from HA.out]; exact HF.out.1), hide (HO2.out.trans HF.out.2), HN1, HN2, HN3⟩
     ·simp only [intOf]; omega
    ·have N := HNxt.out ⟨{ (opAt Lq i).o with onE := t }, (opAt Lq i).A, (opAt Lq i).c⟩ rfl
     have HN1 := hide N.1
     have HN2 := hide N.2.1
     have HN3 := hide N.2.2
     have HF := hide (HP2.out.setOp (p' := { p with L := Lq.set i ⟨{ (opAt Lq i).o with onE := t }, (opAt Lq i).A, (opAt Lq i).c⟩ }) (g := g) (i := i) (j := 6) (u := .int .i64 t) (v := ⟨{ (opAt Lq i).o with onE := t }, (opAt Lq i).A, (opAt Lq i).c⟩) HoA.out hiL (by decide) rfl rfl rfl rfl rfl)
     clear N
     go_wp2_with fail
     go_roundw
     ·exact ⟨q + 1, _, by omega, by simp, hide (by rw [← show p.uA = some ⟨b, ob, none⟩ from HA.out]; exact HF.out.1), hide (HO2.out.trans HF.out.2), HN1, HN2, HN3⟩
     ·simp only [intOf]; omega
    ·have N := HNxt.out ⟨{ (opAt Lq i).o with arms := (opAt Lq i).o.arms.set k ⟨(armAt (opAt Lq i).o.arms k).pat, t⟩ }, (opAt Lq i).A, (opAt Lq i).c⟩ (by
      rw [if_neg (by omega), if_neg (by omega), if_neg (by omega), Int.toNat_natCast]
      rfl)
     have HN1 := hide N.1
     have HN2 := hide N.2.1
     have HN3 := hide N.2.2
     have harm := HP2.out.ops.arms _ (opAt_mem (l := Lq) (k := i) hiL)
     unfold armsV at harm
     obtain ⟨ga, hga, hgaB, hgal⟩ := own_at harm (by omega)
     rw [hga] at harm o4
     have hcell := harm.cellAt (k * 2 + 1) (by omega)
     obtain ⟨cv, hcv⟩ : ∃ cv, (flat encArm (opAt Lq i).o.arms)[k * 2 + 1]? = some cv := ⟨_, List.getElem?_eq_getElem (by rw [harm.1]; omega)⟩
     rw [hcv] at hcell
     have hfr := harm.frozenAt (k * 2 + 1)
     have HF := hide (HP2.out.drew.armSet (p' := { p with L := Lq.set i ⟨{ (opAt Lq i).o with arms := (opAt Lq i).o.arms.set k ⟨(armAt (opAt Lq i).o.arms k).pat, t⟩ }, (opAt Lq i).A, (opAt Lq i).c⟩ }) (g := ga) (i := i) (k := k) (t := t) (v := ⟨{ (opAt Lq i).o with arms := (opAt Lq i).o.arms.set k ⟨(armAt (opAt Lq i).o.arms k).pat, t⟩ }, (opAt Lq i).A, (opAt Lq i).c⟩) hiL hga hk rfl rfl rfl (by simp [encOp]) rfl)
     have r1 : ((k : Int) == -1) = false := by simp
     have r2 : ((k : Int) == -2) = false := by simp
     have r3 : ((k : Int) == -3) = false := by simp
     have j3 : (0 : Int) ≤ (k : Int) := by omega
     have j4 : (k : Int) < ((opAt Lq i).o.arms.length : Int) := by omega
     have HG := hide hga
     clear N hcv hga harm
     go_upto_region 9 with fail
     go_region
     go_wp2_with fail
     go_roundw
     ·exact ⟨q + 1, _, by omega, by simp, hide (by rw [← show p.uA = some ⟨b, ob, none⟩ from HA.out]; exact HF.out.1), hide (HO2.out.drew.trans HF.out.2), HN1, HN2, HN3⟩
     ·simp only [intOf]; omega
end Go.Proofs.YtaioaojfdngfdaaGreatDoor
