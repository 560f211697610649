/- The walk through events that notes one's matches: a step. Conditions: those of each theorem. -/
import Derived.Test.YtdmdohjdmnmabaaGreatQp14
import Derived.Test.YtdmdohjdmnmabaaGreatQp15
import Derived.Test.YtdmdohjdmnmabaaGreatQp16
import Derived.Deep.RegionWith
import Derived.Deep.RegionHeld3
import Derived.BigRegion
namespace Go.Proofs.YtdmdohjdmnmabaaGreat
open Go.RowKit
set_option linter.unusedVariables false
set_option linter.unusedSimpArgs false

/-- what stays: the script's value, who -/
structure PwP where
  s : ByteArray
  d : Int
  j : Int
  PA : Option Addr
  n : Nat
  pc : Nat
  id : Int
def pwV (q : PwP) (f : PwM) (va vo : Value) : Array Value := #[.string q.s, .int .i64 q.d, .int .i64 q.j, .slice q.PA q.n q.pc, .int .i64 q.id, .int .i64 f.round, .bool f.begun, .int .i64 f.from_, .int .i64 f.steps, .int .i64 f.gone, va, vo]
structure PwMid (w : World) (base g : Nat) (q : PwP) (f : PwM) (va vo : Value) : Prop where
  blk : Blk w g 148 (pwV q f va vo)
  oc : w.ownsRow base 169 2 va f.came.length (flat encPc f.came)
  oo : w.ownsRow base 96 6 vo f.out.length (flat encLag f.out)
  hg : base ≤ g
def PwAt (w : World) (base g : Nat) (q : PwP) (f : PwM) : Prop := ∃ va vo, PwMid w base g q f va vo
section
variable {w w' : World} {base g : Nat} {q : PwP} {f f' : PwM} {va vo : Value}
theorem PwMid.lt (h : PwMid w base g q f va vo) : g < w.heap.size := h.blk.lt
theorem PwMid.bs (h : PwMid w base g q f va vo) : base ≤ w.heap.size := by have := h.lt; have := h.hg; omega
theorem PwMid.same (h : PwMid w base g q f va vo) (k : Only NoBlk w w') : PwMid w' base g q f va vo :=
  ⟨h.blk.only k (fun h => h), own_only h.oc k (fun _ _ h => h.elim), own_only h.oo k (fun _ _ h => h.elim), h.hg⟩
theorem PwMid.alloc (h : PwMid w base g q f va vo) (o : Obj) : PwMid (w.alloc o) base g q f va vo := h.same ((Only.refl _ w).alloc o)
theorem PwMid.drew (h : PwMid w base g q f va vo) : PwMid w.drew base g q f va vo := h.same (Only.refl _ w).drew
theorem PwMid.drewN (h : PwMid w base g q f va vo) (n : Nat) : PwMid (w.drewN n) base g q f va vo := h.same ((Only.refl _ w).drewN n)
/-- a field of it alone changed -/
theorem PwMid.set (h : PwMid w base g q f va vo) (i : Nat) (v : Value) (he : (pwV q f va vo).setIfInBounds i v = pwV q f' va vo) (ei : f'.came = f.came) (eo : f'.out = f.out) : PwMid (w.setCell ⟨g, i, none⟩ v) base g q f' va vo := by
  have nt : ∀ (t : TypeId), t ≠ 148 → ∀ g' cs, g' = g → ¬ Blk w g' t cs := by
    intro t ht g' cs hg hx
    subst hg
    exact Blk.ne_ hx h.blk ht rfl
  have k := (Only.refl (· = g) w).setCell (p := ⟨g, i, none⟩) (Or.inl rfl) v
  refine ⟨by rw [← he]; exact h.blk.set_ i v, ?_, ?_, h.hg⟩
  · rw [ei]; exact own_only h.oc k (nt _ (by decide))
  · rw [eo]; exact own_only h.oo k (nt _ (by decide))
/-- a match more is noted -/
theorem PwMid.growO {v' : Value} {x : LagM} {n : Nat} (h : PwMid w base g q f va vo) (hg : w.grownBy w' vo.ownBlock) (ho : w'.ownsRow base 96 6 v' n (flat encLag f.out ++ encLag x)) (hn : n = f.out.length + 1) : PwMid (w'.setCell ⟨g, 11, none⟩ v') base g q { f with out := f.out ++ [x] } va v' := by
  have hb : Blk w' g 148 (pwV q f va vo) := Blk.grown h.blk h.oo (by decide) hg
  have k := (Only.refl (· = g) w').setCell (p := ⟨g, 11, none⟩) (Or.inl rfl) v'
  have nt : ∀ (t : TypeId), t ≠ 148 → ∀ g' cs, g' = g → ¬ Blk w' g' t cs := by
    intro t ht g' cs hg hx
    subst hg
    exact Blk.ne_ hx hb ht rfl
  refine ⟨hb.set_ 11 v', own_only (own_grown h.oc h.oo (by decide) hg) k (nt _ (by decide)), own_only ?_ k (nt _ (by decide)), h.hg⟩
  subst hn
  have e : flat encLag (f.out ++ [x]) = flat encLag f.out ++ encLag x := by simp [flat]
  simpa [e] using ho
/-- a piece more is noted -/
theorem PwMid.growC {v' : Value} {x : Int × Int} {n : Nat} (h : PwMid w base g q f va vo) (hg : w.grownBy w' va.ownBlock) (ho : w'.ownsRow base 169 2 v' n (flat encPc f.came ++ encPc x)) (hn : n = f.came.length + 1) : PwMid (w'.setCell ⟨g, 10, none⟩ v') base g q { f with came := f.came ++ [x] } v' vo := by
  have hb : Blk w' g 148 (pwV q f va vo) := Blk.grown h.blk h.oc (by decide) hg
  have k := (Only.refl (· = g) w').setCell (p := ⟨g, 10, none⟩) (Or.inl rfl) v'
  have nt : ∀ (t : TypeId), t ≠ 148 → ∀ g' cs, g' = g → ¬ Blk w' g' t cs := by
    intro t ht g' cs hg hx
    subst hg
    exact Blk.ne_ hx hb ht rfl
  refine ⟨hb.set_ 10 v', own_only ?_ k (nt _ (by decide)), own_only (own_grown h.oo h.oc (by decide) hg) k (nt _ (by decide)), h.hg⟩
  subst hn
  have e : flat encPc (f.came ++ [x]) = flat encPc f.came ++ encPc x := by simp [flat]
  simpa [e] using ho
end
theorem PwMid.held {w : World} {base g : Nat} {q : PwP} {f : PwM} {va vo : Value} (h : PwMid w base g q f va vo) : w.cell? ⟨g, 4, none⟩ = some (.int .i64 q.id) ∧ w.cell? ⟨g, 7, none⟩ = some (.int .i64 f.from_) ∧ w.cell? ⟨g, 8, none⟩ = some (.int .i64 f.steps) ∧ w.cell? ⟨g, 9, none⟩ = some (.int .i64 f.gone) ∧ w.cell? ⟨g, 11, none⟩ = some vo := by
  refine ⟨?_, ?_, ?_, ?_, ?_⟩ <;> (rw [h.blk.cell]; rfl)
theorem PwMid.growO' {w w' : World} {base g : Nat} {q : PwP} {f : PwM} {va vo v' : Value} {x : LagM} {n : Nat} (h : PwMid w base g q f va vo) (hg : w.grownBy w' vo.ownBlock) (ho : w'.ownsRow base 96 6 v' n (flat encLag f.out ++ encLag x)) : Blk w' g 148 (pwV q f va vo) := Blk.grown h.blk h.oo (by decide) hg
theorem Tryz.infoLag : (Tryz.prog.info? 96).map (fun i => (i.zero, i.size, i.bytes)) = some (some (.agg #[.int .i64 0, .int .i64 0, .int .i64 0, .int .i64 0, .int .i64 0, .int .i64 0]), 6, 48) := by kernel_rfl
theorem Tryz.infoPc : (Tryz.prog.info? 169).map (fun i => (i.zero, i.size, i.bytes)) = some (some (.agg #[.int .i64 0, .int .i64 0]), 2, 16) := by kernel_rfl
def goneM (f : PwM) (n : Int) : Int := min (f.gone + min (max n 0) 1000000000) 1000000000
def lagOf (id : Int) (f : PwM) (n : Int) : LagM := ⟨id, f.steps, goneM f n, readM f.came (goneM f n), f.from_, nowM f⟩
def matchM (id : Int) (f : PwM) (x : Stp) : PwM := if x.what = 2 then { f with gone := goneM f x.n, out := f.out ++ [lagOf id f x.n] } else f
def stepM (p : ProgM) (id : Int) (f : PwM) (x : Stp) : PwM := { matchM id f x with from_ := if 0 ≤ NextM p x then nowM (matchM id f x) else (matchM id f x).from_, steps := (matchM id f x).steps + 1 }
/-- how great it can be -/
structure PwSm (f : PwM) (k : Nat) : Prop where
  r0 : -1 ≤ f.round
  r1 : f.round ≤ k
  s0 : 0 ≤ f.steps
  s1 : f.steps ≤ k
  g0 : 0 ≤ f.gone
  g1 : f.gone ≤ 1000000000
  c : f.came.length ≤ k
  o : f.out.length ≤ k
  cs : ∀ x ∈ f.came, 0 ≤ x.1 ∧ x.1 ≤ 100 * (k : Int)
set_option maxRecDepth 100000 in
set_option maxHeartbeats 12000000 in
theorem pwstep_c (base g : Nat) (q : PwP) (f : PwM) (kk : Nat) (L : List OpV) (st sa sw sr sn ss : Int) (w : World) (h : PwAt w base g q f) (hsm : PwSm f kk) (hkk : kk ≤ 100000) (hr : OpsRd w (base ≤ ·) q.PA L) (hqn : q.n = L.length) (hn : L.length ≤ maxLen) (hs : q.s.size ≤ 9223372036854775807) (hsz : ∀ v ∈ L, OpSz v) :
    Calls Tryz.prog 110 #[.pointer (some ⟨g, 0, none⟩), .agg #[.int .i64 st, .int .i64 sa, .int .i64 sw, .int .i64 sr, .int .i64 sn, .int .i64 ss]] w fun e w' => e = .returned (.tuple #[]) ∧ PwAt w' base g q (stepM (progM q.s q.d q.j L) q.id f ⟨st, sa, sw, sr, sn, ss⟩) ∧ Only (base ≤ ·) w w' := by
  obtain ⟨va, vo, h⟩ := h
  obtain ⟨il, hil, hlz0, hlz1, hlz2⟩ := info_parts Tryz.infoLag
  have hgl := h.lt
  have hgb := h.hg
  have hNx := hide (fun (w' : World) (k : Only (base ≤ ·) w w') => show Calls Tryz.prog 9 #[.agg #[.string q.s, .int .i64 q.d, .int .i64 q.j, .slice q.PA q.n q.pc], .agg #[.int .i64 st, .int .i64 sa, .int .i64 sw, .int .i64 sr, .int .i64 sn, .int .i64 ss]] w' _ from by
    rw [hqn]
    exact Next_c q.s q.d q.j q.PA q.pc L st sa sw sr sn ss w' (let z := hr.only k (fun _ h => h); ⟨z.1.mono (fun _ h => h.elim), fun v hv => (z.2 v hv).mono (fun _ h => h.elim)⟩) hn hs hsz)
  obtain ⟨NX, hNX⟩ : ∃ NX, NX = NextM (progM q.s q.d q.j L) ⟨st, sa, sw, sr, sn, ss⟩ := ⟨_, rfl⟩
  rw [← hNX] at hNx
  have HSt := hide (show ∀ f1 : PwM, matchM q.id f ⟨st, sa, sw, sr, sn, ss⟩ = f1 → stepM (progM q.s q.d q.j L) q.id f ⟨st, sa, sw, sr, sn, ss⟩ = { f1 with from_ := if 0 ≤ NX then nowM f1 else f1.from_, steps := f1.steps + 1 } from by
    intro f1 e
    unfold stepM
    rw [e, hNX])
  obtain ⟨W, hW⟩ : ∃ W, W = w.alloc (.cells #[.int .i64 st, .int .i64 sa, .int .i64 sw, .int .i64 sr, .int .i64 sn, .int .i64 ss] 26) := ⟨_, rfl⟩
  have HM := hide (show PwMid W base g q f va vo by rw [hW]; exact h.alloc _)
  have HO := hide (show Only (base ≤ ·) w W by rw [hW]; exact (Only.refl _ w).alloc _)
  have HS := hide (show Blk W w.heap.size 26 #[.int .i64 st, .int .i64 sa, .int .i64 sw, .int .i64 sr, .int .i64 sn, .int .i64 ss] by rw [hW]; exact Blk.new w 26 _)
  have HW := hide hW
  have HSM := hide hsm
  have hbw : base ≤ w.heap.size := h.bs
  have hne1 : ¬ g = w.heap.size := by omega
  have hne2 : ¬ w.heap.size = g := by omega
  clear h hr hqn hn hs hsz hNX hW hsm
  go_enter Tryz.func110, Tryz.ntmps110
  go_upto_region 1 with fail
  change Code.wp _ _ _ _ (w.alloc (.cells #[.int .i64 st, .int .i64 sa, .int .i64 sw, .int .i64 sr, .int .i64 sn, .int .i64 ss] 26))
  rw [← HW.out]
  obtain ⟨s0, s1, s2, s3, s4, s5⟩ := HS.out.six
  go_upto_if 6 with fail
  go_cut [] from 6 to 53 (fun wx => Hid (PwAt wx base g q (matchM q.id f ⟨st, sa, sw, sr, sn, ss⟩)) ∧ Hid (Only (base ≤ ·) w wx) ∧ Hid (Blk wx w.heap.size 26 #[.int .i64 st, .int .i64 sa, .int .i64 sw, .int .i64 sr, .int .i64 sn, .int .i64 ss]))
  case first =>
    by_cases hw2 : sw = 2
    · have b2 : (sw == 2) = true := by simp [hw2]
      have HMm := hide (show matchM q.id f ⟨st, sa, sw, sr, sn, ss⟩ = { f with gone := goneM f sn, out := f.out ++ [lagOf q.id f sn] } from if_pos hw2)
      have hsm := HSM.out
      obtain ⟨hr0, hr1, hs0, hs1, hg0, hg1, hcl, hol, hcs⟩ := hsm
      have w1 : IntKind.i64.wrap (f.gone + min (max sn 0) 1000000000) = f.gone + min (max sn 0) 1000000000 := IntWalk.i64_in _ (by omega)
      obtain ⟨A10, c10, hva, _⟩ := own_cap HM.out.oc
      obtain ⟨A11, c11, hvo, _⟩ := own_cap HM.out.oo
      subst hva hvo
      obtain ⟨k0, k1, k2, k3, k4, k5, k6, k7, k8, k9, k10, k11⟩ := HM.out.blk.twelve
      have f9 := HM.out.blk.frozen 9
      clear hw2
      go_upto_region 2 with fail
      go_region
      go_upto_region 3 with fail
      obtain ⟨W2, hW2⟩ : ∃ W2, W2 = (W.setCell ⟨g, 9, none⟩ (.int .i64 (goneM f sn))).drew := ⟨_, rfl⟩
      have HM2 := hide (show PwMid W2 base g q { f with gone := goneM f sn } (.slice A10 f.came.length c10) (.slice A11 f.out.length c11) by rw [hW2]; exact (HM.out.set (f' := { f with gone := goneM f sn }) 9 (.int .i64 (goneM f sn)) rfl rfl rfl).drew)
      have HO2 := hide (show Only (base ≤ ·) w W2 by rw [hW2]; exact (HO.out.setCell (Or.inl hgb) _).drew)
      have HS2 := hide (show Blk W2 w.heap.size 26 #[.int .i64 st, .int .i64 sa, .int .i64 sw, .int .i64 sr, .int .i64 sn, .int .i64 ss] by rw [hW2]; exact (HS.out.far hne2 _).drew)
      have HRead := hide (fun (w' : World) (hm : PwMid w' base g q { f with gone := goneM f sn } (.slice A10 f.came.length c10) (.slice A11 f.out.length c11)) => pwread_c g A10 c10 f.came (goneM f sn) w' (by rw [hm.blk.cell]; rfl) hm.lt (Rd.of_own hm.oc (fun _ h => h.elim)) (by simp only [maxLen]; omega))
      unfold goneM at hW2
      rw [← hW2]
      obtain ⟨G, hG⟩ : ∃ G, G = goneM f sn := ⟨_, rfl⟩
      have hG' : min (f.gone + min (max sn 0) 1000000000) 1000000000 = G := hG.symm
      rw [← hG] at HM2 HMm HRead
      try simp only [hG']
      have HG := hide hG
      clear k0 k1 k2 k3 k4 k5 k6 k7 k8 k9 k10 k11 f9 HM HO HS hW2 hG hG' s0 s1 s2 s3 s4 s5 hs0 hs1 hr0 hr1 hg0 hg1 hcs w1
      obtain ⟨V0, hV0⟩ : ∃ V9, V9 = W2.drew := ⟨_, rfl⟩
      have HV0 := hide (HM2.out.drew)
      have HO0 := hide (HO2.out.drew)
      have HS0 := hide (HS2.out.drew)
      rw [← hV0] at HV0 HO0 HS0
      clear HM2 HO2 HS2
      refine wp_region_pref (l1 := ?_) (l2 := ?_) 34 (fun w' => w'.cell? ⟨g, 4, none⟩ = some (.int .i64 q.id) ∧ w'.cell? ⟨g, 7, none⟩ = some (.int .i64 f.from_) ∧ w'.cell? ⟨g, 8, none⟩ = some (.int .i64 f.steps) ∧ w'.cell? ⟨g, 9, none⟩ = some (.int .i64 G) ∧ w'.cell? ⟨g, 11, none⟩ = some (.slice A11 f.out.length c11)) (by kernel_rfl) ?_ ?_ ?_ ?_ ?_ ?_ (fun hHeld => ?_)
      rotate_left 2
      · simp
      · kernel_rfl
      · kernel_rfl
      · simp only [List.take_succ_cons, List.take_zero]; rfl
      · simp only [List.drop_succ_cons, List.drop_zero]; rfl
      · rw [← hV0]; exact HV0.out.held
      rw [← hV0] at hHeld ⊢
      clear hV0
      refine wpAnyH_take (i := 0) (v := ?_) rfl (by kernel_rfl) (by kernel_rfl) (by kernel_rfl) (fun _ _ _ h => h) (Or.inl ⟨by rfl, ?_⟩) (by assumption) ?_
      rotate_left
      · (intro w9 hS9; try simp only [List.getElem_toArray, List.getElem_cons_zero, List.getElem_cons_succ]
         go_simp <;> rfl)
      try simp only [Act.put, List.setIfInBounds_toArray, List.set_cons_zero, List.set_cons_succ, List.getElem_toArray, List.getElem_cons_zero, List.getElem_cons_succ]
      refine wpAnyH_take (i := 1) (v := ?_) rfl (by kernel_rfl) (by kernel_rfl) (by kernel_rfl) (fun _ _ _ h => h) (Or.inl ⟨by rfl, ?_⟩) (by assumption) ?_
      rotate_left
      · (intro w9 hS9; try simp only [List.getElem_toArray, List.getElem_cons_zero, List.getElem_cons_succ]
         go_simp <;> rfl)
      try simp only [Act.put, List.setIfInBounds_toArray, List.set_cons_zero, List.set_cons_succ, List.getElem_toArray, List.getElem_cons_zero, List.getElem_cons_succ]
      refine wpAnyH_take (i := 2) (v := ?_) rfl (by kernel_rfl) (by kernel_rfl) (by kernel_rfl) (fun _ _ _ h => h) (Or.inl ⟨by rfl, ?_⟩) (by assumption) ?_
      rotate_left
      · (intro w9 hS9; try simp only [List.getElem_toArray, List.getElem_cons_zero, List.getElem_cons_succ]
         go_simp <;> rfl)
      try simp only [Act.put, List.setIfInBounds_toArray, List.set_cons_zero, List.set_cons_succ, List.getElem_toArray, List.getElem_cons_zero, List.getElem_cons_succ]
      refine wpAnyH_take (i := 3) (v := ?_) rfl (by kernel_rfl) (by kernel_rfl) (by kernel_rfl) (fun _ _ _ h => h) (Or.inl ⟨by rfl, ?_⟩) (by assumption) ?_
      rotate_left
      · (intro w9 hS9; try simp only [List.getElem_toArray, List.getElem_cons_zero, List.getElem_cons_succ]
         go_simp <;> rfl)
      try simp only [Act.put, List.setIfInBounds_toArray, List.set_cons_zero, List.set_cons_succ, List.getElem_toArray, List.getElem_cons_zero, List.getElem_cons_succ]
      refine wpAnyH_take (i := 4) (v := ?_) rfl (by kernel_rfl) (by kernel_rfl) (by kernel_rfl) (fun _ _ _ h => h) (Or.inl ⟨by rfl, ?_⟩) (by assumption) ?_
      rotate_left
      · (intro w9 hS9; try simp only [List.getElem_toArray, List.getElem_cons_zero, List.getElem_cons_succ]
         go_simp <;> rfl)
      try simp only [Act.put, List.setIfInBounds_toArray, List.set_cons_zero, List.set_cons_succ, List.getElem_toArray, List.getElem_cons_zero, List.getElem_cons_succ]
      refine wpAnyH_take (i := 5) (v := ?_) rfl (by kernel_rfl) (by kernel_rfl) (by kernel_rfl) (fun _ _ _ h => h) (Or.inl ⟨by rfl, ?_⟩) (by assumption) ?_
      rotate_left
      · (intro w9 hS9; try simp only [List.getElem_toArray, List.getElem_cons_zero, List.getElem_cons_succ]
         go_simp <;> rfl)
      try simp only [Act.put, List.setIfInBounds_toArray, List.set_cons_zero, List.set_cons_succ, List.getElem_toArray, List.getElem_cons_zero, List.getElem_cons_succ]
      refine wpAnyH_take (i := 6) (v := ?_) rfl (by kernel_rfl) (by kernel_rfl) (by kernel_rfl) (fun _ _ _ h => h) (Or.inl ⟨by rfl, ?_⟩) (by assumption) ?_
      rotate_left
      · (intro w9 hS9; try simp only [List.getElem_toArray, List.getElem_cons_zero, List.getElem_cons_succ]
         go_simp <;> rfl)
      try simp only [Act.put, List.setIfInBounds_toArray, List.set_cons_zero, List.set_cons_succ, List.getElem_toArray, List.getElem_cons_zero, List.getElem_cons_succ]
      refine wpAnyH_take (i := 7) (v := ?_) rfl (by kernel_rfl) (by kernel_rfl) (by kernel_rfl) (fun _ _ _ h => h) (Or.inl ⟨by rfl, ?_⟩) (by assumption) ?_
      rotate_left
      · (intro w9 hS9; try simp only [List.getElem_toArray, List.getElem_cons_zero, List.getElem_cons_succ]
         go_simp <;> rfl)
      try simp only [Act.put, List.setIfInBounds_toArray, List.set_cons_zero, List.set_cons_succ, List.getElem_toArray, List.getElem_cons_zero, List.getElem_cons_succ]
      refine wpAnyH_take (i := 8) (v := ?_) rfl (by kernel_rfl) (by kernel_rfl) (by kernel_rfl) (fun _ _ _ h => h) (Or.inl ⟨by rfl, ?_⟩) (by assumption) ?_
      rotate_left
      · (intro w9 hS9; try simp only [List.getElem_toArray, List.getElem_cons_zero, List.getElem_cons_succ]
         go_simp <;> rfl)
      try simp only [Act.put, List.setIfInBounds_toArray, List.set_cons_zero, List.set_cons_succ, List.getElem_toArray, List.getElem_cons_zero, List.getElem_cons_succ]
      refine wpAnyH_take (i := 9) (v := ?_) rfl (by kernel_rfl) (by kernel_rfl) (by kernel_rfl) (fun _ _ _ h => h) (Or.inl ⟨by rfl, ?_⟩) (by assumption) ?_
      rotate_left
      · (intro w9 hS9; try simp only [List.getElem_toArray, List.getElem_cons_zero, List.getElem_cons_succ]
         go_simp <;> rfl)
      try simp only [Act.put, List.setIfInBounds_toArray, List.set_cons_zero, List.set_cons_succ, List.getElem_toArray, List.getElem_cons_zero, List.getElem_cons_succ]
      refine wpAnyH_take (i := 10) (v := ?_) rfl (by kernel_rfl) (by kernel_rfl) (by kernel_rfl) (fun _ _ _ h => h) (Or.inl ⟨by rfl, ?_⟩) (by assumption) ?_
      rotate_left
      · (intro w9 hS9; try simp only [List.getElem_toArray, List.getElem_cons_zero, List.getElem_cons_succ]
         go_simp <;> rfl)
      try simp only [Act.put, List.setIfInBounds_toArray, List.set_cons_zero, List.set_cons_succ, List.getElem_toArray, List.getElem_cons_zero, List.getElem_cons_succ]
      refine wpAnyH_take (i := 11) (v := ?_) rfl (by kernel_rfl) (by kernel_rfl) (by kernel_rfl) (fun _ _ _ h => h) (Or.inl ⟨by rfl, ?_⟩) (by assumption) ?_
      rotate_left
      · (intro w9 hS9; try simp only [List.getElem_toArray, List.getElem_cons_zero, List.getElem_cons_succ]
         go_simp <;> rfl)
      try simp only [Act.put, List.setIfInBounds_toArray, List.set_cons_zero, List.set_cons_succ, List.getElem_toArray, List.getElem_cons_zero, List.getElem_cons_succ]
      refine wpAnyH_take (i := 12) (v := ?_) rfl (by kernel_rfl) (by kernel_rfl) (by kernel_rfl) (fun _ _ _ h => h) (Or.inl ⟨by rfl, ?_⟩) (by assumption) ?_
      rotate_left
      · (intro w9 hS9; try simp only [List.getElem_toArray, List.getElem_cons_zero, List.getElem_cons_succ]
         go_simp <;> rfl)
      try simp only [Act.put, List.setIfInBounds_toArray, List.set_cons_zero, List.set_cons_succ, List.getElem_toArray, List.getElem_cons_zero, List.getElem_cons_succ]
      refine wpAnyH_take (i := 13) (v := ?_) rfl (by kernel_rfl) (by kernel_rfl) (by kernel_rfl) (fun _ _ _ h => h) (Or.inl ⟨by rfl, ?_⟩) (by assumption) ?_
      rotate_left
      · (intro w9 hS9; try simp only [List.getElem_toArray, List.getElem_cons_zero, List.getElem_cons_succ]
         go_simp <;> rfl)
      try simp only [Act.put, List.setIfInBounds_toArray, List.set_cons_zero, List.set_cons_succ, List.getElem_toArray, List.getElem_cons_zero, List.getElem_cons_succ]
      refine wpAnyH_take (i := 14) (v := ?_) rfl (by kernel_rfl) (by kernel_rfl) (by kernel_rfl) (fun _ _ _ h => h) (Or.inl ⟨by rfl, ?_⟩) (by assumption) ?_
      rotate_left
      · (intro w9 hS9; try simp only [List.getElem_toArray, List.getElem_cons_zero, List.getElem_cons_succ]
         go_simp <;> rfl)
      try simp only [Act.put, List.setIfInBounds_toArray, List.set_cons_zero, List.set_cons_succ, List.getElem_toArray, List.getElem_cons_zero, List.getElem_cons_succ]
      refine wpAnyH_take (i := 15) (v := ?_) rfl (by kernel_rfl) (by kernel_rfl) (by kernel_rfl) (fun _ _ _ h => h) (Or.inl ⟨by rfl, ?_⟩) (by assumption) ?_
      rotate_left
      · (intro w9 hS9; try simp only [List.getElem_toArray, List.getElem_cons_zero, List.getElem_cons_succ]
         go_simp <;> rfl)
      try simp only [Act.put, List.setIfInBounds_toArray, List.set_cons_zero, List.set_cons_succ, List.getElem_toArray, List.getElem_cons_zero, List.getElem_cons_succ]
      refine wpAnyH_take (i := 16) (v := ?_) rfl (by kernel_rfl) (by kernel_rfl) (by kernel_rfl) (fun _ _ _ h => h) (Or.inl ⟨by rfl, ?_⟩) (by assumption) ?_
      rotate_left
      · (intro w9 hS9; try simp only [List.getElem_toArray, List.getElem_cons_zero, List.getElem_cons_succ]
         go_simp <;> rfl)
      try simp only [Act.put, List.setIfInBounds_toArray, List.set_cons_zero, List.set_cons_succ, List.getElem_toArray, List.getElem_cons_zero, List.getElem_cons_succ]
      refine wpAnyH_take (i := 17) (v := ?_) rfl (by kernel_rfl) (by kernel_rfl) (by kernel_rfl) (fun _ _ _ h => h) (Or.inl ⟨by rfl, ?_⟩) (by assumption) ?_
      rotate_left
      · (intro w9 hS9; try simp only [List.getElem_toArray, List.getElem_cons_zero, List.getElem_cons_succ]
         go_simp <;> rfl)
      try simp only [Act.put, List.setIfInBounds_toArray, List.set_cons_zero, List.set_cons_succ, List.getElem_toArray, List.getElem_cons_zero, List.getElem_cons_succ]
      refine wpAnyH_take (i := 18) (v := ?_) rfl (by kernel_rfl) (by kernel_rfl) (by kernel_rfl) (fun _ _ _ h => h) (Or.inl ⟨by rfl, ?_⟩) (by assumption) ?_
      rotate_left
      · (intro w9 hS9; try simp only [List.getElem_toArray, List.getElem_cons_zero, List.getElem_cons_succ]
         go_simp <;> rfl)
      try simp only [Act.put, List.setIfInBounds_toArray, List.set_cons_zero, List.set_cons_succ, List.getElem_toArray, List.getElem_cons_zero, List.getElem_cons_succ]
      refine wpAnyH_take (i := 19) (v := ?_) rfl (by kernel_rfl) (by kernel_rfl) (by kernel_rfl) (fun _ _ _ h => h) (Or.inl ⟨by rfl, ?_⟩) (by assumption) ?_
      rotate_left
      · (intro w9 hS9; try simp only [List.getElem_toArray, List.getElem_cons_zero, List.getElem_cons_succ]
         go_simp <;> rfl)
      try simp only [Act.put, List.setIfInBounds_toArray, List.set_cons_zero, List.set_cons_succ, List.getElem_toArray, List.getElem_cons_zero, List.getElem_cons_succ]
      refine wpAnyH_take (i := 20) (v := ?_) rfl (by kernel_rfl) (by kernel_rfl) (by kernel_rfl) (fun _ _ _ h => h) (Or.inl ⟨by rfl, ?_⟩) (by assumption) ?_
      rotate_left
      · (intro w9 hS9; try simp only [List.getElem_toArray, List.getElem_cons_zero, List.getElem_cons_succ]
         go_simp <;> rfl)
      try simp only [Act.put, List.setIfInBounds_toArray, List.set_cons_zero, List.set_cons_succ, List.getElem_toArray, List.getElem_cons_zero, List.getElem_cons_succ]
      refine wpAnyH_take (i := 21) (v := ?_) rfl (by kernel_rfl) (by kernel_rfl) (by kernel_rfl) (fun _ _ _ h => h) (Or.inl ⟨by rfl, ?_⟩) (by assumption) ?_
      rotate_left
      · (intro w9 hS9; try simp only [List.getElem_toArray, List.getElem_cons_zero, List.getElem_cons_succ]
         go_simp <;> rfl)
      try simp only [Act.put, List.setIfInBounds_toArray, List.set_cons_zero, List.set_cons_succ, List.getElem_toArray, List.getElem_cons_zero, List.getElem_cons_succ]
      refine wpAnyH_take (i := 23) (v := ?_) rfl (by kernel_rfl) (by kernel_rfl) (by kernel_rfl) (fun _ _ _ h => h) (Or.inl ⟨by rfl, ?_⟩) (by assumption) ?_
      rotate_left
      · (intro w9 hS9; try simp only [List.getElem_toArray, List.getElem_cons_zero, List.getElem_cons_succ]
         go_simp <;> rfl)
      try simp only [Act.put, List.setIfInBounds_toArray, List.set_cons_zero, List.set_cons_succ, List.getElem_toArray, List.getElem_cons_zero, List.getElem_cons_succ]
      refine wpAnyH_take (i := 24) (v := ?_) rfl (by kernel_rfl) (by kernel_rfl) (by kernel_rfl) (fun _ _ _ h => h) (Or.inl ⟨by rfl, ?_⟩) (by assumption) ?_
      rotate_left
      · (intro w9 hS9; try simp only [List.getElem_toArray, List.getElem_cons_zero, List.getElem_cons_succ]
         go_simp <;> rfl)
      try simp only [Act.put, List.setIfInBounds_toArray, List.set_cons_zero, List.set_cons_succ, List.getElem_toArray, List.getElem_cons_zero, List.getElem_cons_succ]
      refine wpAnyH_take (i := 25) (v := ?_) rfl (by kernel_rfl) (by kernel_rfl) (by kernel_rfl) (fun _ _ _ h => h) (Or.inl ⟨by rfl, ?_⟩) (by assumption) ?_
      rotate_left
      · (intro w9 hS9; try simp only [List.getElem_toArray, List.getElem_cons_zero, List.getElem_cons_succ]
         go_simp <;> rfl)
      try simp only [Act.put, List.setIfInBounds_toArray, List.set_cons_zero, List.set_cons_succ, List.getElem_toArray, List.getElem_cons_zero, List.getElem_cons_succ]
      refine wpAnyH_take (i := 26) (v := ?_) rfl (by kernel_rfl) (by kernel_rfl) (by kernel_rfl) (fun _ _ _ h => h) (Or.inl ⟨by rfl, ?_⟩) (by assumption) ?_
      rotate_left
      · (intro w9 hS9; try simp only [List.getElem_toArray, List.getElem_cons_zero, List.getElem_cons_succ]
         go_simp <;> rfl)
      try simp only [Act.put, List.setIfInBounds_toArray, List.set_cons_zero, List.set_cons_succ, List.getElem_toArray, List.getElem_cons_zero, List.getElem_cons_succ]
      refine wpAnyH_take (i := 27) (v := ?_) rfl (by kernel_rfl) (by kernel_rfl) (by kernel_rfl) (fun _ _ _ h => h) (Or.inl ⟨by rfl, ?_⟩) (by assumption) ?_
      rotate_left
      · (intro w9 hS9; try simp only [List.getElem_toArray, List.getElem_cons_zero, List.getElem_cons_succ]
         go_simp <;> rfl)
      try simp only [Act.put, List.setIfInBounds_toArray, List.set_cons_zero, List.set_cons_succ, List.getElem_toArray, List.getElem_cons_zero, List.getElem_cons_succ]
      refine wpAnyH_ready (rs := [22]) (by kernel_rfl) (by simp) ?_
      refine AllReadyH.cons rfl (fun K hK => ?_) AllReadyH.nil
      try simp only [List.getElem_toArray, List.getElem_cons_zero, List.getElem_cons_succ]
      try go_simp
      go_at_call 132
      refine (HRead.out _ HV0.out).mono ?_
      rintro e V1 ⟨rfl, hb3⟩
      have HV1 := hide (HV0.out.same (Only.of_below hb3 _))
      have HO1 := hide (HO0.out.trans (Only.of_below hb3 _))
      have HS1 := hide (HS0.out.below hb3)
      clear hb3
      refine hK.out _ _ HV1.out.held (fun hHeld => ?_)
      clear hK K
      try simp only [Act.put, List.setIfInBounds_toArray, List.set_cons_zero, List.set_cons_succ, List.getElem_toArray, List.getElem_cons_zero, List.getElem_cons_succ]
      refine wpAnyH_ready (rs := [28]) (by kernel_rfl) (by simp) ?_
      refine AllReadyH.cons rfl (fun K hK => ?_) AllReadyH.nil
      try simp only [List.getElem_toArray, List.getElem_cons_zero, List.getElem_cons_succ]
      try go_simp
      go_at_call 109
      refine (now_c g f.round _ (by rw [HV1.out.blk.cell]; rfl)).mono ?_
      rintro e V9 ⟨rfl, h9⟩
      obtain rfl := h9.symm
      refine hK.out _ _ HV1.out.held (fun hHeld => ?_)
      clear hK K
      try simp only [Act.put, List.setIfInBounds_toArray, List.set_cons_zero, List.set_cons_succ, List.getElem_toArray, List.getElem_cons_zero, List.getElem_cons_succ]
      refine wpAnyH_take (i := 29) (v := ?_) rfl (by kernel_rfl) (by kernel_rfl) (by kernel_rfl) (fun _ _ _ h => h) (Or.inl ⟨by rfl, ?_⟩) (by assumption) ?_
      rotate_left
      · (intro w9 hS9; try simp only [List.getElem_toArray, List.getElem_cons_zero, List.getElem_cons_succ]
         go_simp <;> rfl)
      try simp only [Act.put, List.setIfInBounds_toArray, List.set_cons_zero, List.set_cons_succ, List.getElem_toArray, List.getElem_cons_zero, List.getElem_cons_succ]
      refine wpAnyH_ready (rs := [30]) (by kernel_rfl) (by simp) ?_
      refine AllReadyH.cons rfl (fun K hK => ?_) AllReadyH.nil
      try simp only [List.getElem_toArray, List.getElem_cons_zero, List.getElem_cons_succ]
      try go_simp
      obtain ⟨V2, hV2⟩ : ∃ V9, V9 = V1.alloc (.cells (encLag (⟨q.id, f.steps, G, readM f.came G, f.from_, max f.round 0⟩ : LagM)).toArray 96) := ⟨_, rfl⟩
      have HV2 := hide (HV1.out.alloc (.cells (encLag (⟨q.id, f.steps, G, readM f.came G, f.from_, max f.round 0⟩ : LagM)).toArray 96))
      have HO2 := hide (HO1.out.alloc (.cells (encLag (⟨q.id, f.steps, G, readM f.came G, f.from_, max f.round 0⟩ : LagM)).toArray 96))
      have HS2 := hide (HS1.out.alloc (.cells (encLag (⟨q.id, f.steps, G, readM f.came G, f.from_, max f.round 0⟩ : LagM)).toArray 96))
      have HI2 := hide (Blk.new V1 96 (encLag (⟨q.id, f.steps, G, readM f.came G, f.from_, max f.round 0⟩ : LagM)).toArray)
      simp only [encLag] at hV2
      rw [← hV2]
      rw [show V1.alloc (.cells (encLag (⟨q.id, f.steps, G, readM f.came G, f.from_, max f.round 0⟩ : LagM)).toArray 96) = V2 from hV2.symm] at HV2 HO2 HS2 HI2
      clear hV2
      refine hK.out _ _ HV2.out.held (fun hHeld => ?_)
      clear hK K
      try simp only [Act.put, List.setIfInBounds_toArray, List.set_cons_zero, List.set_cons_succ, List.getElem_toArray, List.getElem_cons_zero, List.getElem_cons_succ]
      refine wpAnyH_ready (rs := [31]) (by kernel_rfl) (by simp) ?_
      refine AllReadyH.cons rfl (fun K hK => ?_) AllReadyH.nil
      refine step_append_rd V2 (by rfl) (.tmp 24) (.tmp 50) _ (by rfl) base 96 il _ 6 48 Tryz.underlying47 hil hlz0 hlz1 hlz2 rfl (by omega) (.slice A11 f.out.length c11) f.out.length (flat encLag f.out) (by rfl) HV2.out.oo NoBlk (some ⟨V1.heap.size, 0, none⟩) 1 1 (encLag (⟨q.id, f.steps, G, readM f.came G, f.from_, max f.round 0⟩ : LagM)) (by rfl) (rd_blkN HI2.out (fun h => h)) rfl (encLag_one _) (by simp only [maxLen]; omega) (by omega) HV2.out.bs ?_
      intro v9 V3 hown2 hgr _
      obtain ⟨A4, c4, rfl, hc4⟩ := own_cap hown2
      have HG3 := hide hgr
      have HOw3 := hide hown2
      have HB3 := hide (HV2.out.growO' hgr hown2)
      clear hgr hown2
      refine hK.out _ _ ⟨by rw [HB3.out.cell]; rfl, by rw [HB3.out.cell]; rfl, by rw [HB3.out.cell]; rfl, by rw [HB3.out.cell]; rfl, by rw [HB3.out.cell]; rfl⟩ (fun hHeld => ?_)
      clear hK K
      try simp only [Act.put, List.setIfInBounds_toArray, List.set_cons_zero, List.set_cons_succ, List.getElem_toArray, List.getElem_cons_zero, List.getElem_cons_succ]
      refine wpAnyH_take (i := 32) (v := ?_) rfl (by kernel_rfl) (by kernel_rfl) (by kernel_rfl) (fun _ _ _ h => h) (Or.inl ⟨by rfl, ?_⟩) (by assumption) ?_
      rotate_left
      · (intro w9 hS9; try simp only [List.getElem_toArray, List.getElem_cons_zero, List.getElem_cons_succ]
         go_simp <;> rfl)
      try simp only [Act.put, List.setIfInBounds_toArray, List.set_cons_zero, List.set_cons_succ, List.getElem_toArray, List.getElem_cons_zero, List.getElem_cons_succ]
      refine wpAnyH_take (i := 33) (v := ?_) rfl (by kernel_rfl) (by kernel_rfl) (by kernel_rfl) (fun _ _ _ h => h) (Or.inl ⟨by rfl, ?_⟩) (by assumption) ?_
      rotate_left
      · (intro w9 hS9; try simp only [List.getElem_toArray, List.getElem_cons_zero, List.getElem_cons_succ]
         go_simp <;> rfl)
      try simp only [Act.put, List.setIfInBounds_toArray, List.set_cons_zero, List.set_cons_succ, List.getElem_toArray, List.getElem_cons_zero, List.getElem_cons_succ]
      refine wpAnyH_done (by kernel_rfl) ?_ _
      simp only [Exit.then]
      clear hHeld
      have f11 := HB3.out.frozen 11
      have k11 : V3.cell? ⟨g, 11, none⟩ = some (.slice A11 f.out.length c11) := by rw [HB3.out.cell]; rfl
      go_wp2_with fail

      go_meet
      refine ⟨hide ?_, hide ?_, hide ?_⟩
      · rw [HMm.out]
        unfold lagOf
        rw [← HG.out]
        exact ⟨_, _, HV2.out.growO HG3.out HOw3.out rfl⟩
      · exact ((HO2.out.grown HG3.out (fun k hk => Or.inl (own_ge HV2.out.oo k hk))).setCell (Or.inl hgb) _)
      · exact (Blk.grown HS2.out HV2.out.oo (by decide) HG3.out).far hne2 _
    · have b2 : (sw == 2) = false := by simp [hw2]
      have HMm := hide (show matchM q.id f ⟨st, sa, sw, sr, sn, ss⟩ = f from if_neg hw2)
      clear hw2
      go_wp2_with fail
      go_meet
      exact ⟨hide (by rw [HMm.out]; exact ⟨_, _, HM.out⟩), HO, HS⟩
  case rest =>
    obtain ⟨HA, HO, HS⟩ := hcut
    obtain ⟨f1, hf1⟩ : ∃ f1, f1 = matchM q.id f ⟨st, sa, sw, sr, sn, ss⟩ := ⟨_, rfl⟩
    have HQ := hide (HSt.out f1 hf1.symm)
    rw [← hf1] at HA
    have hb1 : 0 ≤ f1.steps ∧ f1.steps ≤ kk := by
      have := HSM.out.s0
      have := HSM.out.s1
      rw [hf1]
      unfold matchM
      split <;> exact ⟨by assumption, by assumption⟩
    have w1 : IntKind.i64.wrap (f1.steps + 1) = f1.steps + 1 := IntWalk.i64_in _ (by omega)
    clear hf1 HSt HSM
    obtain ⟨va, vo, hm⟩ := HA.out
    have HM := hide hm
    have hgl1 := hm.lt
    obtain ⟨k0, k1, k2, k3, _⟩ := hm.blk.twelve
    obtain ⟨s0, s1, s2, s3, s4, s5⟩ := HS.out.six
    clear hm
    go_upto_region 4 with fail
    go_region_held3 (fun w' => w'.cell? ⟨g, 0, none⟩ = some (.string q.s) ∧ w'.cell? ⟨g, 1, none⟩ = some (.int .i64 q.d) ∧ w'.cell? ⟨g, 2, none⟩ = some (.int .i64 q.j) ∧ w'.cell? ⟨g, 3, none⟩ = some (.slice q.PA q.n q.pc) ∧ w'.cell? ⟨w.heap.size, 0, none⟩ = some (.int .i64 st) ∧ w'.cell? ⟨w.heap.size, 1, none⟩ = some (.int .i64 sa) ∧ w'.cell? ⟨w.heap.size, 2, none⟩ = some (.int .i64 sw) ∧ w'.cell? ⟨w.heap.size, 3, none⟩ = some (.int .i64 sr) ∧ w'.cell? ⟨w.heap.size, 4, none⟩ = some (.int .i64 sn) ∧ w'.cell? ⟨w.heap.size, 5, none⟩ = some (.int .i64 ss)) (go_keep)
      (first
        | (go_at_call 9
           refine (hNx.out _ HO.out.drew).mono ?_
           rintro e w3 ⟨rfl, ho3⟩
           have HM3 := hide (HM.out.drew.same ho3)
           have HO3 := hide (HO.out.drew.trans (ho3.none _))
           replace k0 := okeep ho3 (fun h => h) k0
           replace k1 := okeep ho3 (fun h => h) k1
           replace k2 := okeep ho3 (fun h => h) k2
           replace k3 := okeep ho3 (fun h => h) k3
           replace s0 := okeep ho3 (fun h => h) s0
           replace s1 := okeep ho3 (fun h => h) s1
           replace s2 := okeep ho3 (fun h => h) s2
           replace s3 := okeep ho3 (fun h => h) s3
           replace s4 := okeep ho3 (fun h => h) s4
           replace s5 := okeep ho3 (fun h => h) s5
           clear ho3))
    clear k0 k1 k2 k3 s0 s1 s2 s3 s4 s5 HS HO HM HA
    obtain ⟨_, _, _, _, _, k5, _, k7, k8, _⟩ := HM3.out.blk.twelve
    have f7 := HM3.out.blk.frozen 7
    have f8 := HM3.out.blk.frozen 8
    by_cases hx : 0 ≤ NX
    · have d1 : decide ((0 : Int) ≤ NX) = true := by simp [hx]
      have d2 : decide (NX < 0) = false := by simp; omega
      have HQ1 := hide (HQ.out.trans (by rw [if_pos hx]))
      clear HQ
      go_wp2_with fail
      refine (now_c g f1.round _ k5).mono ?_
      rintro e w4 ⟨rfl, h9⟩
      obtain rfl := h9.symm
      go_wp2_with fail
      go_end0
      refine ⟨rfl, ?_, (HO3.out.setCell (Or.inl hgb) _).setCell (Or.inl hgb) _⟩
      rw [HQ1.out]
      exact ⟨va, vo, (HM3.out.set (f' := { f1 with from_ := nowM f1 }) 7 (.int .i64 (nowM f1)) rfl rfl rfl).set (f' := { f1 with from_ := nowM f1, steps := f1.steps + 1 }) 8 (.int .i64 (f1.steps + 1)) rfl rfl rfl⟩
    · have d1 : decide ((0 : Int) ≤ NX) = false := by simp; omega
      have d2 : decide (NX < 0) = true := by simp; omega
      have HQ1 := hide (HQ.out.trans (by rw [if_neg hx]))
      clear HQ
      go_wp2_with fail
      go_end0
      refine ⟨rfl, ?_, HO3.out.setCell (Or.inl hgb) _⟩
      rw [HQ1.out]
      exact ⟨va, vo, HM3.out.set (f' := { f1 with steps := f1.steps + 1 }) 8 (.int .i64 (f1.steps + 1)) rfl rfl rfl⟩
end Go.Proofs.YtdmdohjdmnmabaaGreat
