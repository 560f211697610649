/- Parts of a chain of lemmas: OpR, ParA, ParB. Conditions: those of each theorem. -/
import Derived.Test.YtaioaojfdngfdaaGreatDoorNb19
import Derived.Test.YtaioaojfdngfdaaGreatDoorNb20
import Derived.Laws.OwnMore
import Derived.Test.YtaioaojfdngfdaaGreatDoorNb04
set_option linter.unusedVariables false
set_option linter.unusedSimpArgs false
namespace Go.Proofs.YtaioaojfdngfdaaGreatDoor
open Go.RowKit
set_option maxRecDepth 100000
theorem flat_setG {α : Type} (enc : α → List Value) (n j : Nat) (u : Value) (x : α) (hj : j < n) : ∀ (L : List α) (i : Nat) (y : α), (∀ a ∈ L, (enc a).length = n) → L[i]? = some y → enc x = (enc y).set j u → flat enc (L.set i x) = (flat enc L).set (i * n + j) u
 | [], i, y, _, h, _ => by simp at h
 | a :: r, 0, y, hl, h, he => by
  simp at h
  subst h
  have := hl a (by simp)
  rw [List.set_cons_zero]
  show enc x ++ flat enc r = (enc a ++ flat enc r).set (0 * n + j) u
  rw [he, List.set_append, if_pos (by omega)]
  simp
 | a :: r, i + 1, y, hl, h, he => by
  have h1 := hl a (by simp)
  rw [List.set_cons_succ]
  show enc a ++ flat enc (r.set i x) = (enc a ++ flat enc r).set ((i + 1) * n + j) u
  rw [List.set_append, if_neg (by rw [h1, Nat.succ_mul]; omega), flat_setG enc n j u x hj r i y (fun b hb => hl b (by simp [hb])) (by simpa using h) he]
  congr 2
  rw [h1, Nat.succ_mul]; omega
theorem own_blk {w : World} {base size n : Nat} {e : TypeId} {v : Value} {xs : List Value} (h : w.ownsRow base e size v n xs) {g : Nat} (hg : v.ownBlock = some g) : ∃ cs, Blk w g e cs := by
 rcases h.2 with ⟨rfl, _⟩ | ⟨g', cap, cur, rfl, _, hb, _⟩
 ·simp [Value.ownBlock] at hg
 ·simp [Value.ownBlock] at hg
  subst hg
  exact ⟨cur, hb⟩
/-- behind what turned blocks of another type alone -/
theorem own_type {w w' : World} {base size n : Nat} {e T : TypeId} {v : Value} {xs : List Value} {S : Nat → Prop} (h : w.ownsRow base e size v n xs) (k : Only S w w') (hS : ∀ g, S g → ∃ cs, Blk w g T cs) (hT : T ≠ e) : w'.ownsRow base e size v n xs :=
 own_only h k fun g cs hs hb => by
  obtain ⟨cs', hb'⟩ := hS g hs
  exact Blk.ne_ hb' hb hT rfl
theorem own_apart2 {w w' : World} {base size n : Nat} {e : TypeId} {v : Value} {xs : List Value} {S : Nat → Prop} (h : w.ownsRow base e size v n xs) (k : Only S w w') (hS : ∀ g, v.ownBlock = some g → ¬ S g) : w'.ownsRow base e size v n xs := by
 obtain ⟨hl, h2⟩ := h
 refine ⟨hl, ?_⟩
 rcases h2 with ⟨hv, hn⟩ | ⟨g, cap, cur, hv, hb, hh, r⟩
 ·exact Or.inl ⟨hv, hn⟩
 ·exact Or.inr ⟨g, cap, cur, hv, hb, (k.block g (Blk.lt (t := e) (cs := cur) hh) (hS g (by rw [hv]; rfl))).trans hh, r⟩
theorem only_grow {w w1 : World} {row : Option Nat} (h : w.grownBy w1 row) : Only (fun k => row = some k) w w1 :=
 ⟨h.os, h.output, h.size, fun i hi hne => h.block i hi (fun e => hne e.symm)⟩
theorem only_cell {w : World} {g i : Nat} {u : Value} : Only (· = g) w (w.setCell ⟨g, i, none⟩ u) := only_set w g i u
def blkA (A : Option Addr) : Option Nat := A.map (·.block)
theorem blkA_own (A : Option Addr) (n c : Nat) : (Value.slice A n c).ownBlock = blkA A := by cases A <;> rfl
abbrev armsV (v : OpV) : Value := .slice v.A v.o.arms.length v.c
theorem pair_at {L : List OpV} {q r : Nat} {x y : OpV} (h : L.Pairwise (fun u v => ∀ g, blkA u.A = some g → blkA v.A ≠ some g)) (hq : L[q]? = some x) (hr : L[r]? = some y) (hlt : q < r) : ∀ k, blkA x.A = some k → blkA y.A ≠ some k := by
 rw [List.pairwise_iff_getElem] at h
 obtain ⟨h1, rfl⟩ := List.getElem?_eq_some_iff.1 hq
 obtain ⟨h2, rfl⟩ := List.getElem?_eq_some_iff.1 hr
 exact h q r h1 h2 hlt
theorem pair_set {L : List OpV} {i : Nat} {v : OpV} (h : L.Pairwise (fun u v => ∀ g, blkA u.A = some g → blkA v.A ≠ some g)) (hi : i < L.length) (hA : v.A = (opAt L i).A) : (L.set i v).Pairwise (fun u v => ∀ g, blkA u.A = some g → blkA v.A ≠ some g) := by
 have e : (L.set i v).map (·.A) = L.map (·.A) := by
  rw [List.map_set, hA]
  apply List.ext_getElem?
  intro j
  by_cases hj : i = j
  ·subst hj
   rw [List.getElem?_set_self (by simpa using hi), List.getElem?_map, opAt_some hi]
   rfl
  ·rw [List.getElem?_set_ne hj]
 have h2 := (List.pairwise_map (f := fun v : OpV => v.A) (R := fun (x y : Option Addr) => ∀ g, blkA x = some g → blkA y ≠ some g)).2 h
 rw [← e] at h2
 exact List.pairwise_map.1 h2
structure OpsOwn (w : World) (B : Nat) (oA : Option Addr) (oc : Nat) (L : List OpV) : Prop where
 row : w.ownsRow B 92 7 (.slice oA L.length oc) L.length (flat encOp L)
 arms : ∀ v ∈ L, w.ownsRow B 94 2 (armsV v) v.o.arms.length (flat encArm v.o.arms)
 apart : L.Pairwise (fun u v => ∀ g, blkA u.A = some g → blkA v.A ≠ some g)
section
variable {w w' : World} {B : Nat} {oA : Option Addr} {oc : Nat} {L : List OpV} {S : Nat → Prop} {T : TypeId}
theorem OpsOwn.type (h : OpsOwn w B oA oc L) (k : Only S w w') (hS : ∀ g, S g → ∃ cs, Blk w g T cs) (h1 : T ≠ 92) (h2 : T ≠ 94) : OpsOwn w' B oA oc L :=
 ⟨own_type h.row k hS h1, fun v hv => own_type (h.arms v hv) k hS h2, h.apart⟩
theorem OpsOwn.same (h : OpsOwn w B oA oc L) (k : Only NoBlk w w') : OpsOwn w' B oA oc L := h.type (T := 0) k (fun _ h => h.elim) (by decide) (by decide)
theorem OpsOwn.at_ (h : OpsOwn w B oA oc L) {i : Nat} (hi : i < L.length) : ∃ g, oA = some ⟨g, 0, none⟩ ∧ B ≤ g ∧ g < w.heap.size := by
 rcases h.row.2 with ⟨_, hn⟩ | ⟨g, cap, cur, hv, hb, hh, _⟩
 ·omega
 ·injection hv with h1
  exact ⟨g, h1, hb, Blk.lt (t := 92) (cs := cur) hh⟩
theorem flat_at7 {L : List OpV} {i j : Nat} (hi : i < L.length) (hj : j < 7) : (flat encOp L)[i * 7 + j]? = (encOp (opAt L i))[j]? := by
 have := opAt_some hi
 generalize opAt L i = v at *
 induction L generalizing i with
 | nil => simp at hi
 | cons a r ih =>
  show (encOp a ++ flat encOp r)[i * 7 + j]? = _
  cases i with
  | zero =>
   simp at this
   subst this
   rw [List.getElem?_append_left (by rw [encOp_len]; omega)]
   simp
  | succ i =>
   rw [List.getElem?_append_right (by rw [encOp_len, Nat.succ_mul]; omega)]
   rw [← ih (i := i) (by simpa using hi) (by simpa using this)]
   congr 1
   rw [encOp_len, Nat.succ_mul]; omega
theorem OpsOwn.cells {g : Nat} (h : OpsOwn w B (some ⟨g, 0, none⟩) oc L) {i : Nat} (hi : i < L.length) :
 (w.cell? ⟨g, i * 7, none⟩ = some (.int .i64 (opAt L i).o.kind) ∧ w.cell? ⟨g, i * 7 + 1, none⟩ = some (.string (opAt L i).o.text) ∧ w.cell? ⟨g, i * 7 + 2, none⟩ = some (.int .i64 (opAt L i).o.n) ∧
   w.cell? ⟨g, i * 7 + 3, none⟩ = some (.int .i64 (opAt L i).o.to) ∧ w.cell? ⟨g, i * 7 + 4, none⟩ = some (.slice (opAt L i).A (opAt L i).o.arms.length (opAt L i).c) ∧
   w.cell? ⟨g, i * 7 + 5, none⟩ = some (.int .i64 (opAt L i).o.onT) ∧ w.cell? ⟨g, i * 7 + 6, none⟩ = some (.int .i64 (opAt L i).o.onE)) ∧ ∀ j, w.frozen? ⟨g, j, none⟩ = false := by
 have hc := h.row
 have key : ∀ j, j < 7 → w.cell? ⟨g, i * 7 + j, none⟩ = (encOp (opAt L i))[j]? := fun j hj => by rw [hc.cellAt _ (by omega), flat_at7 hi hj]
 exact ⟨⟨key 0 (by omega), key 1 (by omega), key 2 (by omega), key 3 (by omega), key 4 (by omega), key 5 (by omega), key 6 (by omega)⟩, hc.frozenAt⟩
theorem own_newer {base size n : Nat} {e : TypeId} {v : Value} {xs : List Value} (h : w.ownsRow base e size v n xs) {g : Nat} (hg : v.ownBlock = some g) : g < w.heap.size := by
 rcases h.2 with ⟨rfl, _⟩ | ⟨g', cap, cur, rfl, _, hb, _⟩
 ·simp [Value.ownBlock] at hg
 ·simp [Value.ownBlock] at hg
  subst hg
  exact Blk.lt (t := e) (cs := cur) hb
/-- behind append of an op without arms -/
theorem OpsOwn.app {oA' : Option Addr} {oc' : Nat} {v : OpV} (h : OpsOwn w B oA oc L) (hB : B ≤ w.heap.size) (hg : w.grownBy w' (blkA oA)) (hv : v.A = none) (hv2 : v.o.arms = []) (hv3 : v.c = 0)
 (ho : w'.ownsRow B 92 7 (.slice oA' (L.length + 1) oc') (L.length + 1) (flat encOp L ++ encOp v)) : OpsOwn w' B oA' oc' (L ++ [v]) := by
 refine ⟨?_, ?_, ?_⟩
 ·have e : flat encOp (L ++ [v]) = flat encOp L ++ encOp v := by simp [flat]
  rw [e, List.length_append]
  exact ho
 ·intro u hu
  rcases List.mem_append.1 hu with hu | hu
  ·refine own_type (T := 92) (h.arms u hu) (only_grow hg) (fun g hgg => ?_) (by decide)
   exact own_blk h.row (by rw [blkA_own]; exact hgg)
  ·simp at hu
   subst hu
   unfold armsV
   rw [hv, hv2, hv3]
   exact World.ownsRow_nil _ _ _ _
 ·rw [List.pairwise_append]
  refine ⟨h.apart, by simp, fun a _ b hb g _ => ?_⟩
  simp at hb
  subst hb
  rw [hv]
  simp [blkA]
/-- a cell of an op stored anew, but for its arms -/
theorem OpsOwn.setOp {g i j : Nat} {u : Value} {v : OpV} (h : OpsOwn w B (some ⟨g, 0, none⟩) oc L) (hi : i < L.length) (hj : j < 7) (he : encOp v = (encOp (opAt L i)).set j u) (hA : v.A = (opAt L i).A) (hs : v.o.arms = (opAt L i).o.arms) (hc : v.c = (opAt L i).c) :
 OpsOwn (w.setCell ⟨g, i * 7 + j, none⟩ u) B (some ⟨g, 0, none⟩) oc (L.set i v) := by
 have hst := h.row.stored (i * 7 + j) u
 have hbk : ∃ cs, Blk w g 92 cs := own_blk h.row rfl
 have hT : ∀ x ∈ L, (w.setCell ⟨g, i * 7 + j, none⟩ u).ownsRow B 94 2 (armsV x) x.o.arms.length (flat encArm x.o.arms) := fun x hx =>
  own_type (T := 92) (h.arms x hx) only_cell (fun k hk => by subst hk; exact hbk) (by decide)
 refine ⟨?_, ?_, ?_⟩
 ·rw [List.length_set, flat_setG encOp 7 j u v hj L i _ (fun a _ => encOp_len a) (opAt_some hi) he]
  exact hst.1
 ·intro x hx
  rcases List.mem_or_eq_of_mem_set hx with hx | rfl
  ·exact hT x hx
  ·have := hT _ (opAt_mem hi)
   unfold armsV at this ⊢
   rw [hA, hs, hc]
   exact this
 ·exact pair_set h.apart hi hA
/-- an arm more of an op -/
theorem OpsOwn.armApp {g i : Nat} {A' : Option Addr} {c' : Nat} {v : OpV} {a : ArmM} (h : OpsOwn w B (some ⟨g, 0, none⟩) oc L) (hi : i < L.length) (hg : w.grownBy w' (blkA (opAt L i).A))
 (ho : w'.ownsRow B 94 2 (.slice A' ((opAt L i).o.arms.length + 1) c') ((opAt L i).o.arms.length + 1) (flat encArm (opAt L i).o.arms ++ encArm a)) (hn : blkA A' = blkA (opAt L i).A ∨ blkA A' = some w.heap.size)
 (hA : v.A = A') (hs : v.o.arms = (opAt L i).o.arms ++ [a]) (hc : v.c = c') (he : encOp v = (encOp (opAt L i)).set 4 (.slice A' ((opAt L i).o.arms.length + 1) c')) :
 OpsOwn (w'.setCell ⟨g, i * 7 + 4, none⟩ (.slice A' ((opAt L i).o.arms.length + 1) c')) B (some ⟨g, 0, none⟩) oc (L.set i v) := by
 have hrow : w'.ownsRow B 92 7 (.slice (some ⟨g, 0, none⟩) L.length oc) L.length (flat encOp L) := own_type (T := 94) h.row (only_grow hg) (fun k hk => own_blk (h.arms _ (opAt_mem hi)) (by unfold armsV; rw [blkA_own]; exact hk)) (by decide)
 have hbk : ∃ cs, Blk w' g 92 cs := own_blk hrow rfl
 have hst := hrow.stored (i * 7 + 4) (.slice A' ((opAt L i).o.arms.length + 1) c')
 have hset : ∀ {n' : Nat} {x : Value} {xs : List Value}, w'.ownsRow B 94 2 x n' xs → (w'.setCell ⟨g, i * 7 + 4, none⟩ (.slice A' ((opAt L i).o.arms.length + 1) c')).ownsRow B 94 2 x n' xs := fun hx =>
  own_type (T := 92) hx only_cell (fun k hk => by subst hk; exact hbk) (by decide)
 have hold : ∀ (q : Nat) (x : OpV), L[q]? = some x → q ≠ i → ∀ k, blkA x.A = some k → blkA (opAt L i).A ≠ some k := by
  intro q x hq hne k hk hk2
  have hqi := opAt_some hi
  rcases Nat.lt_or_ge q i with hlt | hge
  ·exact pair_at h.apart hq hqi hlt k hk hk2
  ·exact pair_at h.apart hqi hq (by omega) k hk2 hk
 refine ⟨?_, ?_, ?_⟩
 ·rw [List.length_set, flat_setG encOp 7 4 _ v (by omega) L i _ (fun a _ => encOp_len a) (opAt_some hi) he]
  exact hst.1
 ·intro x hx
  rw [List.mem_iff_getElem?] at hx
  obtain ⟨q, hq⟩ := hx
  by_cases hqi : i = q
  ·subst hqi
   rw [List.getElem?_set_self hi] at hq
   injection hq with hq
   subst hq
   unfold armsV
   rw [hA, hs, hc, List.length_append, show flat encArm ((opAt L i).o.arms ++ [a]) = flat encArm (opAt L i).o.arms ++ encArm a by simp [flat]]
   exact hset ho
  ·rw [List.getElem?_set_ne hqi] at hq
   refine hset (own_apart2 (h.arms x (List.mem_of_getElem? hq)) (only_grow hg) (fun k hk hk2 => ?_))
   unfold armsV at hk
   rw [blkA_own] at hk
   exact hold q x hq (fun e => hqi e.symm) k hk hk2
 ·rw [List.pairwise_iff_getElem]
  intro q r hq hr hqr k hk hk2
  rw [List.length_set] at hq hr
  by_cases h1 : i = q
  ·subst h1
   rw [List.getElem_set_self, hA] at hk
   rw [List.getElem_set_ne (by omega)] at hk2
   rcases hn with hn | hn
   ·rw [hn] at hk
    exact hold r _ (List.getElem?_eq_getElem hr) (by omega) k hk2 hk
   ·rw [hn] at hk
    injection hk with hk
    have := own_newer (h.arms _ (List.getElem_mem hr)) (by unfold armsV; rw [blkA_own]; exact hk2)
    omega
  ·rw [List.getElem_set_ne h1] at hk
   by_cases h2 : i = r
   ·subst h2
    rw [List.getElem_set_self, hA] at hk2
    rcases hn with hn | hn
    ·rw [hn] at hk2
     exact hold q _ (List.getElem?_eq_getElem hq) (by omega) k hk hk2
    ·rw [hn] at hk2
     injection hk2 with hk2
     have := own_newer (h.arms _ (List.getElem_mem hq)) (by unfold armsV; rw [blkA_own]; exact hk)
     omega
   ·rw [List.getElem_set_ne h2] at hk2
    exact pair_at h.apart (List.getElem?_eq_getElem hq) (List.getElem?_eq_getElem hr) hqr k hk hk2
theorem flat_setS {v : OpV} : ∀ (L : List OpV) (i : Nat) (y : OpV), L[i]? = some y → encOp v = encOp y → flat encOp (L.set i v) = flat encOp L
 | [], i, y, h, _ => by simp at h
 | a :: r, 0, y, h, he => by
  simp at h
  subst h
  show encOp v ++ flat encOp r = encOp a ++ flat encOp r
  rw [he]
 | a :: r, i + 1, y, h, he => by
  show encOp a ++ flat encOp (r.set i v) = encOp a ++ flat encOp r
  rw [flat_setS r i y (by simpa using h) he]
/-- where an arm leads, stored anew -/
theorem OpsOwn.armSet {g i k : Nat} {v : OpV} {t : Int} (h : OpsOwn w B oA oc L) (hi : i < L.length) (hA : (opAt L i).A = some ⟨g, 0, none⟩) (hk : k < (opAt L i).o.arms.length)
 (hv : v.A = (opAt L i).A) (hc : v.c = (opAt L i).c) (hs : v.o.arms = (opAt L i).o.arms.set k ⟨(armAt (opAt L i).o.arms k).pat, t⟩) (he : encOp v = encOp (opAt L i)) :
 OpsOwn (w.setCell ⟨g, k * 2 + 1, none⟩ (.int .i64 t)) B oA oc (L.set i v) := by
 have hr := h.arms _ (opAt_mem hi)
 unfold armsV at hr
 rw [hA] at hr
 have hst := hr.stored (k * 2 + 1) (.int .i64 t)
 have hbk : ∃ cs, Blk w g 94 cs := own_blk hr rfl
 have hfl : flat encArm v.o.arms = (flat encArm (opAt L i).o.arms).set (k * 2 + 1) (.int .i64 t) := by
  rw [hs]
  exact flat_setG encArm 2 1 _ _ (by omega) _ k _ (fun a _ => encArm_len a) (armAt_some hk) rfl
 have hln : v.o.arms.length = (opAt L i).o.arms.length := by rw [hs, List.length_set]
 refine ⟨?_, ?_, pair_set h.apart hi hv⟩
 ·rw [List.length_set, flat_setS L i _ (opAt_some hi) he]
  exact own_type (T := 94) h.row only_cell (fun k hk => by subst hk; exact hbk) (by decide)
 ·intro x hx
  rw [List.mem_iff_getElem?] at hx
  obtain ⟨q, hq⟩ := hx
  by_cases hqi : i = q
  ·subst hqi
   rw [List.getElem?_set_self hi] at hq
   injection hq with hq
   subst hq
   unfold armsV
   rw [hv, hA, hc, hln, hfl]
   exact hst.1
  ·rw [List.getElem?_set_ne hqi] at hq
   refine own_apart2 (h.arms x (List.mem_of_getElem? hq)) only_cell (fun k' hk' hk2 => ?_)
   unfold armsV at hk'
   rw [blkA_own] at hk'
   subst hk2
   have hqi' := opAt_some hi
   rcases Nat.lt_or_ge q i with hlt | hge
   ·exact pair_at h.apart hq hqi' hlt _ hk' (by rw [hA]; rfl)
   ·exact pair_at h.apart hqi' hq (by omega) _ (by rw [hA]; rfl) hk'
end
set_option maxRecDepth 100000
abbrev encUse (u : UseM) : List Value := [.string (bs u.name), .int .i64 u.line, .int .i64 u.col, .int .i64 u.op, .int .i64 u.how]
theorem encUse_one (x : UseM) : ∀ u ∈ encUse x, u.oneCell' = true := by intro u hu; simp at hu; rcases hu with rfl | rfl | rfl | rfl | rfl <;> rfl
/-- the types whose blocks a reader of scripts turns -/
def MutT (T : TypeId) : Bool := T == 76 || (T == 135 || (T == 92 || (T == 94 || (T == 84 || (T == 88 || T == 146)))))
/-- of the old blocks none ahead of B turned, and none but of these types -/
structure OnB (B : Nat) (w w' : World) : Prop where
 on : Only (B ≤ ·) w w'
 keep : ∀ k T cs, Blk w k T cs → MutT T = false → Blk w' k T cs
theorem OnB.refl (B : Nat) (w : World) : OnB B w w := ⟨Only.refl _ w, fun _ _ _ h _ => h⟩
section
variable {B : Nat} {w w' w'' : World}
theorem OnB.trans (h : OnB B w w') (k : OnB B w' w'') : OnB B w w'' := ⟨h.on.trans k.on, fun g T cs hb hm => k.keep g T cs (h.keep g T cs hb hm) hm⟩
theorem OnB.alloc (h : OnB B w w') (o : Obj) : OnB B w (w'.alloc o) := ⟨h.on.alloc o, fun g T cs hb hm => Blk.alloc (h.keep g T cs hb hm) o⟩
theorem OnB.drew (h : OnB B w w') : OnB B w w'.drew := ⟨h.on.drew, fun g T cs hb hm => (h.keep g T cs hb hm).drew⟩
theorem OnB.none (k : Only NoBlk w w') : OnB B w w' := ⟨k.none _, fun g T cs hb hm => Blk.only hb k (fun h => h)⟩
theorem OnB.drewN (h : OnB B w w') (n : Nat) : OnB B w (w'.drewN n) := h.trans (OnB.none (Only.drewN (Only.refl NoBlk _) n))
theorem OnB.of {S : Nat → Prop} {T : TypeId} (k : Only S w w') (hB : ∀ g, S g → B ≤ g) (hT : ∀ g, S g → ∃ cs, Blk w g T cs) (hm : MutT T = true) : OnB B w w' :=
 ⟨k.mono fun g _ hg => hB g hg, fun g T' cs hb hm' => Blk.only hb k (fun hg => by
  obtain ⟨cs', hc⟩ := hT g hg
  exact Blk.ne_ hc hb (fun e => by rw [e, hm'] at hm; exact absurd hm (by decide)) rfl)⟩
theorem okeepB (h : OnB B w w') {p : Addr} (hp : ¬ B ≤ p.block) {v : Value} (hv : w.cell? p = some v) : w'.cell? p = some v := okeep h.on hp hv
end
structure Pp where
 name : ByteArray
 dl : Int
 jm : Int
 L : List OpV
 oA : Option Addr
 oc : Nat
 labels : List (List UInt8 × Int)
 mb : Nat
 uses : List UseM
 uA : Option Addr
 uc : Nat
 head : Bool
 opn : Bool
 t0 : Bool
 t1 : Bool
 line : Int
 wA : Option Addr
 ws : List WordM
 wc : Nat
 width : Int
 st : St
def Pp.fr (p : Pp) : Fr := ⟨.string p.name, .int .i64 p.dl, .int .i64 p.jm, .slice p.oA p.L.length p.oc, .map (some p.mb), .slice p.uA p.uses.length p.uc, .bool p.head, .bool p.opn, .bool p.t0, .bool p.t1, p.line, p.wA, p.ws, p.wc, p.width⟩
structure PAt (w : World) (B a : Nat) (p : Pp) : Prop where
 blk : PBlk w a p.fr p.st
 base : B ≤ a
 ops : OpsOwn w B p.oA p.oc p.L
 uses : w.ownsRow B 135 5 (.slice p.uA p.uses.length p.uc) p.uses.length (flat encUse p.uses)
 lb : LbAt w p.mb p.labels.length p.labels
 lbB : B ≤ p.mb
 ws : w.ownsRow B 128 3 (.slice p.wA p.ws.length p.wc) p.ws.length (flat encW p.ws)
section
variable {w w' : World} {B a : Nat} {p p' : Pp}
theorem PAt.lt (h : PAt w B a p) : a < w.heap.size := h.blk.lt
/-- behind what turned the parser's own block alone -/
theorem PAt.front (h : PAt w B a p) (k : Only (· = a) w w') (hb : PBlk w' a p'.fr p'.st) (e1 : p'.L = p.L := by rfl) (e2 : p'.oA = p.oA := by rfl) (e3 : p'.oc = p.oc := by rfl) (e4 : p'.labels = p.labels := by rfl) (e5 : p'.mb = p.mb := by rfl)
 (e6 : p'.uses = p.uses := by rfl) (e7 : p'.uA = p.uA := by rfl) (e8 : p'.uc = p.uc := by rfl) (e9 : p'.ws = p.ws := by rfl) (e10 : p'.wA = p.wA := by rfl) (e11 : p'.wc = p.wc := by rfl) : PAt w' B a p' := by
 have hS : ∀ g, g = a → ∃ cs, Blk w g 76 cs := fun g hg => by subst hg; exact ⟨_, h.blk⟩
 refine ⟨hb, h.base, ?_, ?_, ?_, by rw [e5]; exact h.lbB, ?_⟩
 ·rw [e1, e2, e3]; exact h.ops.type k hS (by decide) (by decide)
 ·rw [e6, e7, e8]; exact own_type h.uses k hS (by decide)
 ·rw [e4, e5]; exact h.lb.only k (fun e => h.lb.ne h.blk e.symm)
 ·rw [e9, e10, e11]; exact own_type h.ws k hS (by decide)
theorem PAt.same (h : PAt w B a p) (k : Only NoBlk w w') : PAt w' B a p := h.front (k.none _) (Blk.only h.blk k (fun h => h))
theorem PAt.alloc (h : PAt w B a p) (o : Obj) : PAt (w.alloc o) B a p := h.same ((Only.refl NoBlk w).alloc o)
theorem PAt.drew (h : PAt w B a p) : PAt w.drew B a p := h.same (Only.refl NoBlk w).drew
theorem PAt.words (h : PAt w B a p) : Rd w (· = a) p.wA (flat encW p.ws) := by
 rcases h.ws.2 with ⟨hv, hn⟩ | ⟨g, cap, cur, hv, hb, hh, hnc, _, hsz, htk⟩
 ·left
  exact List.eq_nil_of_length_eq_zero (by rw [h.ws.1, hn])
 ·right
  injection hv with h1
  refine ⟨g, 0, h1, fun e => ?_, Blk.lt (t := 128) (cs := cur) hh, fun j hj => ?_⟩
  ·subst e; exact Blk.ne_ (t := 128) (cs := cur) hh h.blk (by decide) rfl
  ·rw [Blk.cell (t := 128) (cs := cur) hh, ← htk, List.getElem?_take, if_pos (by rw [← h.ws.1]; exact hj), Nat.zero_add]
   simp
/-- a use more: the row grown, the parser's cell stored anew -/
theorem PAt.use {uA' : Option Addr} {uc' : Nat} {u : UseM} (h : PAt w B a p) (hg : w.grownBy w' (blkA p.uA)) (ho : w'.ownsRow B 135 5 (.slice uA' (p.uses.length + 1) uc') (p.uses.length + 1) (flat encUse p.uses ++ encUse u))
 (hp : p' = { p with uses := p.uses ++ [u], uA := uA', uc := uc' }) : PAt (w'.setCell ⟨a, 5, none⟩ (.slice uA' (p.uses.length + 1) uc')) B a p' ∧ OnB B w (w'.setCell ⟨a, 5, none⟩ (.slice uA' (p.uses.length + 1) uc')) := by
 subst hp
 have hSu : ∀ g, blkA p.uA = some g → ∃ cs, Blk w g 135 cs := fun g hgg => own_blk h.uses (by rw [blkA_own]; exact hgg)
 have hb1 : PBlk w' a p.fr p.st := Blk.only h.blk (only_grow hg) (fun hgg => by obtain ⟨cs, hc⟩ := hSu a hgg; exact Blk.ne_ hc h.blk (by decide) rfl)
 have hS : ∀ g, g = a → ∃ cs, Blk w' g 76 cs := fun g hg => by subst hg; exact ⟨_, hb1⟩
 have k2 : Only (· = a) w' (w'.setCell ⟨a, 5, none⟩ (.slice uA' (p.uses.length + 1) uc')) := only_cell
 refine ⟨⟨?_, h.base, ?_, ?_, ?_, h.lbB, ?_⟩, ?_⟩
 ·have := hb1.set_ 5 (.slice uA' (p.uses.length + 1) uc')
  unfold PBlk Pp.fr at *
  simp only [List.length_append, List.length_singleton]
  exact this
 ·exact (h.ops.type (only_grow hg) hSu (by decide) (by decide)).type k2 hS (by decide) (by decide)
 ·have e : flat encUse (p.uses ++ [u]) = flat encUse p.uses ++ encUse u := by simp [flat]
  show World.ownsRow _ B _ 5 (.slice uA' (p.uses ++ [u]).length uc') (p.uses ++ [u]).length (flat encUse (p.uses ++ [u]))
  rw [e, List.length_append]
  exact own_type ho k2 hS (by decide)
 ·refine (h.lb.only (only_grow hg) (fun hgg => ?_)).only k2 (fun e => ?_)
  ·obtain ⟨cs, hc⟩ := hSu _ hgg; exact h.lb.ne hc rfl
  ·exact h.lb.ne h.blk e.symm
 ·exact own_type (own_type h.ws (only_grow hg) hSu (by decide)) k2 hS (by decide)
 ·exact (OnB.of (only_grow hg) (fun g hgg => own_ge h.uses g (by rw [blkA_own]; exact hgg)) hSu rfl).trans (OnB.of k2 (fun g hg => by have := h.base; omega) hS rfl)
/-- an op more -/
theorem PAt.app {oA' : Option Addr} {oc' : Nat} {v : OpV} (h : PAt w B a p) (hB : B ≤ w.heap.size) (hg : w.grownBy w' (blkA p.oA)) (hv : v.A = none) (hv2 : v.o.arms = []) (hv3 : v.c = 0)
 (ho : w'.ownsRow B 92 7 (.slice oA' (p.L.length + 1) oc') (p.L.length + 1) (flat encOp p.L ++ encOp v))
 (hp : p' = { p with L := p.L ++ [v], oA := oA', oc := oc' }) : PAt (w'.setCell ⟨a, 3, none⟩ (.slice oA' (p.L.length + 1) oc')) B a p' ∧ OnB B w (w'.setCell ⟨a, 3, none⟩ (.slice oA' (p.L.length + 1) oc')) := by
 subst hp
 have hSu : ∀ g, blkA p.oA = some g → ∃ cs, Blk w g 92 cs := fun g hgg => own_blk h.ops.row (by rw [blkA_own]; exact hgg)
 have hb1 : PBlk w' a p.fr p.st := Blk.only h.blk (only_grow hg) (fun hgg => by obtain ⟨cs, hc⟩ := hSu a hgg; exact Blk.ne_ hc h.blk (by decide) rfl)
 have hS : ∀ g, g = a → ∃ cs, Blk w' g 76 cs := fun g hg => by subst hg; exact ⟨_, hb1⟩
 have k2 : Only (· = a) w' (w'.setCell ⟨a, 3, none⟩ (.slice oA' (p.L.length + 1) oc')) := only_cell
 refine ⟨⟨?_, h.base, ?_, ?_, ?_, h.lbB, ?_⟩, ?_⟩
 ·have := hb1.set_ 3 (.slice oA' (p.L.length + 1) oc')
  unfold PBlk Pp.fr at *
  simp only [List.length_append, List.length_singleton]
  exact this
 ·exact (h.ops.app hB hg hv hv2 hv3 ho).type k2 hS (by decide) (by decide)
 ·exact own_type (own_type h.uses (only_grow hg) hSu (by decide)) k2 hS (by decide)
 ·refine (h.lb.only (only_grow hg) (fun hgg => ?_)).only k2 (fun e => ?_)
  ·obtain ⟨cs, hc⟩ := hSu _ hgg; exact h.lb.ne hc rfl
  ·exact h.lb.ne h.blk e.symm
 ·exact own_type (own_type h.ws (only_grow hg) hSu (by decide)) k2 hS (by decide)
 ·exact (OnB.of (only_grow hg) (fun g hgg => own_ge h.ops.row g (by rw [blkA_own]; exact hgg)) hSu rfl).trans (OnB.of k2 (fun g hg => by have := h.base; omega) hS rfl)
/-- a block of ops or of arms turned -/
theorem PAt.turn {S : Nat → Prop} {T : TypeId} {L' : List OpV} (h : PAt w B a p) (k : Only S w w') (hS : ∀ g, S g → B ≤ g ∧ ∃ cs, Blk w g T cs) (hT : T ≠ 76 ∧ T ≠ 135 ∧ T ≠ 128) (hM : MutT T = true) (ho : OpsOwn w' B p.oA p.oc L') (hl : L'.length = p.L.length)
 (hp : p' = { p with L := L' }) : PAt w' B a p' ∧ OnB B w w' := by
 subst hp
 have hS' : ∀ g, S g → ∃ cs, Blk w g T cs := fun g hg => (hS g hg).2
 refine ⟨⟨?_, h.base, ho, own_type h.uses k hS' hT.2.1, h.lb.only k (fun e => ?_), h.lbB, own_type h.ws k hS' hT.2.2⟩, OnB.of k (fun g hg => (hS g hg).1) hS' hM⟩
 ·have := Blk.only h.blk k (fun hs => by obtain ⟨cs, hc⟩ := hS' a hs; exact Blk.ne_ hc h.blk hT.1 rfl)
  unfold PBlk Pp.fr at *
  simp only [hl]
  exact this
 ·obtain ⟨cs, hc⟩ := hS' _ e; exact h.lb.ne hc rfl
/-- a label more -/
theorem PAt.label {x : List UInt8 × Int} (h : PAt w B a p) (k : Only (· = p.mb) w w') (hl : LbAt w' p.mb (p.labels.length + 1) (x :: p.labels)) (hp : p' = { p with labels := x :: p.labels }) : PAt w' B a p' ∧ OnB B w w' := by
 subst hp
 have hf : ∀ {base size n : Nat} {e : TypeId} {v : Value} {xs : List Value}, w.ownsRow base e size v n xs → w'.ownsRow base e size v n xs := fun ho => own_apart2 ho k (fun g hg => h.lb.own_ne ho g hg)
 refine ⟨⟨Blk.only h.blk k (fun e => h.lb.ne h.blk e), h.base, ⟨hf h.ops.row, fun v hv => hf (h.ops.arms v hv), h.ops.apart⟩, hf h.uses, hl, h.lbB, hf h.ws⟩, ⟨k.mono fun g _ hg => by have := h.lbB; have hg' : g = p.mb := hg; show B ≤ g; omega, fun g T cs hb _ => Blk.only hb k (fun e => h.lb.ne hb e)⟩⟩
end
set_option maxRecDepth 100000
def Pp.pl (p : Pp) : PM := ⟨p.name, p.dl, p.jm, p.L.map (·.o), p.labels, p.uses, p.head, p.opn, p.t0, p.t1, p.line, p.ws, p.width, p.st⟩
/-- what a method of the parser did -/
def Did (w w' : World) (B a : Nat) (m : PM) : Prop := (∃ p', PAt w' B a p' ∧ p'.pl = m) ∧ OnB B w w'
/-- sizes -/
structure MSz (m : PM) (n : Nat) : Prop where
 ops : m.ops.length ≤ n
 uses : m.uses.length ≤ n
 labels : m.labels.length ≤ n
 arms : ∀ o ∈ m.ops, o.arms.length ≤ n
 len : m.ws.length ≤ 1000000000
 at_ : ∀ x ∈ m.ws, x.at_ ≤ 1000000000
 txt : ∀ x ∈ m.ws, x.text.length ≤ 1000000000
 lo : 0 ≤ m.width
 hi : m.width ≤ 1000000000
 nx : m.st.nx ≤ 1000000
 small : n ≤ 1000000
theorem MSz.fr {p : Pp} {n : Nat} (h : MSz p.pl n) : FrOk p.fr := ⟨h.len, h.at_, h.txt, h.lo, h.hi⟩
section
variable {w w' : World} {B a : Nat} {p p' : Pp}
theorem Did.mk' (h : PAt w' B a p') (k : OnB B w w') : Did w w' B a p'.pl := ⟨⟨p', h, rfl⟩, k⟩
theorem PAt.st (h : PAt w B a p) (k : Only (· = a) w w') {s : St} (hb : PBlk w' a p.fr s) : PAt w' B a { p with st := s } := h.front (p' := { p with st := s }) k hb
theorem PAt.only (h : PAt w B a p) (k : Only (· = a) w w') : OnB B w w' := OnB.of k (fun g hg => by have := h.base; have hg' : g = a := hg; omega) (fun g hg => by have hg' : g = a := hg; subst hg'; exact ⟨_, h.blk⟩) (T := 76) rfl
/-- a cell of the parser's own stored anew -/
theorem PAt.cell (h : PAt w B a p) (i : Nat) (v : Value) (hb : pvV p'.fr p'.st = (pvV p.fr p.st).setIfInBounds i v) (e1 : p'.L = p.L := by rfl) (e2 : p'.oA = p.oA := by rfl) (e3 : p'.oc = p.oc := by rfl) (e4 : p'.labels = p.labels := by rfl) (e5 : p'.mb = p.mb := by rfl)
 (e6 : p'.uses = p.uses := by rfl) (e7 : p'.uA = p.uA := by rfl) (e8 : p'.uc = p.uc := by rfl) (e9 : p'.ws = p.ws := by rfl) (e10 : p'.wA = p.wA := by rfl) (e11 : p'.wc = p.wc := by rfl) : PAt (w.setCell ⟨a, i, none⟩ v) B a p' ∧ OnB B w (w.setCell ⟨a, i, none⟩ v) :=
 ⟨h.front (p' := p') only_cell (by unfold PBlk; rw [hb]; exact Blk.set_ h.blk i v) e1 e2 e3 e4 e5 e6 e7 e8 e9 e10 e11, h.only only_cell⟩
/-- a cell of an op stored anew, but for its arms -/
theorem PAt.setOp {g i j : Nat} {u : Value} {v : OpV} (h : PAt w B a p) (ho : p.oA = some ⟨g, 0, none⟩) (hi : i < p.L.length) (hj : j < 7) (he : encOp v = (encOp (opAt p.L i)).set j u) (hA : v.A = (opAt p.L i).A) (hs : v.o.arms = (opAt p.L i).o.arms) (hc : v.c = (opAt p.L i).c)
 (hp : p' = { p with L := p.L.set i v }) : PAt (w.setCell ⟨g, i * 7 + j, none⟩ u) B a p' ∧ OnB B w (w.setCell ⟨g, i * 7 + j, none⟩ u) := by
 have hrow := h.ops
 rw [ho] at hrow
 refine h.turn (S := (· = g)) (T := 92) only_cell (fun k hk => ?_) ⟨by decide, by decide, by decide⟩ rfl (L' := p.L.set i v) ?_ (List.length_set) hp
 ·subst hk
  exact ⟨own_ge hrow.row k rfl, own_blk hrow.row rfl⟩
 ·rw [ho]
  exact hrow.setOp hi hj he hA hs hc
theorem PAt.armApp {g i : Nat} {A' : Option Addr} {c' : Nat} {v : OpV} {x : ArmM} (h : PAt w B a p) (ho : p.oA = some ⟨g, 0, none⟩) (hi : i < p.L.length) (hg : w.grownBy w' (blkA (opAt p.L i).A))
 (hw : w'.ownsRow B 94 2 (.slice A' ((opAt p.L i).o.arms.length + 1) c') ((opAt p.L i).o.arms.length + 1) (flat encArm (opAt p.L i).o.arms ++ encArm x)) (hn : blkA A' = blkA (opAt p.L i).A ∨ blkA A' = some w.heap.size)
 (hA : v.A = A') (hs : v.o.arms = (opAt p.L i).o.arms ++ [x]) (hc : v.c = c') (he : encOp v = (encOp (opAt p.L i)).set 4 (.slice A' ((opAt p.L i).o.arms.length + 1) c')) (hp : p' = { p with L := p.L.set i v }) :
 PAt (w'.setCell ⟨g, i * 7 + 4, none⟩ (.slice A' ((opAt p.L i).o.arms.length + 1) c')) B a p' ∧ OnB B w (w'.setCell ⟨g, i * 7 + 4, none⟩ (.slice A' ((opAt p.L i).o.arms.length + 1) c')) := by
 have hrow := h.ops
 rw [ho] at hrow
 have harm := h.ops.arms _ (opAt_mem hi)
 have hS1 : ∀ k, blkA (opAt p.L i).A = some k → B ≤ k ∧ ∃ cs, Blk w k 94 cs := fun k hk => by
  have hk' : (armsV (opAt p.L i)).ownBlock = some k := by unfold armsV; rw [blkA_own]; exact hk
  exact ⟨own_ge harm k hk', own_blk harm hk'⟩
 have hfin := hrow.armApp hi hg hw hn hA hs hc he
 subst hp
 have k1 := only_grow hg
 have hT1 : ∀ k, blkA (opAt p.L i).A = some k → ∃ cs, Blk w k 94 cs := fun k hk => (hS1 k hk).2
 have hb1 : PBlk w' a p.fr p.st := Blk.only h.blk k1 (fun hgg => by obtain ⟨cs, hc⟩ := hT1 a hgg; exact Blk.ne_ hc h.blk (by decide) rfl)
 have hbk : ∃ cs, Blk w' g 92 cs := own_blk (own_type (T := 94) hrow.row k1 hT1 (by decide)) rfl
 have hT2 : ∀ k, k = g → ∃ cs, Blk w' k 92 cs := fun k hk => by subst hk; exact hbk
 have k2 : Only (· = g) w' (w'.setCell ⟨g, i * 7 + 4, none⟩ (.slice A' ((opAt p.L i).o.arms.length + 1) c')) := only_cell
 have hlb1 := h.lb.only k1 (fun hgg => by obtain ⟨cs, hc⟩ := hT1 _ hgg; exact h.lb.ne hc rfl)
 refine ⟨⟨?_, h.base, by show OpsOwn _ B p.oA p.oc _; rw [ho]; exact hfin, own_type (T := 92) (own_type (T := 94) h.uses k1 hT1 (by decide)) k2 hT2 (by decide), hlb1.only k2 (fun e => ?_), h.lbB, own_type (T := 92) (own_type (T := 94) h.ws k1 hT1 (by decide)) k2 hT2 (by decide)⟩, ?_⟩
 ·have := Blk.only hb1 k2 (fun e => by obtain ⟨cs, hc⟩ := hT2 a e; exact Blk.ne_ hc hb1 (by decide) rfl)
  unfold PBlk Pp.fr at *
  simp only [List.length_set]
  exact this
 ·obtain ⟨cs, hc⟩ := hT2 _ e
  exact hlb1.ne hc rfl
 ·exact (OnB.of k1 (fun k hk => (hS1 k hk).1) hT1 rfl).trans (OnB.of k2 (fun k hk => by have hk' : k = g := hk; subst hk'; exact own_ge hrow.row k rfl) hT2 rfl)
theorem PAt.armSet {g i k : Nat} {v : OpV} {t : Int} (h : PAt w B a p) (hi : i < p.L.length) (hA : (opAt p.L i).A = some ⟨g, 0, none⟩) (hk : k < (opAt p.L i).o.arms.length)
 (hv : v.A = (opAt p.L i).A) (hc : v.c = (opAt p.L i).c) (hs : v.o.arms = (opAt p.L i).o.arms.set k ⟨(armAt (opAt p.L i).o.arms k).pat, t⟩) (he : encOp v = encOp (opAt p.L i)) (hp : p' = { p with L := p.L.set i v }) :
 PAt (w.setCell ⟨g, k * 2 + 1, none⟩ (.int .i64 t)) B a p' ∧ OnB B w (w.setCell ⟨g, k * 2 + 1, none⟩ (.int .i64 t)) := by
 have harm := h.ops.arms _ (opAt_mem hi)
 refine h.turn (S := (· = g)) (T := 94) only_cell (fun k hk => ?_) ⟨by decide, by decide, by decide⟩ rfl (L' := p.L.set i v) (h.ops.armSet hi hA hk hv hc hs he) (List.length_set) hp
 have hk' : k = g := hk
 subst hk'
 have hob : (armsV (opAt p.L i)).ownBlock = some k := by unfold armsV; rw [blkA_own, hA]; rfl
 exact ⟨own_ge harm k hob, own_blk harm hob⟩
end
end Go.Proofs.YtaioaojfdngfdaaGreatDoor
