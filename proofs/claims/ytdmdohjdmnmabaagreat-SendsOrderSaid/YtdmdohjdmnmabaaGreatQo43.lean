/- Parts of a chain of lemmas: GraceD, Sd1. Conditions: those of each theorem. -/
import Derived.Test.YtdmdohjdmnmabaaGreatQo32
import Derived.Test.YtdmdohjdmnmabaaGreatQo22
import Derived.Test.YtdmdohjdmnmabaaGreatQo18
import Derived.Test.YtdmdohjdmnmabaaGreatQo25
import Derived.Test.YtdmdohjdmnmabaaGreatQo06
import Derived.Test.YtdmdohjdmnmabaaGreatQo04
import Derived.Deep.RegionWith
import Derived.Deep.RegionHeld3
import Derived.BigRegion
namespace Go.Proofs.YtdmdohjdmnmabaaGreat
open Go.RowKit
set_option linter.unusedVariables false

def stpAt (l : List Stp) (k : Nat) : Stp := l.getD k st0
/-- not over ahead of a tick -/
def lateB (b : Int) (f : LifeM) : Bool := decide (f.status = 0) || decide (f.steps.length = 0) || decide (b ≤ (stpAt f.steps (f.steps.length - 1)).tick)
def lateL (b : Int) (l : List Ev) (ids : List Int) : List Int := ids.filter fun id => lateB b (lifeO (lifeGo id 0 l))
def lateS (s : SetM) (l : List Ev) (each : Int) : List Int := if boundB s l each = true then lateL (boundT s l each) l (idsL (l.take (idxK 7 l).toNat)) else []
theorem late_succ (b : Int) (l : List Ev) (L : List Int) (k : Nat) (h : k < L.length) : lateL b l (L.take (k + 1)) = lateL b l (L.take k) ++ (if lateB b (lifeO (lifeGo (nth L k) 0 l)) = true then [nth L k] else []) := by
  have e : nth L k = L[k] := nth_of_lt h
  unfold lateL
  rw [List.take_succ_eq_append_getElem h, List.filter_append, e]
  by_cases hp : lateB b (lifeO (lifeGo L[k] 0 l)) = true <;> simp [hp]
theorem late_len (b : Int) (l : List Ev) (L : List Int) : (lateL b l L).length ≤ L.length := List.length_filter_le _ _
theorem stp_last {w : World} {M : Nat → Prop} {A : Option Addr} {L : List Stp} (hr : Rd w M A (flat encStp L)) (m : Nat) (hm : m = L.length) (hp : m ≠ 0) : ∃ b o, A = some ⟨b, o, none⟩ ∧ b < w.heap.size ∧ w.cell? ⟨b, o + (m - 1) * 6, none⟩ = some (.int .i64 (stpAt L (m - 1)).tick) := by
  subst hm
  have e : L[L.length - 1]? = some (stpAt L (L.length - 1)) := by
    simp [stpAt, List.getD, show L.length - 1 < L.length by omega]
  obtain ⟨b, o, hA, _, hb, hc⟩ := flat_cells encStp_len hr (L.length - 1) _ e (by omega)
  exact ⟨b, o, hA, hb, hc 0 (by omega)⟩
theorem rd_subL {w : World} {b o : Nat} {l : List Ev} (h : Rd w NoBlk (some ⟨b, o, none⟩) (flat encEv l)) (at_ m : Nat) (hm : at_ + m ≤ l.length) (hp : 0 < m) : Rd w NoBlk (some ⟨b, o + at_ * 12, none⟩) (flat encEv ((l.drop at_).take m)) := by
  have hl := flat_len encEv 12 encEv_len l
  rcases h with h | ⟨b', o', hA, hmm, hb, hc⟩
  · rw [h] at hl; simp at hl; omega
  · injection hA with hA
    injection hA with h1 h2 _
    subst h1; subst h2
    have hl2 := flat_len encEv 12 encEv_len ((l.drop at_).take m)
    have hlm : ((l.drop at_).take m).length = m := by rw [List.length_take, List.length_drop]; omega
    refine Or.inr ⟨b, o + at_ * 12, rfl, hmm, hb, fun j hj => ?_⟩
    rw [hl2, hlm] at hj
    have hlt : at_ * 12 + j < (flat encEv l).length := by rw [hl]; omega
    have h3 := hc (at_ * 12 + j) hlt
    rw [← Nat.add_assoc] at h3
    rw [h3]
    have hq : j = j / 12 * 12 + j % 12 := by omega
    have hd : j / 12 < m := by omega
    have e1 : l[at_ + j / 12]? = some (evAt l (at_ + j / 12)) := evAt_some (by omega)
    have e2 : ((l.drop at_).take m)[j / 12]? = some (evAt l (at_ + j / 12)) := by rw [List.getElem?_take, if_pos hd, List.getElem?_drop]; exact e1
    have f1 := flat_at encEv 12 encEv_len l (at_ + j / 12) (j % 12) _ e1 (by omega)
    have f2 := flat_at encEv 12 encEv_len ((l.drop at_).take m) (j / 12) (j % 12) _ e2 (by omega)
    have g1 : (at_ + j / 12) * 12 + j % 12 = at_ * 12 + j := by omega
    rw [g1] at f1
    rw [← hq] at f2
    rw [f1, f2]
theorem rd_pre {w : World} {A : Option Addr} {l : List Ev} (h : Rd w NoBlk A (flat encEv l)) (m : Nat) (hm : m ≤ l.length) : Rd w NoBlk A (flat encEv (l.take m)) := by
  by_cases hp : 0 < m
  · obtain ⟨b, o, hA, _⟩ := h.at_ (j := 0) (by rw [flat_len encEv 12 encEv_len]; omega)
    subst hA
    have := rd_subL h 0 m (by omega) hp
    simpa using this
  · have : m = 0 := by omega
    subst this
    exact Rd.nil
theorem rd_not {w : World} {g : Nat} {t : TypeId} {A : Option Addr} {xs : List Value} (hb : Blk w g t #[]) (h : Rd w NoBlk A xs) : Rd w (· = g) A xs := by
  rcases h with h | ⟨b, o, hA, hm, hlt, hc⟩
  · exact Or.inl h
  · by_cases hx : xs.length = 0
    · exact Or.inl (List.eq_nil_of_length_eq_zero hx)
    · refine Or.inr ⟨b, o, hA, fun e => ?_, hlt, hc⟩
      subst e
      have h0 := hc 0 (by omega)
      rw [hb.cell, List.getElem?_eq_getElem (by omega)] at h0
      simp at h0
theorem nn_lt {k n : Nat} (h : k < n) : decide ((k : Int) < (n : Int)) = true := by simp; exact h
end Go.Proofs.YtdmdohjdmnmabaaGreat
namespace Go.Proofs.YtdmdohjdmnmabaaGreat
open Go.RowKit
set_option linter.unusedVariables false

end Go.Proofs.YtdmdohjdmnmabaaGreat
namespace Go.Proofs.YtdmdohjdmnmabaaGreat
open Go.RowKit
set_option linter.unusedVariables false

def anyR (l : List Ev) : Bool := l.any (isK 1)
/-- at this place it stopped in time -/
def stopAt (b : Int) (l : List Ev) (i : Nat) : Bool := decide ((evAt l i).k = 9) && (anyR (l.take i) && decide (clockOf 0 (l.take i) < b))
def stopsB (b : Int) (l : List Ev) : Bool := (List.range l.length).any (stopAt b l)
def stopsS (s : SetM) (l : List Ev) (each : Int) : Bool := if boundB s l each = true then stopsB (boundT s l each) l else true
theorem any_succ (l : List Ev) (k : Nat) (h : k < l.length) : anyR (l.take (k + 1)) = (anyR (l.take k) || decide ((evAt l k).k = 1)) := by
  have e : evAt l k = l[k] := by simp [evAt, List.getD, h]
  unfold anyR
  rw [List.take_succ_eq_append_getElem h, List.any_append, e]
  simp [isK]
theorem stops_yes {b : Int} {l : List Ev} (k : Nat) (hk : k < l.length) (h : stopAt b l k = true) : stopsB b l = true := by
  unfold stopsB
  rw [List.any_eq_true]
  exact ⟨k, List.mem_range.2 hk, h⟩
theorem stops_no {b : Int} {l : List Ev} (h : ∀ i, i < l.length → stopAt b l i = false) : stopsB b l = false := by
  unfold stopsB
  rw [List.any_eq_false]
  intro i hi
  rw [h i (List.mem_range.1 hi)]
  decide
theorem low_succ {p : Nat → Bool} {k : Nat} (h : ∀ i, i < k → p i = false) (hk : p k = false) : ∀ i, i < k + 1 → p i = false := by
  intro i hi
  by_cases e : i = k
  · subst e; exact hk
  · exact h i (by omega)
end Go.Proofs.YtdmdohjdmnmabaaGreat
namespace Go.Proofs.YtdmdohjdmnmabaaGreat
open Go.RowKit
set_option linter.unusedVariables false
set_option linter.unusedSimpArgs false

/-- what stays: the script's value, who -/
structure SwP where
  s : ByteArray
  d : Int
  j : Int
  PA : Option Addr
  n : Nat
  pc : Nat
  id : Int
def swV (q : SwP) (f : SwM) (vo : Value) : Array Value := #[.string q.s, .int .i64 q.d, .int .i64 q.j, .slice q.PA q.n q.pc, .int .i64 q.id, .int .i64 f.round, .bool f.begun, .bool f.open_, .int .i64 f.x.id, .int .i64 f.x.op, .int .i64 f.x.long, .int .i64 f.x.from_, .int .i64 f.x.taken, .bool f.x.done, .int .i64 f.x.at_, vo]
structure SwMid (w : World) (base g : Nat) (q : SwP) (f : SwM) (vo : Value) : Prop where
  blk : Blk w g 159 (swV q f vo)
  oo : w.ownsRow base 109 7 vo f.out.length (flat encSd f.out)
  hg : base ≤ g
def SwAt (w : World) (base g : Nat) (q : SwP) (f : SwM) : Prop := ∃ vo, SwMid w base g q f vo
theorem Blk.sixteen {w : World} {g : Nat} {t : TypeId} {a0 a1 a2 a3 a4 a5 a6 a7 a8 a9 a10 a11 a12 a13 a14 a15 : Value} (h : Blk w g t #[a0, a1, a2, a3, a4, a5, a6, a7, a8, a9, a10, a11, a12, a13, a14, a15]) :
    w.cell? ⟨g, 0, none⟩ = some a0 ∧ w.cell? ⟨g, 1, none⟩ = some a1 ∧ w.cell? ⟨g, 2, none⟩ = some a2 ∧ w.cell? ⟨g, 3, none⟩ = some a3 ∧ w.cell? ⟨g, 4, none⟩ = some a4 ∧ w.cell? ⟨g, 5, none⟩ = some a5 ∧ w.cell? ⟨g, 6, none⟩ = some a6 ∧ w.cell? ⟨g, 7, none⟩ = some a7 ∧
    w.cell? ⟨g, 8, none⟩ = some a8 ∧ w.cell? ⟨g, 9, none⟩ = some a9 ∧ w.cell? ⟨g, 10, none⟩ = some a10 ∧ w.cell? ⟨g, 11, none⟩ = some a11 ∧ w.cell? ⟨g, 12, none⟩ = some a12 ∧ w.cell? ⟨g, 13, none⟩ = some a13 ∧ w.cell? ⟨g, 14, none⟩ = some a14 ∧ w.cell? ⟨g, 15, none⟩ = some a15 := by
  refine ⟨?_, ?_, ?_, ?_, ?_, ?_, ?_, ?_, ?_, ?_, ?_, ?_, ?_, ?_, ?_, ?_⟩ <;> (rw [h.cell]; rfl)
section
variable {w w' : World} {base g : Nat} {q : SwP} {f f' : SwM} {vo : Value}
theorem SwMid.lt (h : SwMid w base g q f vo) : g < w.heap.size := h.blk.lt
theorem SwMid.bs (h : SwMid w base g q f vo) : base ≤ w.heap.size := by have := h.lt; have := h.hg; omega
theorem SwMid.same (h : SwMid w base g q f vo) (k : Only NoBlk w w') : SwMid w' base g q f vo :=
  ⟨h.blk.only k (fun h => h), own_only h.oo k (fun _ _ h => h.elim), h.hg⟩
theorem SwMid.alloc (h : SwMid w base g q f vo) (o : Obj) : SwMid (w.alloc o) base g q f vo := h.same ((Only.refl _ w).alloc o)
theorem SwMid.drew (h : SwMid w base g q f vo) : SwMid w.drew base g q f vo := h.same (Only.refl _ w).drew
theorem SwMid.drewN (h : SwMid w base g q f vo) (n : Nat) : SwMid (w.drewN n) base g q f vo := h.same ((Only.refl _ w).drewN n)
/-- fields of it alone changed -/
theorem SwMid.putF (h : SwMid w base g q f vo) (i : Nat) (vs : List Value) (he : setFrom (swV q f vo) i vs = swV q f' vo) (eo : f'.out = f.out) : SwMid (putFrom w g i vs) base g q f' vo := by
  have nt : ∀ (t : TypeId), t ≠ 159 → ∀ g' cs, g' = g → ¬ Blk w g' t cs := by
    intro t ht g' cs hg hx
    subst hg
    exact Blk.ne_ hx h.blk ht rfl
  refine ⟨by rw [← he]; exact h.blk.putFrom_ vs i, ?_, h.hg⟩
  rw [eo]; exact own_only h.oo (only_put vs i w g) (nt _ (by decide))
theorem SwMid.set (h : SwMid w base g q f vo) (i : Nat) (v : Value) (he : (swV q f vo).setIfInBounds i v = swV q f' vo) (eo : f'.out = f.out) : SwMid (w.setCell ⟨g, i, none⟩ v) base g q f' vo := h.putF i [v] he eo
/-- a send more is noted -/
theorem SwMid.grow {v' : Value} {x : SdM} {n : Nat} (h : SwMid w base g q f vo) (hg : w.grownBy w' vo.ownBlock) (ho : w'.ownsRow base 109 7 v' n (flat encSd f.out ++ encSd x)) (hn : n = f.out.length + 1) : SwMid (w'.setCell ⟨g, 15, none⟩ v') base g q { f with out := f.out ++ [x] } v' := by
  have hb : Blk w' g 159 (swV q f vo) := Blk.grown h.blk h.oo (by decide) hg
  have k := (Only.refl (· = g) w').setCell (p := ⟨g, 15, none⟩) (Or.inl rfl) v'
  have nt : ∀ (t : TypeId), t ≠ 159 → ∀ g' cs, g' = g → ¬ Blk w' g' t cs := by
    intro t ht g' cs hg hx
    subst hg
    exact Blk.ne_ hx hb ht rfl
  refine ⟨hb.set_ 15 v', own_only ?_ k (nt _ (by decide)), h.hg⟩
  subst hn
  have e : flat encSd (f.out ++ [x]) = flat encSd f.out ++ encSd x := by simp [flat]
  simpa [e] using ho
theorem SwMid.growB {x : SdM} (h : SwMid w base g q f vo) (hg : w.grownBy w' vo.ownBlock) : Blk w' g 159 (swV q f vo) := Blk.grown h.blk h.oo (by decide) hg
end
/-- blocks of other types stay -/
def SwKp (w w' : World) : Prop := ∀ b t cs, t ≠ 159 → t ≠ 109 → Blk w b t cs → Blk w' b t cs
section
variable {a b c w w' : World} {base g : Nat} {q : SwP} {f : SwM} {vo : Value}
theorem SwKp.refl (w : World) : SwKp w w := fun _ _ _ _ _ h => h
theorem SwKp.trans (h : SwKp a b) (k : SwKp b c) : SwKp a c := fun i t cs h1 h2 hb => k i t cs h1 h2 (h i t cs h1 h2 hb)
theorem SwKp.only (h : Only NoBlk w w') : SwKp w w' := fun _ _ _ _ _ hb => hb.only h (fun h => h)
theorem SwKp.alloc (h : SwKp a b) (o : Obj) : SwKp a (b.alloc o) := fun i t cs h1 h2 hb => (h i t cs h1 h2 hb).alloc o
theorem SwKp.drew (h : SwKp a b) : SwKp a b.drew := h
theorem SwMid.kput (h : SwMid w base g q f vo) (i : Nat) (vs : List Value) : SwKp w (putFrom w g i vs) := fun b t cs h1 h2 hb => hb.only (only_put vs i w g) (fun hg => Blk.ne_ hb h.blk h1 hg)
theorem SwMid.kset (h : SwMid w base g q f vo) (i : Nat) (v : Value) : SwKp w (w.setCell ⟨g, i, none⟩ v) := h.kput i [v]
theorem SwMid.kgrow (h : SwMid w base g q f vo) (hg : w.grownBy w' vo.ownBlock) : SwKp w w' := fun b t cs h1 h2 hb => Blk.grown hb h.oo h2 hg
end
theorem Tryz.infoSd : (Tryz.prog.info? 109).map (fun i => (i.zero, i.size, i.bytes)) = some (some (.agg #[.int .i64 0, .int .i64 0, .int .i64 0, .int .i64 0, .int .i64 0, .bool false, .int .i64 0]), 7, 56) := by kernel_rfl
/-- how great it can be -/
structure SwSm (f : SwM) (k : Nat) : Prop where
  r0 : -1 ≤ f.round
  r1 : f.round ≤ k
  t0 : 0 ≤ f.x.taken
  t1 : f.x.taken ≤ 1000000000
  o : f.out.length ≤ k
theorem rich_bd {t n : Int} (h : 0 ≤ t) : 0 ≤ richD t n ∧ richD t n ≤ 1000000000 := by unfold richD; omega
theorem doneX_t (now : Int) (x : SdM) : (doneX now x).taken = x.taken := by unfold doneX; split <;> rfl
theorem writeX_t (now n : Int) (x : SdM) : (writeX now n x).taken = richD x.taken n := by unfold writeX; split; rw [doneX_t]; rfl; rfl
theorem sm_come {p : ProgM} {id op : Int} {f : SwM} {k : Nat} (h : SwSm f k) : SwSm (comeS p id op f) k := by
  unfold comeS
  split
  · exact ⟨h.r0, h.r1, by simp [sendN], by simp [sendN], h.o⟩
  · exact h
theorem sm_up {f : SwM} {k m : Nat} (h : SwSm f k) (hk : k ≤ m) : SwSm f m := ⟨h.r0, by have := h.r1; omega, h.t0, h.t1, by have := h.o; omega⟩
theorem sm_close {f : SwM} {k : Nat} (h : SwSm f k) : SwSm (closeS f) (k + 1) := by
  refine ⟨h.r0, by have := h.r1; unfold closeS; simp only; omega, h.t0, h.t1, ?_⟩
  have := h.o
  unfold closeS
  simp only
  split
  · simp; omega
  · omega
theorem sm_done {f : SwM} {k : Nat} (h : SwSm f k) : SwSm (doneS f) k := ⟨h.r0, h.r1, by unfold doneS; simp only [doneX_t]; exact h.t0, by unfold doneS; simp only [doneX_t]; exact h.t1, h.o⟩
theorem sm_seeS {p : ProgM} {id : Int} {f : SwM} {x : Ev} {k : Nat} (h : SwSm f k) : SwSm (seeS p id f x) (k + 1) := by
  have hu := sm_up h (show k ≤ k + 1 by omega)
  unfold seeS
  split
  · exact ⟨by have := h.r0; simp only; omega, by have := h.r1; simp only; omega, h.t0, h.t1, hu.o⟩
  · split
    · exact hu
    · split
      · exact sm_come (f := { f with begun := true }) ⟨hu.r0, hu.r1, hu.t0, hu.t1, hu.o⟩
      · split
        · unfold writeS
          split
          · have := rich_bd (n := x.n) h.t0
            exact ⟨hu.r0, hu.r1, by simp only [writeX_t]; exact this.1, by simp only [writeX_t]; exact this.2, hu.o⟩
          · exact hu
        · split
          · unfold stepS
            split
            · exact hu
            · refine sm_come (sm_close ?_)
              split
              · exact sm_done h
              · exact h
          · exact hu
theorem sm_seenS (p : ProgM) (id : Int) (l : List Ev) : ∀ k, k ≤ l.length → SwSm (seenS p id (l.take k)) k := by
  intro k
  induction k with
  | zero => intro _; exact ⟨by simp [seenS, sw0], by simp [seenS, sw0], by simp [seenS, sw0, sd0], by simp [seenS, sw0, sd0], by simp [seenS, sw0]⟩
  | succ k ih =>
    intro hk
    rw [seenS_succ p id l k (by omega)]
    exact sm_seeS (ih (by omega))
end Go.Proofs.YtdmdohjdmnmabaaGreat
