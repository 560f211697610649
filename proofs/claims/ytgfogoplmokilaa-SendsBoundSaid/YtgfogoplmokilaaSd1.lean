/- The walk through events that notes one's sends: what it is in memory. Conditions: those of each theorem. -/
import Derived.Test.YtgfogoplmokilaaSdP
import Derived.Test.YtgfogoplmokilaaCls2
import Derived.Test.YtgfogoplmokilaaAdd
import Derived.Deep.RegionWith
import Derived.Deep.RegionHeld3
import Derived.BigRegion
namespace Go.Proofs.Ytgfogoplmokilaa
open Go.RowKit
set_option linter.unusedVariables false
set_option linter.unusedSimpArgs false

/-- what stays: the script's value, who -/
structure SwP where
  s : ByteArray
  d : Int
  j : Int
  PA : Option Addr
  n : Nat
  pc : Nat
  id : Int
def swV (q : SwP) (f : SwM) (vo : Value) : Array Value := #[.string q.s, .int .i64 q.d, .int .i64 q.j, .slice q.PA q.n q.pc, .int .i64 q.id, .int .i64 f.round, .bool f.begun, .bool f.open_, .int .i64 f.x.id, .int .i64 f.x.op, .int .i64 f.x.long, .int .i64 f.x.from_, .int .i64 f.x.taken, .bool f.x.done, .int .i64 f.x.at_, vo]
structure SwMid (w : World) (base g : Nat) (q : SwP) (f : SwM) (vo : Value) : Prop where
  blk : Blk w g 147 (swV q f vo)
  oo : w.ownsRow base 66 7 vo f.out.length (flat encSd f.out)
  hg : base ≤ g
def SwAt (w : World) (base g : Nat) (q : SwP) (f : SwM) : Prop := ∃ vo, SwMid w base g q f vo
theorem Blk.sixteen {w : World} {g : Nat} {t : TypeId} {a0 a1 a2 a3 a4 a5 a6 a7 a8 a9 a10 a11 a12 a13 a14 a15 : Value} (h : Blk w g t #[a0, a1, a2, a3, a4, a5, a6, a7, a8, a9, a10, a11, a12, a13, a14, a15]) :
    w.cell? ⟨g, 0, none⟩ = some a0 ∧ w.cell? ⟨g, 1, none⟩ = some a1 ∧ w.cell? ⟨g, 2, none⟩ = some a2 ∧ w.cell? ⟨g, 3, none⟩ = some a3 ∧ w.cell? ⟨g, 4, none⟩ = some a4 ∧ w.cell? ⟨g, 5, none⟩ = some a5 ∧ w.cell? ⟨g, 6, none⟩ = some a6 ∧ w.cell? ⟨g, 7, none⟩ = some a7 ∧
    w.cell? ⟨g, 8, none⟩ = some a8 ∧ w.cell? ⟨g, 9, none⟩ = some a9 ∧ w.cell? ⟨g, 10, none⟩ = some a10 ∧ w.cell? ⟨g, 11, none⟩ = some a11 ∧ w.cell? ⟨g, 12, none⟩ = some a12 ∧ w.cell? ⟨g, 13, none⟩ = some a13 ∧ w.cell? ⟨g, 14, none⟩ = some a14 ∧ w.cell? ⟨g, 15, none⟩ = some a15 := by
  refine ⟨?_, ?_, ?_, ?_, ?_, ?_, ?_, ?_, ?_, ?_, ?_, ?_, ?_, ?_, ?_, ?_⟩ <;> (rw [h.cell]; rfl)
section
variable {w w' : World} {base g : Nat} {q : SwP} {f f' : SwM} {vo : Value}
theorem SwMid.lt (h : SwMid w base g q f vo) : g < w.heap.size := h.blk.lt
theorem SwMid.bs (h : SwMid w base g q f vo) : base ≤ w.heap.size := by have := h.lt; have := h.hg; omega
theorem SwMid.same (h : SwMid w base g q f vo) (k : Only NoBlk w w') : SwMid w' base g q f vo :=
  ⟨h.blk.only k (fun h => h), own_only h.oo k (fun _ _ h => h.elim), h.hg⟩
theorem SwMid.alloc (h : SwMid w base g q f vo) (o : Obj) : SwMid (w.alloc o) base g q f vo := h.same ((Only.refl _ w).alloc o)
theorem SwMid.drew (h : SwMid w base g q f vo) : SwMid w.drew base g q f vo := h.same (Only.refl _ w).drew
theorem SwMid.drewN (h : SwMid w base g q f vo) (n : Nat) : SwMid (w.drewN n) base g q f vo := h.same ((Only.refl _ w).drewN n)
/-- fields of it alone changed -/
theorem SwMid.putF (h : SwMid w base g q f vo) (i : Nat) (vs : List Value) (he : setFrom (swV q f vo) i vs = swV q f' vo) (eo : f'.out = f.out) : SwMid (putFrom w g i vs) base g q f' vo := by
  have nt : ∀ (t : TypeId), t ≠ 147 → ∀ g' cs, g' = g → ¬ Blk w g' t cs := by
    intro t ht g' cs hg hx
    subst hg
    exact Blk.ne_ hx h.blk ht rfl
  refine ⟨by rw [← he]; exact h.blk.putFrom_ vs i, ?_, h.hg⟩
  rw [eo]; exact own_only h.oo (only_put vs i w g) (nt _ (by decide))
theorem SwMid.set (h : SwMid w base g q f vo) (i : Nat) (v : Value) (he : (swV q f vo).setIfInBounds i v = swV q f' vo) (eo : f'.out = f.out) : SwMid (w.setCell ⟨g, i, none⟩ v) base g q f' vo := h.putF i [v] he eo
/-- a send more is noted -/
theorem SwMid.grow {v' : Value} {x : SdM} {n : Nat} (h : SwMid w base g q f vo) (hg : w.grownBy w' vo.ownBlock) (ho : w'.ownsRow base 66 7 v' n (flat encSd f.out ++ encSd x)) (hn : n = f.out.length + 1) : SwMid (w'.setCell ⟨g, 15, none⟩ v') base g q { f with out := f.out ++ [x] } v' := by
  have hb : Blk w' g 147 (swV q f vo) := Blk.grown h.blk h.oo (by decide) hg
  have k := (Only.refl (· = g) w').setCell (p := ⟨g, 15, none⟩) (Or.inl rfl) v'
  have nt : ∀ (t : TypeId), t ≠ 147 → ∀ g' cs, g' = g → ¬ Blk w' g' t cs := by
    intro t ht g' cs hg hx
    subst hg
    exact Blk.ne_ hx hb ht rfl
  refine ⟨hb.set_ 15 v', own_only ?_ k (nt _ (by decide)), h.hg⟩
  subst hn
  have e : flat encSd (f.out ++ [x]) = flat encSd f.out ++ encSd x := by simp [flat]
  simpa [e] using ho
theorem SwMid.growB {x : SdM} (h : SwMid w base g q f vo) (hg : w.grownBy w' vo.ownBlock) : Blk w' g 147 (swV q f vo) := Blk.grown h.blk h.oo (by decide) hg
end
/-- blocks of other types stay -/
def SwKp (w w' : World) : Prop := ∀ b t cs, t ≠ 147 → t ≠ 66 → Blk w b t cs → Blk w' b t cs
section
variable {a b c w w' : World} {base g : Nat} {q : SwP} {f : SwM} {vo : Value}
theorem SwKp.refl (w : World) : SwKp w w := fun _ _ _ _ _ h => h
theorem SwKp.trans (h : SwKp a b) (k : SwKp b c) : SwKp a c := fun i t cs h1 h2 hb => k i t cs h1 h2 (h i t cs h1 h2 hb)
theorem SwKp.only (h : Only NoBlk w w') : SwKp w w' := fun _ _ _ _ _ hb => hb.only h (fun h => h)
theorem SwKp.alloc (h : SwKp a b) (o : Obj) : SwKp a (b.alloc o) := fun i t cs h1 h2 hb => (h i t cs h1 h2 hb).alloc o
theorem SwKp.drew (h : SwKp a b) : SwKp a b.drew := h
theorem SwMid.kput (h : SwMid w base g q f vo) (i : Nat) (vs : List Value) : SwKp w (putFrom w g i vs) := fun b t cs h1 h2 hb => hb.only (only_put vs i w g) (fun hg => Blk.ne_ hb h.blk h1 hg)
theorem SwMid.kset (h : SwMid w base g q f vo) (i : Nat) (v : Value) : SwKp w (w.setCell ⟨g, i, none⟩ v) := h.kput i [v]
theorem SwMid.kgrow (h : SwMid w base g q f vo) (hg : w.grownBy w' vo.ownBlock) : SwKp w w' := fun b t cs h1 h2 hb => Blk.grown hb h.oo h2 hg
end
theorem Try.infoSd : (Try.prog.info? 66).map (fun i => (i.zero, i.size, i.bytes)) = some (some (.agg #[.int .i64 0, .int .i64 0, .int .i64 0, .int .i64 0, .int .i64 0, .bool false, .int .i64 0]), 7, 56) := by kernel_rfl
/-- how great it can be -/
structure SwSm (f : SwM) (k : Nat) : Prop where
  r0 : -1 ≤ f.round
  r1 : f.round ≤ k
  t0 : 0 ≤ f.x.taken
  t1 : f.x.taken ≤ 1000000000
  o : f.out.length ≤ k
theorem rich_bd {t n : Int} (h : 0 ≤ t) : 0 ≤ richD t n ∧ richD t n ≤ 1000000000 := by unfold richD; omega
theorem doneX_t (now : Int) (x : SdM) : (doneX now x).taken = x.taken := by unfold doneX; split <;> rfl
theorem writeX_t (now n : Int) (x : SdM) : (writeX now n x).taken = richD x.taken n := by unfold writeX; split; rw [doneX_t]; rfl; rfl
theorem sm_come {p : ProgM} {id op : Int} {f : SwM} {k : Nat} (h : SwSm f k) : SwSm (comeS p id op f) k := by
  unfold comeS
  split
  · exact ⟨h.r0, h.r1, by simp [sendN], by simp [sendN], h.o⟩
  · exact h
theorem sm_up {f : SwM} {k m : Nat} (h : SwSm f k) (hk : k ≤ m) : SwSm f m := ⟨h.r0, by have := h.r1; omega, h.t0, h.t1, by have := h.o; omega⟩
theorem sm_close {f : SwM} {k : Nat} (h : SwSm f k) : SwSm (closeS f) (k + 1) := by
  refine ⟨h.r0, by have := h.r1; unfold closeS; simp only; omega, h.t0, h.t1, ?_⟩
  have := h.o
  unfold closeS
  simp only
  split
  · simp; omega
  · omega
theorem sm_done {f : SwM} {k : Nat} (h : SwSm f k) : SwSm (doneS f) k := ⟨h.r0, h.r1, by unfold doneS; simp only [doneX_t]; exact h.t0, by unfold doneS; simp only [doneX_t]; exact h.t1, h.o⟩
theorem sm_seeS {p : ProgM} {id : Int} {f : SwM} {x : Ev} {k : Nat} (h : SwSm f k) : SwSm (seeS p id f x) (k + 1) := by
  have hu := sm_up h (show k ≤ k + 1 by omega)
  unfold seeS
  split
  · exact ⟨by have := h.r0; simp only; omega, by have := h.r1; simp only; omega, h.t0, h.t1, hu.o⟩
  · split
    · exact hu
    · split
      · exact sm_come (f := { f with begun := true }) ⟨hu.r0, hu.r1, hu.t0, hu.t1, hu.o⟩
      · split
        · unfold writeS
          split
          · have := rich_bd (n := x.n) h.t0
            exact ⟨hu.r0, hu.r1, by simp only [writeX_t]; exact this.1, by simp only [writeX_t]; exact this.2, hu.o⟩
          · exact hu
        · split
          · unfold stepS
            split
            · exact hu
            · refine sm_come (sm_close ?_)
              split
              · exact sm_done h
              · exact h
          · exact hu
theorem sm_seenS (p : ProgM) (id : Int) (l : List Ev) : ∀ k, k ≤ l.length → SwSm (seenS p id (l.take k)) k := by
  intro k
  induction k with
  | zero => intro _; exact ⟨by simp [seenS, sw0], by simp [seenS, sw0], by simp [seenS, sw0, sd0], by simp [seenS, sw0, sd0], by simp [seenS, sw0]⟩
  | succ k ih =>
    intro hk
    rw [seenS_succ p id l k (by omega)]
    exact sm_seeS (ih (by omega))
end Go.Proofs.Ytgfogoplmokilaa
