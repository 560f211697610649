/- Memory while the page's Of is under way. Conditions: those of each theorem. -/
import Derived.Test.YtgfogoplmokilaaPref
import Derived.Test.YtgfogoplmokilaaRefLife
namespace Go.Proofs.Ytgfogoplmokilaa
open Go.RowKit
set_option linter.unusedVariables false

/-- Of's memory within a round: the life's block and rows, the event's block, the block of the result. -/
structure RW (w V : World) (xb : Nat) (x : Ev) (cs : Array Value) (vi : Value) (ni : Nat) (xi : List Value) (vw : Value) (nw : Nat) (xw : List Value) (vs : Value) (ns : Nat) (xs : List Value) : Prop where
  mid : MidR V (w.heap.size + 1) (w.heap.size + 1) cs vi ni xi vw nw xw vs ns xs
  ev : Blk V xb 47 (evV x)
  zb : Blk V w.heap.size 32 zeroV
  bel : Below w.heap.size w V
  sz : w.heap.size + 1 < V.heap.size
section
variable {w V V' : World} {xb : Nat} {x : Ev} {cs : Array Value} {vi vw vs v' : Value} {ni nw ns n' : Nat} {xi xw xs x' : List Value}
theorem RW.alloc (h : RW w V xb x cs vi ni xi vw nw xw vs ns xs) (o : Obj) : RW w (V.alloc o) xb x cs vi ni xi vw nw xw vs ns xs :=
  ⟨h.mid.alloc o, h.ev.alloc o, h.zb.alloc o, h.bel.alloc (by have := h.sz; omega) o, by have := h.sz; simp; omega⟩
theorem RW.drew (h : RW w V xb x cs vi ni xi vw nw xw vs ns xs) : RW w V.drew xb x cs vi ni xi vw nw xw vs ns xs :=
  ⟨h.mid.drew, h.ev, h.zb, below_drew' h.bel, h.sz⟩
theorem RW.drewN (h : RW w V xb x cs vi ni xi vw nw xw vs ns xs) (n : Nat) : RW w (V.drewN n) xb x cs vi ni xi vw nw xw vs ns xs :=
  ⟨h.mid.drewN n, h.ev, h.zb, below_drewN' h.bel n, h.sz⟩
theorem RW.growI (h : RW w V xb x cs vi ni xi vw nw xw vs ns xs) (hg : V.grownBy V' vi.ownBlock) (ho : V'.ownsRow (w.heap.size + 1) 76 4 v' n' x') : RW w V' xb x cs v' n' x' vw nw xw vs ns xs :=
  ⟨h.mid.growI hg ho, h.ev.grown h.mid.oi (by decide) hg, h.zb.grown h.mid.oi (by decide) hg, h.bel.grown hg (by have := h.sz; omega) (fun k hk => by have := own_ge h.mid.oi k hk; omega), Nat.lt_of_lt_of_le h.sz hg.size⟩
theorem RW.growW (h : RW w V xb x cs vi ni xi vw nw xw vs ns xs) (hg : V.grownBy V' vw.ownBlock) (ho : V'.ownsRow (w.heap.size + 1) 78 9 v' n' x') : RW w V' xb x cs vi ni xi v' n' x' vs ns xs :=
  ⟨h.mid.growW hg ho, h.ev.grown h.mid.ow (by decide) hg, h.zb.grown h.mid.ow (by decide) hg, h.bel.grown hg (by have := h.sz; omega) (fun k hk => by have := own_ge h.mid.ow k hk; omega), Nat.lt_of_lt_of_le h.sz hg.size⟩
theorem RW.growS (h : RW w V xb x cs vi ni xi vw nw xw vs ns xs) (hg : V.grownBy V' vs.ownBlock) (ho : V'.ownsRow (w.heap.size + 1) 45 6 v' n' x') : RW w V' xb x cs vi ni xi vw nw xw v' n' x' :=
  ⟨h.mid.growS hg ho, h.ev.grown h.mid.os (by decide) hg, h.zb.grown h.mid.os (by decide) hg, h.bel.grown hg (by have := h.sz; omega) (fun k hk => by have := own_ge h.mid.os k hk; omega), Nat.lt_of_lt_of_le h.sz hg.size⟩
theorem RW.set_ (h : RW w V xb x cs vi ni xi vw nw xw vs ns xs) (i : Nat) (u : Value) : RW w (V.setCell ⟨w.heap.size + 1, i, none⟩ u) xb x (cs.setIfInBounds i u) vi ni xi vw nw xw vs ns xs :=
  ⟨h.mid.set_ i u, h.ev.far (p := ⟨w.heap.size + 1, i, none⟩) (Blk.ne_ h.ev h.mid.blk (by decide)) u, h.zb.far (p := ⟨w.heap.size + 1, i, none⟩) (by simp) u, h.bel.setCell (p := ⟨w.heap.size + 1, i, none⟩) (by simp) u, by have := h.sz; simpa [World.setCell] using this⟩
/-- a block beside it, of another type than the row's -/
theorem RW.sideI {g : Nat} {t : TypeId} {cx : Array Value} (h : RW w V xb x cs vi ni xi vw nw xw vs ns xs) (hb : Blk V g t cx) (hg : V.grownBy V' vi.ownBlock) (ht : t ≠ 76) : Blk V' g t cx := hb.grown h.mid.oi ht hg
theorem RW.le (h : RW w V xb x cs vi ni xi vw nw xw vs ns xs) : w.heap.size + 1 ≤ V.heap.size := by have := h.sz; omega
end
section
variable {w V : World} {xb : Nat} {x : Ev} {id : Int} {f : LifeM} {ui uw us vi vw vs : Value} {ni nw ns : Nat} {xi xw xs : List Value}
theorem RW.c3 (h : RW w V xb x (lifeV id f ui uw us) vi ni xi vw nw xw vs ns xs) : V.cell? ⟨w.heap.size + 1, 3, none⟩ = some ui := by rw [h.mid.blk.cell]; rfl
theorem RW.c4 (h : RW w V xb x (lifeV id f ui uw us) vi ni xi vw nw xw vs ns xs) : V.cell? ⟨w.heap.size + 1, 4, none⟩ = some uw := by rw [h.mid.blk.cell]; rfl
theorem RW.c5 (h : RW w V xb x (lifeV id f ui uw us) vi ni xi vw nw xw vs ns xs) : V.cell? ⟨w.heap.size + 1, 5, none⟩ = some us := by rw [h.mid.blk.cell]; rfl
theorem RW.e2 {cs : Array Value} (h : RW w V xb x cs vi ni xi vw nw xw vs ns xs) : V.cell? ⟨xb, 2, none⟩ = some (.int .i64 x.n) := by rw [h.ev.cell]; rfl
theorem RW.e3 {cs : Array Value} (h : RW w V xb x cs vi ni xi vw nw xw vs ns xs) : V.cell? ⟨xb, 3, none⟩ = some (.int .i64 x.tick) := by rw [h.ev.cell]; rfl
theorem RW.e4 {cs : Array Value} (h : RW w V xb x cs vi ni xi vw nw xw vs ns xs) : V.cell? ⟨xb, 4, none⟩ = some (.string x.s) := by rw [h.ev.cell]; rfl
theorem RW.st {cs : Array Value} (h : RW w V xb x cs vi ni xi vw nw xw vs ns xs) : V.cell? ⟨xb, 6, none⟩ = some (.int .i64 x.st.tick) ∧ V.cell? ⟨xb, 7, none⟩ = some (.int .i64 x.st.at_) ∧ V.cell? ⟨xb, 8, none⟩ = some (.int .i64 x.st.what) ∧ V.cell? ⟨xb, 9, none⟩ = some (.int .i64 x.st.arm) ∧ V.cell? ⟨xb, 10, none⟩ = some (.int .i64 x.st.n) ∧ V.cell? ⟨xb, 11, none⟩ = some (.int .i64 x.st.status) := ⟨by rw [h.ev.cell]; rfl, by rw [h.ev.cell]; rfl, by rw [h.ev.cell]; rfl, by rw [h.ev.cell]; rfl, by rw [h.ev.cell]; rfl, by rw [h.ev.cell]; rfl⟩
theorem RW.put34 (h : RW w V xb x (lifeV id f ui uw us) vi ni xi vw nw xw vs ns xs) (a b : Value) : RW w ((V.setCell ⟨w.heap.size + 1, 3, none⟩ a).setCell ⟨w.heap.size + 1, 4, none⟩ b) xb x (lifeV id f a b us) vi ni xi vw nw xw vs ns xs := by
  have q := (h.set_ 3 a).set_ 4 b
  simpa [lifeV] using q
theorem RW.put348 (h : RW w V xb x (lifeV id f ui uw us) vi ni xi vw nw xw vs ns xs) (a b : Value) : RW w (((V.setCell ⟨w.heap.size + 1, 3, none⟩ a).setCell ⟨w.heap.size + 1, 4, none⟩ b).setCell ⟨w.heap.size + 1, 8, none⟩ (.bool true)) xb x (lifeV id { f with eof := true } a b us) vi ni xi vw nw xw vs ns xs := by
  have q := ((h.set_ 3 a).set_ 4 b).set_ 8 (.bool true)
  simpa [lifeV] using q
theorem RW.put6 (h : RW w V xb x (lifeV id f ui uw us) vi ni xi vw nw xw vs ns xs) (s : ByteArray) : RW w (V.setCell ⟨w.heap.size + 1, 6, none⟩ (.string s)) xb x (lifeV id { f with read := s } ui uw us) vi ni xi vw nw xw vs ns xs := by
  have q := h.set_ 6 (.string s)
  simpa [lifeV] using q
theorem RW.put7 (h : RW w V xb x (lifeV id f ui uw us) vi ni xi vw nw xw vs ns xs) (s : ByteArray) : RW w (V.setCell ⟨w.heap.size + 1, 7, none⟩ (.string s)) xb x (lifeV id { f with taken := s } ui uw us) vi ni xi vw nw xw vs ns xs := by
  have q := h.set_ 7 (.string s)
  simpa [lifeV] using q
theorem RW.put59 (h : RW w V xb x (lifeV id f ui uw us) vi ni xi vw nw xw vs ns xs) (a : Value) (t : Int) : RW w ((V.setCell ⟨w.heap.size + 1, 5, none⟩ a).setCell ⟨w.heap.size + 1, 9, none⟩ (.int .i64 t)) xb x (lifeV id { f with status := t } ui uw a) vi ni xi vw nw xw vs ns xs := by
  have q := (h.set_ 5 a).set_ 9 (.int .i64 t)
  simpa [lifeV] using q
/-- where Of stands when the round is over -/
theorem RW.life {xw : List Value} (h : RW w V xb x (lifeV id f vi vw vs) vi f.ins.length (flat encInp f.ins) vw f.ins.length xw vs f.steps.length (flat encStp f.steps)) : RLAt V (w.heap.size + 1) (w.heap.size + 1) id f := ⟨⟨vi, vw, vs, xw, h.mid⟩, Nat.le_refl _⟩
end
theorem RW.lifeI {w V : World} {xb : Nat} {x : Ev} {id : Int} {f : LifeM} {inp : Inp} {v1 v2 vs : Value} {xw : List Value} (h : RW w V xb x (lifeV id f v1 v2 vs) v1 (f.ins.length + 1) (flat encInp f.ins ++ encInp inp) v2 (f.ins.length + 1) xw vs f.steps.length (flat encStp f.steps)) :
    RLAt V (w.heap.size + 1) (w.heap.size + 1) id { f with ins := f.ins ++ [inp] } := by
  refine ⟨⟨v1, v2, vs, xw, ?_⟩, Nat.le_refl _⟩
  have e : flat encInp (f.ins ++ [inp]) = flat encInp f.ins ++ encInp inp := by rw [flat_append]; simp [flat]
  show MidR V _ _ (lifeV id f v1 v2 vs) v1 (f.ins ++ [inp]).length (flat encInp (f.ins ++ [inp])) v2 (f.ins ++ [inp]).length xw vs f.steps.length (flat encStp f.steps)
  rw [e, List.length_append]
  exact h.mid
theorem RW.lifeS {w V : World} {xb : Nat} {x : Ev} {id : Int} {f : LifeM} {inp : Inp} {st : Stp} {v1 v2 vs : Value} {xw : List Value} (h : RW w V xb x (lifeV id f v1 v2 vs) v1 (f.ins.length + 1) (flat encInp f.ins ++ encInp inp) v2 (f.ins.length + 1) xw vs (f.steps.length + 1) (flat encStp f.steps ++ encStp st)) :
    RLAt V (w.heap.size + 1) (w.heap.size + 1) id { f with ins := f.ins ++ [inp], steps := f.steps ++ [st] } := by
  refine ⟨⟨v1, v2, vs, xw, ?_⟩, Nat.le_refl _⟩
  have e : flat encInp (f.ins ++ [inp]) = flat encInp f.ins ++ encInp inp := by rw [flat_append]; simp [flat]
  have e2 : flat encStp (f.steps ++ [st]) = flat encStp f.steps ++ encStp st := by rw [flat_append]; simp [flat]
  show MidR V _ _ (lifeV id f v1 v2 vs) v1 (f.ins ++ [inp]).length (flat encInp (f.ins ++ [inp])) v2 (f.ins ++ [inp]).length xw vs (f.steps ++ [st]).length (flat encStp (f.steps ++ [st]))
  rw [e, e2, List.length_append, List.length_append]
  exact h.mid
/-- where Of stands behind k events -/
def OfSt (w wr : World) (id : Int) (l : List Ev) (k : Nat) (ok ck : Value) : Prop :=
  Below w.heap.size w wr ∧ Blk wr w.heap.size 32 zeroV ∧ match lifeGo id 0 (l.take k) with
  | none => ok = .bool false ∧ ck = .int .i64 (clockOf 0 (l.take k)) ∧ Blk wr (w.heap.size + 1) 32 zeroV
  | some f => ok = .bool true ∧ RLAt wr (w.heap.size + 1) (w.heap.size + 1) id f ∧ Small f k ∧ (∃ c, ck = .int .i64 c)
theorem ofSt_some {w V : World} {id : Int} {l : List Ev} {k : Nat} {f : LifeM} (hF : lifeGo id 0 (l.take k) = some f) (hb : Below w.heap.size w V) (hz : Blk V w.heap.size 32 zeroV) (hl : RLAt V (w.heap.size + 1) (w.heap.size + 1) id f) (hs : Small f k) (c : Int) : OfSt w V id l k (.bool true) (.int .i64 c) := by
  refine ⟨hb, hz, ?_⟩
  rw [hF]
  exact ⟨rfl, hl, hs, c, rfl⟩
theorem ofSt_none {w V : World} {id : Int} {l : List Ev} {k : Nat} {ck : Int} (hF : lifeGo id 0 (l.take k) = none) (hck : ck = clockOf 0 (l.take k)) (hb : Below w.heap.size w V) (hz : Blk V w.heap.size 32 zeroV) (hl : Blk V (w.heap.size + 1) 32 zeroV) : OfSt w V id l k (.bool false) (.int .i64 ck) := by
  refine ⟨hb, hz, ?_⟩
  rw [hF]
  exact ⟨rfl, by rw [hck], hl⟩
theorem Blk.put10 {w : World} {g : Nat} {t : TypeId} {a b c d e f i j k m : Value} (h : Blk w g t #[a, b, c, d, e, f, i, j, k, m]) (v0 v1 v2 v3 v4 v5 v6 v7 v8 v9 : Value) : Blk ((((((((((w.setCell ⟨g, 0, none⟩ v0).setCell ⟨g, 1, none⟩ v1).setCell ⟨g, 2, none⟩ v2).setCell ⟨g, 3, none⟩ v3).setCell ⟨g, 4, none⟩ v4).setCell ⟨g, 5, none⟩ v5).setCell ⟨g, 6, none⟩ v6).setCell ⟨g, 7, none⟩ v7).setCell ⟨g, 8, none⟩ v8).setCell ⟨g, 9, none⟩ v9) g t #[v0, v1, v2, v3, v4, v5, v6, v7, v8, v9] := by
  have q := ((((((((((h.set_ 0 v0).set_ 1 v1).set_ 2 v2).set_ 3 v3).set_ 4 v4).set_ 5 v5).set_ 6 v6).set_ 7 v7).set_ 8 v8).set_ 9 v9)
  simpa using q
theorem Blk.far10 {w : World} {g p : Nat} {t : TypeId} {cs : Array Value} (h : Blk w p t cs) (hp : p ≠ g) (v0 v1 v2 v3 v4 v5 v6 v7 v8 v9 : Value) : Blk ((((((((((w.setCell ⟨g, 0, none⟩ v0).setCell ⟨g, 1, none⟩ v1).setCell ⟨g, 2, none⟩ v2).setCell ⟨g, 3, none⟩ v3).setCell ⟨g, 4, none⟩ v4).setCell ⟨g, 5, none⟩ v5).setCell ⟨g, 6, none⟩ v6).setCell ⟨g, 7, none⟩ v7).setCell ⟨g, 8, none⟩ v8).setCell ⟨g, 9, none⟩ v9) p t cs := ((((((((((h.far (p := ⟨g, 0, none⟩) hp v0).far (p := ⟨g, 1, none⟩) hp v1).far (p := ⟨g, 2, none⟩) hp v2).far (p := ⟨g, 3, none⟩) hp v3).far (p := ⟨g, 4, none⟩) hp v4).far (p := ⟨g, 5, none⟩) hp v5).far (p := ⟨g, 6, none⟩) hp v6).far (p := ⟨g, 7, none⟩) hp v7).far (p := ⟨g, 8, none⟩) hp v8).far (p := ⟨g, 9, none⟩) hp v9)
theorem below_put10 {B g : Nat} {w0 w : World} (h : Below B w0 w) (hg : B ≤ g) (v0 v1 v2 v3 v4 v5 v6 v7 v8 v9 : Value) : Below B w0 ((((((((((w.setCell ⟨g, 0, none⟩ v0).setCell ⟨g, 1, none⟩ v1).setCell ⟨g, 2, none⟩ v2).setCell ⟨g, 3, none⟩ v3).setCell ⟨g, 4, none⟩ v4).setCell ⟨g, 5, none⟩ v5).setCell ⟨g, 6, none⟩ v6).setCell ⟨g, 7, none⟩ v7).setCell ⟨g, 8, none⟩ v8).setCell ⟨g, 9, none⟩ v9) := ((((((((((h.setCell (p := ⟨g, 0, none⟩) hg v0).setCell (p := ⟨g, 1, none⟩) hg v1).setCell (p := ⟨g, 2, none⟩) hg v2).setCell (p := ⟨g, 3, none⟩) hg v3).setCell (p := ⟨g, 4, none⟩) hg v4).setCell (p := ⟨g, 5, none⟩) hg v5).setCell (p := ⟨g, 6, none⟩) hg v6).setCell (p := ⟨g, 7, none⟩) hg v7).setCell (p := ⟨g, 8, none⟩) hg v8).setCell (p := ⟨g, 9, none⟩) hg v9)
theorem Rd.put10 {w : World} {g : Nat} {M : Nat → Prop} {A : Option Addr} {xs : List Value} (h : Rd w M A xs) (hg : M g) (v0 v1 v2 v3 v4 v5 v6 v7 v8 v9 : Value) : Rd ((((((((((w.setCell ⟨g, 0, none⟩ v0).setCell ⟨g, 1, none⟩ v1).setCell ⟨g, 2, none⟩ v2).setCell ⟨g, 3, none⟩ v3).setCell ⟨g, 4, none⟩ v4).setCell ⟨g, 5, none⟩ v5).setCell ⟨g, 6, none⟩ v6).setCell ⟨g, 7, none⟩ v7).setCell ⟨g, 8, none⟩ v8).setCell ⟨g, 9, none⟩ v9) M A xs := ((((((((((h.set_ (p := ⟨g, 0, none⟩) hg v0).set_ (p := ⟨g, 1, none⟩) hg v1).set_ (p := ⟨g, 2, none⟩) hg v2).set_ (p := ⟨g, 3, none⟩) hg v3).set_ (p := ⟨g, 4, none⟩) hg v4).set_ (p := ⟨g, 5, none⟩) hg v5).set_ (p := ⟨g, 6, none⟩) hg v6).set_ (p := ⟨g, 7, none⟩) hg v7).set_ (p := ⟨g, 8, none⟩) hg v8).set_ (p := ⟨g, 9, none⟩) hg v9)
/-- it is opened -/
theorem open_life {w wr : World} {id s t : Int} (hB : Blk wr (w.heap.size + 1) 32 zeroV) :
    RLAt ((((((((((wr.setCell ⟨w.heap.size + 1, 0, none⟩ (.int .i64 id)).setCell ⟨w.heap.size + 1, 1, none⟩ (.int .i64 s)).setCell ⟨w.heap.size + 1, 2, none⟩ (.int .i64 t)).setCell ⟨w.heap.size + 1, 3, none⟩ (.slice none 0 0)).setCell ⟨w.heap.size + 1, 4, none⟩ (.slice none 0 0)).setCell ⟨w.heap.size + 1, 5, none⟩ (.slice none 0 0)).setCell ⟨w.heap.size + 1, 6, none⟩ (.string ⟨#[]⟩)).setCell ⟨w.heap.size + 1, 7, none⟩ (.string ⟨#[]⟩)).setCell ⟨w.heap.size + 1, 8, none⟩ (.bool false)).setCell ⟨w.heap.size + 1, 9, none⟩ (.int .i64 0)) (w.heap.size + 1) (w.heap.size + 1) id (life0 s t) := by
  have q := hB.put10 (.int .i64 id) (.int .i64 s) (.int .i64 t) (.slice none 0 0) (.slice none 0 0) (.slice none 0 0) (.string ⟨#[]⟩) (.string ⟨#[]⟩) (.bool false) (.int .i64 0)
  exact ⟨⟨.slice none 0 0, .slice none 0 0, .slice none 0 0, [], ⟨q, ⟨rfl, Or.inl ⟨rfl, rfl⟩⟩, ⟨rfl, Or.inl ⟨rfl, rfl⟩⟩, ⟨rfl, Or.inl ⟨rfl, rfl⟩⟩⟩⟩, Nat.le_refl _⟩
/-- what the page's Of returns -/
def RetLife31 (id : Int) (o : Option LifeM) (w : World) (e : Ending) (w' : World) : Prop :=
  Below w.heap.size w w' ∧ match o with
  | none => e = .returned (.tuple #[.agg zeroV, .bool false])
  | some f => ∃ A c B d C n c3, e = .returned (.tuple #[.agg (lifeV id f (.slice A f.ins.length c) (.slice C n c3) (.slice B f.steps.length d)), .bool true]) ∧
      Rd w' NoBlk A (flat encInp f.ins) ∧ Rd w' NoBlk B (flat encStp f.steps)
end Go.Proofs.Ytgfogoplmokilaa
