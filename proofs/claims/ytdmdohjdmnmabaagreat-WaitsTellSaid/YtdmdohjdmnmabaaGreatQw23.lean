/- Parts of a chain of lemmas: RefRW, ProjOtherW, TellsP, Scr. Conditions: those of each theorem. -/
import Derived.Test.YtdmdohjdmnmabaaGreatQw22
import Derived.Test.YtdmdohjdmnmabaaGreatQw18
import Derived.Test.YtdmdohjdmnmabaaGreatQw21
import Derived.Test.YtdmdohjdmnmabaaGreatQw15
import Derived.Test.YtdmdohjdmnmabaaGreatQw19
namespace Go.Proofs.YtdmdohjdmnmabaaGreat
open Go.RowKit
set_option linter.unusedVariables false

/-- Of's memory within a round: the life's block and rows, the event's block, the block of the result. -/
structure RW (w V : World) (xb : Nat) (x : Ev) (cs : Array Value) (vi : Value) (ni : Nat) (xi : List Value) (vw : Value) (nw : Nat) (xw : List Value) (vs : Value) (ns : Nat) (xs : List Value) : Prop where
 mid : MidR V (w.heap.size + 1) (w.heap.size + 1) cs vi ni xi vw nw xw vs ns xs
 ev : Blk V xb 82 (evV x)
 zb : Blk V w.heap.size 92 zeroV
 bel : Below w.heap.size w V
 sz : w.heap.size + 1 < V.heap.size
section
variable {w V V' : World} {xb : Nat} {x : Ev} {cs : Array Value} {vi vw vs v' : Value} {ni nw ns n' : Nat} {xi xw xs x' : List Value}
theorem RW.alloc (h : RW w V xb x cs vi ni xi vw nw xw vs ns xs) (o : Obj) : RW w (V.alloc o) xb x cs vi ni xi vw nw xw vs ns xs :=
 ⟨h.mid.alloc o, h.ev.alloc o, h.zb.alloc o, h.bel.alloc (by have := h.sz; omega) o, by have := h.sz; simp; omega⟩
theorem RW.drew (h : RW w V xb x cs vi ni xi vw nw xw vs ns xs) : RW w V.drew xb x cs vi ni xi vw nw xw vs ns xs :=
 ⟨h.mid.drew, h.ev, h.zb, below_drew' h.bel, h.sz⟩
theorem RW.drewN (h : RW w V xb x cs vi ni xi vw nw xw vs ns xs) (n : Nat) : RW w (V.drewN n) xb x cs vi ni xi vw nw xw vs ns xs :=
 ⟨h.mid.drewN n, h.ev, h.zb, below_drewN' h.bel n, h.sz⟩
theorem RW.growI (h : RW w V xb x cs vi ni xi vw nw xw vs ns xs) (hg : V.grownBy V' vi.ownBlock) (ho : V'.ownsRow (w.heap.size + 1) 137 4 v' n' x') : RW w V' xb x cs v' n' x' vw nw xw vs ns xs :=
 ⟨h.mid.growI hg ho, h.ev.grown h.mid.oi (by decide) hg, h.zb.grown h.mid.oi (by decide) hg, h.bel.grown hg (by have := h.sz; omega) (fun k hk => by have := own_ge h.mid.oi k hk; omega), Nat.lt_of_lt_of_le h.sz hg.size⟩
theorem RW.growW (h : RW w V xb x cs vi ni xi vw nw xw vs ns xs) (hg : V.grownBy V' vw.ownBlock) (ho : V'.ownsRow (w.heap.size + 1) 139 9 v' n' x') : RW w V' xb x cs vi ni xi v' n' x' vs ns xs :=
 ⟨h.mid.growW hg ho, h.ev.grown h.mid.ow (by decide) hg, h.zb.grown h.mid.ow (by decide) hg, h.bel.grown hg (by have := h.sz; omega) (fun k hk => by have := own_ge h.mid.ow k hk; omega), Nat.lt_of_lt_of_le h.sz hg.size⟩
theorem RW.growS (h : RW w V xb x cs vi ni xi vw nw xw vs ns xs) (hg : V.grownBy V' vs.ownBlock) (ho : V'.ownsRow (w.heap.size + 1) 26 6 v' n' x') : RW w V' xb x cs vi ni xi vw nw xw v' n' x' :=
 ⟨h.mid.growS hg ho, h.ev.grown h.mid.os (by decide) hg, h.zb.grown h.mid.os (by decide) hg, h.bel.grown hg (by have := h.sz; omega) (fun k hk => by have := own_ge h.mid.os k hk; omega), Nat.lt_of_lt_of_le h.sz hg.size⟩
theorem RW.set_ (h : RW w V xb x cs vi ni xi vw nw xw vs ns xs) (i : Nat) (u : Value) : RW w (V.setCell ⟨w.heap.size + 1, i, none⟩ u) xb x (cs.setIfInBounds i u) vi ni xi vw nw xw vs ns xs :=
 ⟨h.mid.set_ i u, h.ev.far (p := ⟨w.heap.size + 1, i, none⟩) (Blk.ne_ h.ev h.mid.blk (by decide)) u, h.zb.far (p := ⟨w.heap.size + 1, i, none⟩) (by simp) u, h.bel.setCell (p := ⟨w.heap.size + 1, i, none⟩) (by simp) u, by have := h.sz; simpa [World.setCell] using this⟩
/-- a block beside it, of another type than the row's -/
theorem RW.sideI {g : Nat} {t : TypeId} {cx : Array Value} (h : RW w V xb x cs vi ni xi vw nw xw vs ns xs) (hb : Blk V g t cx) (hg : V.grownBy V' vi.ownBlock) (ht : t ≠ 137) : Blk V' g t cx := hb.grown h.mid.oi ht hg
theorem RW.le (h : RW w V xb x cs vi ni xi vw nw xw vs ns xs) : w.heap.size + 1 ≤ V.heap.size := by have := h.sz; omega
end
section
variable {w V : World} {xb : Nat} {x : Ev} {id : Int} {f : LifeM} {ui uw us vi vw vs : Value} {ni nw ns : Nat} {xi xw xs : List Value}
theorem RW.c3 (h : RW w V xb x (lifeV id f ui uw us) vi ni xi vw nw xw vs ns xs) : V.cell? ⟨w.heap.size + 1, 3, none⟩ = some ui := by rw [h.mid.blk.cell]; rfl
theorem RW.c4 (h : RW w V xb x (lifeV id f ui uw us) vi ni xi vw nw xw vs ns xs) : V.cell? ⟨w.heap.size + 1, 4, none⟩ = some uw := by rw [h.mid.blk.cell]; rfl
theorem RW.c5 (h : RW w V xb x (lifeV id f ui uw us) vi ni xi vw nw xw vs ns xs) : V.cell? ⟨w.heap.size + 1, 5, none⟩ = some us := by rw [h.mid.blk.cell]; rfl
theorem RW.e2 {cs : Array Value} (h : RW w V xb x cs vi ni xi vw nw xw vs ns xs) : V.cell? ⟨xb, 2, none⟩ = some (.int .i64 x.n) := by rw [h.ev.cell]; rfl
theorem RW.e3 {cs : Array Value} (h : RW w V xb x cs vi ni xi vw nw xw vs ns xs) : V.cell? ⟨xb, 3, none⟩ = some (.int .i64 x.tick) := by rw [h.ev.cell]; rfl
theorem RW.e4 {cs : Array Value} (h : RW w V xb x cs vi ni xi vw nw xw vs ns xs) : V.cell? ⟨xb, 4, none⟩ = some (.string x.s) := by rw [h.ev.cell]; rfl
theorem RW.st {cs : Array Value} (h : RW w V xb x cs vi ni xi vw nw xw vs ns xs) : V.cell? ⟨xb, 6, none⟩ = some (.int .i64 x.st.tick) ∧ V.cell? ⟨xb, 7, none⟩ = some (.int .i64 x.st.at_) ∧ V.cell? ⟨xb, 8, none⟩ = some (.int .i64 x.st.what) ∧ V.cell? ⟨xb, 9, none⟩ = some (.int .i64 x.st.arm) ∧ V.cell? ⟨xb, 10, none⟩ = some (.int .i64 x.st.n) ∧ V.cell? ⟨xb, 11, none⟩ = some (.int .i64 x.st.status) := ⟨by rw [h.ev.cell]; rfl, by rw [h.ev.cell]; rfl, by rw [h.ev.cell]; rfl, by rw [h.ev.cell]; rfl, by rw [h.ev.cell]; rfl, by rw [h.ev.cell]; rfl⟩
theorem RW.put34 (h : RW w V xb x (lifeV id f ui uw us) vi ni xi vw nw xw vs ns xs) (a b : Value) : RW w ((V.setCell ⟨w.heap.size + 1, 3, none⟩ a).setCell ⟨w.heap.size + 1, 4, none⟩ b) xb x (lifeV id f a b us) vi ni xi vw nw xw vs ns xs := by
 have q := (h.set_ 3 a).set_ 4 b
 simpa [lifeV] using q
theorem RW.put348 (h : RW w V xb x (lifeV id f ui uw us) vi ni xi vw nw xw vs ns xs) (a b : Value) : RW w (((V.setCell ⟨w.heap.size + 1, 3, none⟩ a).setCell ⟨w.heap.size + 1, 4, none⟩ b).setCell ⟨w.heap.size + 1, 8, none⟩ (.bool true)) xb x (lifeV id { f with eof := true } a b us) vi ni xi vw nw xw vs ns xs := by
 have q := ((h.set_ 3 a).set_ 4 b).set_ 8 (.bool true)
 simpa [lifeV] using q
theorem RW.put6 (h : RW w V xb x (lifeV id f ui uw us) vi ni xi vw nw xw vs ns xs) (s : ByteArray) : RW w (V.setCell ⟨w.heap.size + 1, 6, none⟩ (.string s)) xb x (lifeV id { f with read := s } ui uw us) vi ni xi vw nw xw vs ns xs := by
 have q := h.set_ 6 (.string s)
 simpa [lifeV] using q
theorem RW.put7 (h : RW w V xb x (lifeV id f ui uw us) vi ni xi vw nw xw vs ns xs) (s : ByteArray) : RW w (V.setCell ⟨w.heap.size + 1, 7, none⟩ (.string s)) xb x (lifeV id { f with taken := s } ui uw us) vi ni xi vw nw xw vs ns xs := by
 have q := h.set_ 7 (.string s)
 simpa [lifeV] using q
theorem RW.put59 (h : RW w V xb x (lifeV id f ui uw us) vi ni xi vw nw xw vs ns xs) (a : Value) (t : Int) : RW w ((V.setCell ⟨w.heap.size + 1, 5, none⟩ a).setCell ⟨w.heap.size + 1, 9, none⟩ (.int .i64 t)) xb x (lifeV id { f with status := t } ui uw a) vi ni xi vw nw xw vs ns xs := by
 have q := (h.set_ 5 a).set_ 9 (.int .i64 t)
 simpa [lifeV] using q
/-- where Of stands when the round is over -/
theorem RW.life {xw : List Value} (h : RW w V xb x (lifeV id f vi vw vs) vi f.ins.length (flat encInp f.ins) vw f.ins.length xw vs f.steps.length (flat encStp f.steps)) : RLAt V (w.heap.size + 1) (w.heap.size + 1) id f := ⟨⟨vi, vw, vs, xw, h.mid⟩, Nat.le_refl _⟩
end
theorem RW.lifeI {w V : World} {xb : Nat} {x : Ev} {id : Int} {f : LifeM} {inp : Inp} {v1 v2 vs : Value} {xw : List Value} (h : RW w V xb x (lifeV id f v1 v2 vs) v1 (f.ins.length + 1) (flat encInp f.ins ++ encInp inp) v2 (f.ins.length + 1) xw vs f.steps.length (flat encStp f.steps)) :
 RLAt V (w.heap.size + 1) (w.heap.size + 1) id { f with ins := f.ins ++ [inp] } := by
 refine ⟨⟨v1, v2, vs, xw, ?_⟩, Nat.le_refl _⟩
 have e : flat encInp (f.ins ++ [inp]) = flat encInp f.ins ++ encInp inp := by rw [flat_append]; simp [flat]
 show MidR V _ _ (lifeV id f v1 v2 vs) v1 (f.ins ++ [inp]).length (flat encInp (f.ins ++ [inp])) v2 (f.ins ++ [inp]).length xw vs f.steps.length (flat encStp f.steps)
 rw [e, List.length_append]
 exact h.mid
theorem RW.lifeS {w V : World} {xb : Nat} {x : Ev} {id : Int} {f : LifeM} {inp : Inp} {st : Stp} {v1 v2 vs : Value} {xw : List Value} (h : RW w V xb x (lifeV id f v1 v2 vs) v1 (f.ins.length + 1) (flat encInp f.ins ++ encInp inp) v2 (f.ins.length + 1) xw vs (f.steps.length + 1) (flat encStp f.steps ++ encStp st)) :
 RLAt V (w.heap.size + 1) (w.heap.size + 1) id { f with ins := f.ins ++ [inp], steps := f.steps ++ [st] } := by
 refine ⟨⟨v1, v2, vs, xw, ?_⟩, Nat.le_refl _⟩
 have e : flat encInp (f.ins ++ [inp]) = flat encInp f.ins ++ encInp inp := by rw [flat_append]; simp [flat]
 have e2 : flat encStp (f.steps ++ [st]) = flat encStp f.steps ++ encStp st := by rw [flat_append]; simp [flat]
 show MidR V _ _ (lifeV id f v1 v2 vs) v1 (f.ins ++ [inp]).length (flat encInp (f.ins ++ [inp])) v2 (f.ins ++ [inp]).length xw vs (f.steps ++ [st]).length (flat encStp (f.steps ++ [st]))
 rw [e, e2, List.length_append, List.length_append]
 exact h.mid
/-- where Of stands behind k events -/
def OfSt (w wr : World) (id : Int) (l : List Ev) (k : Nat) (ok ck : Value) : Prop :=
 Below w.heap.size w wr ∧ Blk wr w.heap.size 92 zeroV ∧ match lifeGo id 0 (l.take k) with
 | none => ok = .bool false ∧ ck = .int .i64 (clockOf 0 (l.take k)) ∧ Blk wr (w.heap.size + 1) 92 zeroV
 | some f => ok = .bool true ∧ RLAt wr (w.heap.size + 1) (w.heap.size + 1) id f ∧ Small f k ∧ (∃ c, ck = .int .i64 c)
theorem ofSt_some {w V : World} {id : Int} {l : List Ev} {k : Nat} {f : LifeM} (hF : lifeGo id 0 (l.take k) = some f) (hb : Below w.heap.size w V) (hz : Blk V w.heap.size 92 zeroV) (hl : RLAt V (w.heap.size + 1) (w.heap.size + 1) id f) (hs : Small f k) (c : Int) : OfSt w V id l k (.bool true) (.int .i64 c) := by
 refine ⟨hb, hz, ?_⟩
 rw [hF]
 exact ⟨rfl, hl, hs, c, rfl⟩
theorem ofSt_none {w V : World} {id : Int} {l : List Ev} {k : Nat} {ck : Int} (hF : lifeGo id 0 (l.take k) = none) (hck : ck = clockOf 0 (l.take k)) (hb : Below w.heap.size w V) (hz : Blk V w.heap.size 92 zeroV) (hl : Blk V (w.heap.size + 1) 92 zeroV) : OfSt w V id l k (.bool false) (.int .i64 ck) := by
 refine ⟨hb, hz, ?_⟩
 rw [hF]
 exact ⟨rfl, by rw [hck], hl⟩
theorem Blk.put10 {w : World} {g : Nat} {t : TypeId} {a b c d e f i j k m : Value} (h : Blk w g t #[a, b, c, d, e, f, i, j, k, m]) (v0 v1 v2 v3 v4 v5 v6 v7 v8 v9 : Value) : Blk ((((((((((w.setCell ⟨g, 0, none⟩ v0).setCell ⟨g, 1, none⟩ v1).setCell ⟨g, 2, none⟩ v2).setCell ⟨g, 3, none⟩ v3).setCell ⟨g, 4, none⟩ v4).setCell ⟨g, 5, none⟩ v5).setCell ⟨g, 6, none⟩ v6).setCell ⟨g, 7, none⟩ v7).setCell ⟨g, 8, none⟩ v8).setCell ⟨g, 9, none⟩ v9) g t #[v0, v1, v2, v3, v4, v5, v6, v7, v8, v9] := by
 have q := ((((((((((h.set_ 0 v0).set_ 1 v1).set_ 2 v2).set_ 3 v3).set_ 4 v4).set_ 5 v5).set_ 6 v6).set_ 7 v7).set_ 8 v8).set_ 9 v9)
 simpa using q
theorem Blk.far10 {w : World} {g p : Nat} {t : TypeId} {cs : Array Value} (h : Blk w p t cs) (hp : p ≠ g) (v0 v1 v2 v3 v4 v5 v6 v7 v8 v9 : Value) : Blk ((((((((((w.setCell ⟨g, 0, none⟩ v0).setCell ⟨g, 1, none⟩ v1).setCell ⟨g, 2, none⟩ v2).setCell ⟨g, 3, none⟩ v3).setCell ⟨g, 4, none⟩ v4).setCell ⟨g, 5, none⟩ v5).setCell ⟨g, 6, none⟩ v6).setCell ⟨g, 7, none⟩ v7).setCell ⟨g, 8, none⟩ v8).setCell ⟨g, 9, none⟩ v9) p t cs := ((((((((((h.far (p := ⟨g, 0, none⟩) hp v0).far (p := ⟨g, 1, none⟩) hp v1).far (p := ⟨g, 2, none⟩) hp v2).far (p := ⟨g, 3, none⟩) hp v3).far (p := ⟨g, 4, none⟩) hp v4).far (p := ⟨g, 5, none⟩) hp v5).far (p := ⟨g, 6, none⟩) hp v6).far (p := ⟨g, 7, none⟩) hp v7).far (p := ⟨g, 8, none⟩) hp v8).far (p := ⟨g, 9, none⟩) hp v9)
theorem below_put10 {B g : Nat} {w0 w : World} (h : Below B w0 w) (hg : B ≤ g) (v0 v1 v2 v3 v4 v5 v6 v7 v8 v9 : Value) : Below B w0 ((((((((((w.setCell ⟨g, 0, none⟩ v0).setCell ⟨g, 1, none⟩ v1).setCell ⟨g, 2, none⟩ v2).setCell ⟨g, 3, none⟩ v3).setCell ⟨g, 4, none⟩ v4).setCell ⟨g, 5, none⟩ v5).setCell ⟨g, 6, none⟩ v6).setCell ⟨g, 7, none⟩ v7).setCell ⟨g, 8, none⟩ v8).setCell ⟨g, 9, none⟩ v9) := ((((((((((h.setCell (p := ⟨g, 0, none⟩) hg v0).setCell (p := ⟨g, 1, none⟩) hg v1).setCell (p := ⟨g, 2, none⟩) hg v2).setCell (p := ⟨g, 3, none⟩) hg v3).setCell (p := ⟨g, 4, none⟩) hg v4).setCell (p := ⟨g, 5, none⟩) hg v5).setCell (p := ⟨g, 6, none⟩) hg v6).setCell (p := ⟨g, 7, none⟩) hg v7).setCell (p := ⟨g, 8, none⟩) hg v8).setCell (p := ⟨g, 9, none⟩) hg v9)
theorem Rd.put10 {w : World} {g : Nat} {M : Nat → Prop} {A : Option Addr} {xs : List Value} (h : Rd w M A xs) (hg : M g) (v0 v1 v2 v3 v4 v5 v6 v7 v8 v9 : Value) : Rd ((((((((((w.setCell ⟨g, 0, none⟩ v0).setCell ⟨g, 1, none⟩ v1).setCell ⟨g, 2, none⟩ v2).setCell ⟨g, 3, none⟩ v3).setCell ⟨g, 4, none⟩ v4).setCell ⟨g, 5, none⟩ v5).setCell ⟨g, 6, none⟩ v6).setCell ⟨g, 7, none⟩ v7).setCell ⟨g, 8, none⟩ v8).setCell ⟨g, 9, none⟩ v9) M A xs := ((((((((((h.set_ (p := ⟨g, 0, none⟩) hg v0).set_ (p := ⟨g, 1, none⟩) hg v1).set_ (p := ⟨g, 2, none⟩) hg v2).set_ (p := ⟨g, 3, none⟩) hg v3).set_ (p := ⟨g, 4, none⟩) hg v4).set_ (p := ⟨g, 5, none⟩) hg v5).set_ (p := ⟨g, 6, none⟩) hg v6).set_ (p := ⟨g, 7, none⟩) hg v7).set_ (p := ⟨g, 8, none⟩) hg v8).set_ (p := ⟨g, 9, none⟩) hg v9)
/-- it is opened -/
theorem open_life {w wr : World} {id s t : Int} (hB : Blk wr (w.heap.size + 1) 92 zeroV) :
 RLAt ((((((((((wr.setCell ⟨w.heap.size + 1, 0, none⟩ (.int .i64 id)).setCell ⟨w.heap.size + 1, 1, none⟩ (.int .i64 s)).setCell ⟨w.heap.size + 1, 2, none⟩ (.int .i64 t)).setCell ⟨w.heap.size + 1, 3, none⟩ (.slice none 0 0)).setCell ⟨w.heap.size + 1, 4, none⟩ (.slice none 0 0)).setCell ⟨w.heap.size + 1, 5, none⟩ (.slice none 0 0)).setCell ⟨w.heap.size + 1, 6, none⟩ (.string ⟨#[]⟩)).setCell ⟨w.heap.size + 1, 7, none⟩ (.string ⟨#[]⟩)).setCell ⟨w.heap.size + 1, 8, none⟩ (.bool false)).setCell ⟨w.heap.size + 1, 9, none⟩ (.int .i64 0)) (w.heap.size + 1) (w.heap.size + 1) id (life0 s t) := by
 have q := hB.put10 (.int .i64 id) (.int .i64 s) (.int .i64 t) (.slice none 0 0) (.slice none 0 0) (.slice none 0 0) (.string ⟨#[]⟩) (.string ⟨#[]⟩) (.bool false) (.int .i64 0)
 exact ⟨⟨.slice none 0 0, .slice none 0 0, .slice none 0 0, [], ⟨q, ⟨rfl, Or.inl ⟨rfl, rfl⟩⟩, ⟨rfl, Or.inl ⟨rfl, rfl⟩⟩, ⟨rfl, Or.inl ⟨rfl, rfl⟩⟩⟩⟩, Nat.le_refl _⟩
/-- what the page's Of returns -/
def RetLife31 (id : Int) (o : Option LifeM) (w : World) (e : Ending) (w' : World) : Prop :=
 Below w.heap.size w w' ∧ match o with
 | none => e = .returned (.tuple #[.agg zeroV, .bool false])
 | some f => ∃ A c B d C n c3, e = .returned (.tuple #[.agg (lifeV id f (.slice A f.ins.length c) (.slice C n c3) (.slice B f.steps.length d)), .bool true]) ∧
  Rd w' NoBlk A (flat encInp f.ins) ∧ Rd w' NoBlk B (flat encStp f.steps)
end Go.Proofs.YtdmdohjdmnmabaaGreat
namespace Go.Proofs.YtdmdohjdmnmabaaGreat
open Go.RowKit
set_option linter.unusedVariables false

theorem filt_succ (p : Ev → Bool) (l : List Ev) (k : Nat) (h : k < l.length) : (l.take (k + 1)).filter p = (l.take k).filter p ++ (if p (evAt l k) = true then [evAt l k] else []) := by
 have e : evAt l k = l[k] := by simp [evAt, List.getD, h]
 rw [List.take_succ_eq_append_getElem h, List.filter_append, e]
 cases hp : p l[k] <;> simp [hp]
theorem life_small {id : Int} {l : List Ev} {f : LifeM} (h : lifeGo id 0 l = some f) (hx : ∀ x ∈ l, x.s.size ≤ 100) : f.ins.length ≤ l.length ∧ f.steps.length ≤ l.length := by
 rcases open_or id l with ⟨_, hl⟩ | ⟨k, hk, _, hl⟩
 ·rw [h] at hl; cases hl
 ·rw [h] at hl
  injection hl with hl
  have := small_fold id (evAt l k).n (clockOf 0 (l.take k)) (l.drop (k + 1)) (fun x hx' => hx x (List.mem_of_mem_drop hx')) (l.drop (k + 1)).length (Nat.le_refl _)
  rw [List.take_length, ← hl] at this
  have h1 := this.ins; have h2 := this.steps
  rw [List.length_drop] at h1 h2
  exact ⟨by omega, by omega⟩
theorem few_texts (l : List Ev) (m : Nat) : ∀ x ∈ fewL l m, x.s.size ≤ 100 := by
 intro x hx
 unfold fewL at hx
 obtain ⟨y, _, rfl⟩ := List.mem_map.1 hx
 show (cutS y.s 24).size ≤ 100
 rw [cutS_size]; omega
theorem few_le (l : List Ev) (m : Nat) : (fewL l m).length ≤ m := by
 unfold fewL
 rw [List.length_map, List.length_take]; omega
end Go.Proofs.YtdmdohjdmnmabaaGreat
namespace Go.Proofs.YtdmdohjdmnmabaaGreat
open Go.RowKit
set_option linter.unusedVariables false

theorem cutS_idem (s : ByteArray) (m : Nat) : cutS (cutS s m) m = cutS s m := by
 have h : (cutS s m).size ≤ m := by rw [cutS_size]; omega
 generalize cutS s m = t at h
 unfold cutS
 rw [if_neg (by omega)]
theorem fewL_idem (l : List Ev) (m : Nat) : fewL (fewL l m) m = fewL l m := by
 unfold fewL
 rw [← List.map_take, List.take_take, Nat.min_self, List.map_map]
 apply List.map_congr_left
 intro x _
 simp [cutS_idem]
/-- who is told: 0 where nobody is -/
def whoL (id : Int) (o : Option LifeM) : Int := match o with
 | none => 0
 | some _ => id
def lifeO (o : Option LifeM) : LifeM := o.getD (life0 0 0)
/-- both ways of Of's answer as one -/
theorem ret_one {M : Nat → Prop} {id : Int} {o : Option LifeM} {w w' : World} {e : Ending} (h : RetLife M id o (fun ok r => r = [.bool ok]) w e w') : Below w.heap.size w w' ∧ ∃ A c B d,
 e = .returned (.tuple #[.agg #[.int .i64 (whoL id o), .int .i64 (lifeO o).script, .int .i64 (lifeO o).start, .slice A (lifeO o).ins.length c, .slice B (lifeO o).steps.length d, .string (lifeO o).read, .string (lifeO o).taken, .bool (lifeO o).eof, .int .i64 (lifeO o).status], .bool o.isSome]) ∧
 Rd w' M A (flat encInp (lifeO o).ins) ∧ Rd w' M B (flat encStp (lifeO o).steps) := by
 refine ⟨h.1, ?_⟩
 cases o with
 | none =>
  obtain ⟨r, rfl, he⟩ := h.2
  exact ⟨none, 0, none, 0, he, Rd.nil, Rd.nil⟩
 | some f =>
  obtain ⟨A, c, B, d, r, rfl, he, h1, h2, _, _⟩ := h.2
  exact ⟨A, c, B, d, he, h1, h2⟩
theorem ret_one31 {id : Int} {o : Option LifeM} {w w' : World} {e : Ending} (h : RetLife31 id o w e w') : Below w.heap.size w w' ∧ ∃ A c B d C n c3,
 e = .returned (.tuple #[.agg #[.int .i64 (whoL id o), .int .i64 (lifeO o).script, .int .i64 (lifeO o).start, .slice A (lifeO o).ins.length c, .slice C n c3, .slice B (lifeO o).steps.length d, .string (lifeO o).read, .string (lifeO o).taken, .bool (lifeO o).eof, .int .i64 (lifeO o).status], .bool o.isSome]) ∧
 Rd w' NoBlk A (flat encInp (lifeO o).ins) ∧ Rd w' NoBlk B (flat encStp (lifeO o).steps) := by
 refine ⟨h.1, ?_⟩
 cases o with
 | none => exact ⟨none, 0, none, 0, none, 0, 0, h.2, Rd.nil, Rd.nil⟩
 | some f =>
  obtain ⟨A, c, B, d, C, n, c3, he, h1, h2⟩ := h.2
  exact ⟨A, c, B, d, C, n, c3, he, h1, h2⟩
theorem lifeO_small {id : Int} {l : List Ev} (hx : ∀ x ∈ l, x.s.size ≤ 100) (hn : l.length ≤ 10000) : (lifeO (lifeGo id 0 l)).ins.length ≤ 100000 ∧ (lifeO (lifeGo id 0 l)).steps.length ≤ 100000 := by
 cases h : lifeGo id 0 l with
 | none => exact ⟨Nat.zero_le _, Nat.zero_le _⟩
 | some f =>
  have := life_small h hx
  exact ⟨Nat.le_trans this.1 (by omega), Nat.le_trans this.2 (by omega)⟩
theorem ids_le (l : List Ev) : (idsL l).length ≤ l.length := by
 have h := fold_len (openedL l)
 have h2 : (openedL l).length ≤ l.length := by unfold openedL; rw [List.length_map]; exact List.length_filter_le _ _
 unfold idsL
 omega
/-- the contract of the page's Of -/
def RefOfC : Prop := ∀ (A : Option Addr) (c : Nat) (l : List Ev) (id : Int) (w : World), Rd w NoBlk A (flat encEv l) → l.length ≤ 10000 → (∀ x ∈ l, x.s.size ≤ 100) →
 Calls Tryz.prog 45 #[.slice A l.length c, .int .i64 id] w (RetLife31 id (lifeGo id 0 l) w)
end Go.Proofs.YtdmdohjdmnmabaaGreat
namespace Go.Proofs.YtdmdohjdmnmabaaGreat
open Go.RowKit
set_option linter.unusedVariables false

/-- a script, and where its ops lie -/
structure PrV where
 s : ByteArray
 d : Int
 j : Int
 PA : Option Addr
 pc : Nat
 L : List OpV
def encPr (v : PrV) : List Value := [.string v.s, .int .i64 v.d, .int .i64 v.j, .slice v.PA v.L.length v.pc]
theorem encPr_len (v : PrV) : (encPr v).length = 4 := rfl
def prM (v : PrV) : ProgM := progM v.s v.d v.j v.L
def PrsRd (w : World) (M : Nat → Prop) (A : Option Addr) (Ps : List PrV) : Prop := Rd w M A (flat encPr Ps) ∧ ∀ v ∈ Ps, OpsRd w M v.PA v.L
theorem PrsRd.only {S M : Nat → Prop} {w w' : World} {A : Option Addr} {Ps : List PrV} (h : PrsRd w M A Ps) (k : Only S w w') (hs : ∀ b, S b → M b) : PrsRd w' M A Ps := ⟨h.1.only k hs, fun v hv => (h.2 v hv).only k hs⟩
def PrSz (v : PrV) : Prop := v.L.length ≤ maxLen ∧ v.s.size ≤ 9223372036854775807 ∧ ∀ o ∈ v.L, OpSz o
def prAt (l : List PrV) (k : Nat) : PrV := l.getD k ⟨⟨#[]⟩, 0, 0, none, 0, []⟩
theorem prAt_some {l : List PrV} {k : Nat} (hk : k < l.length) : l[k]? = some (prAt l k) := by simp [prAt, List.getD, hk]
theorem prAt_mem {l : List PrV} {k : Nat} (hk : k < l.length) : prAt l k ∈ l := List.mem_of_getElem? (prAt_some hk)
theorem pr_cells {w : World} {M : Nat → Prop} {A : Option Addr} {l : List PrV} (hr : Rd w M A (flat encPr l)) (k : Nat) (hk : k < l.length) : ∃ b o, A = some ⟨b, o, none⟩ ∧ b < w.heap.size ∧
 w.cell? ⟨b, o + k * 4, none⟩ = some (.string (prAt l k).s) ∧ w.cell? ⟨b, o + k * 4 + 1, none⟩ = some (.int .i64 (prAt l k).d) ∧ w.cell? ⟨b, o + k * 4 + 2, none⟩ = some (.int .i64 (prAt l k).j) ∧ w.cell? ⟨b, o + k * 4 + 3, none⟩ = some (.slice (prAt l k).PA (prAt l k).L.length (prAt l k).pc) := by
 obtain ⟨b, o, hA, hm, hb, hc⟩ := flat_cells encPr_len hr k _ (prAt_some hk) (by omega)
 exact ⟨b, o, hA, hb, hc 0 (by omega), hc 1 (by omega), hc 2 (by omega), hc 3 (by omega)⟩
theorem id_cell {w : World} {M : Nat → Prop} {A : Option Addr} {l : List Int} (hr : Rd w M A (flat encI l)) (k : Nat) (hk : k < l.length) : ∃ b o, A = some ⟨b, o, none⟩ ∧ b < w.heap.size ∧ w.cell? ⟨b, o + k, none⟩ = some (.int .i64 (nth l k)) := by
 obtain ⟨b, o, hA, _, hb, hc⟩ := hr.at_ (j := k) (by rw [encI_len]; exact hk)
 refine ⟨b, o, hA, hb, ?_⟩
 rw [hc k (by rw [encI_len]; exact hk), flat_encI]
 simp [nth, List.getD, hk]
/-- the number of one's script -/
def scrN (l : List Ev) (id : Int) : Int := (lifeO (lifeGo id 0 l)).script
/-- whether one has a script that may be -/
def scrB (Ps : List PrV) (l : List Ev) (id : Int) : Bool := (decide (0 ≤ scrN l id) && decide (scrN l id < Ps.length)) && goodM (prM (prAt Ps (scrN l id).toNat))
/-- of each one with a script that may be -/
def perM {β : Type} (Ps : List PrV) (l : List Ev) (one : PrV → Int → List β) (ids : List Int) : List β := ids.flatMap fun id => if scrB Ps l id = true then one (prAt Ps (scrN l id).toNat) id else []
theorem per_succ {β : Type} (Ps : List PrV) (l : List Ev) (one : PrV → Int → List β) (ids : List Int) (k : Nat) (h : k < ids.length) :
 perM Ps l one (ids.take (k + 1)) = perM Ps l one (ids.take k) ++ (if scrB Ps l (nth ids k) = true then one (prAt Ps (scrN l (nth ids k)).toNat) (nth ids k) else []) := by
 have e : nth ids k = ids[k] := nth_of_lt h
 rw [List.take_succ_eq_append_getElem h, ← e]
 unfold perM
 rw [List.flatMap_append]
 simp
theorem per_len {β : Type} (Ps : List PrV) (l : List Ev) (one : PrV → Int → List β) (m : Nat) (hm : ∀ p id, (one p id).length ≤ m) : ∀ ids : List Int, (perM Ps l one ids).length ≤ ids.length * m := by
 intro ids
 induction ids with
 | nil => simp [perM]
 | cons a r ih =>
  have : perM Ps l one (a :: r) = (if scrB Ps l a = true then one (prAt Ps (scrN l a).toNat) a else []) ++ perM Ps l one r := by simp [perM]
  rw [this, List.length_append, List.length_cons, Nat.add_mul]
  have := hm (prAt Ps (scrN l a).toNat) a
  split
  ·omega
  ·simp; omega
theorem Rd.old {w : World} {A : Option Addr} {xs : List Value} {b : Nat} (h : Rd w NoBlk A xs) (hb : w.heap.size ≤ b) : Rd w (b ≤ ·) A xs := by
 rcases h with h | ⟨g, o, hA, _, hg, hc⟩
 ·exact Or.inl h
 ·exact Or.inr ⟨g, o, hA, by omega, hg, hc⟩
theorem OpsRd.old {w : World} {A : Option Addr} {L : List OpV} {b : Nat} (h : OpsRd w NoBlk A L) (hb : w.heap.size ≤ b) : OpsRd w (b ≤ ·) A L := ⟨h.1.old hb, fun v hv => (h.2 v hv).old hb⟩
theorem only_new {b : Nat} {w w' : World} (hb : w.heap.size ≤ b) (k : Only (b ≤ ·) w w') : Only NoBlk w w' := k.mono fun i hi hs => by omega
theorem no_blk_new {w : World} {b g : Nat} {e : TypeId} {cs : Array Value} (hb : w.heap.size ≤ b) (hg : b ≤ g) : ¬ Blk w g e cs := fun h => by have := h.lt; omega
end Go.Proofs.YtdmdohjdmnmabaaGreat
