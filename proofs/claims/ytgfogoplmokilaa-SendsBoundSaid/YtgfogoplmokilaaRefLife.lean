/- The page's life of one: memory, and the plain steps. Conditions: those of each theorem. -/
import Derived.Test.YtgfogoplmokilaaRoundsW
namespace Go.Proofs.Ytgfogoplmokilaa
open Go.RowKit
set_option linter.unusedVariables false

theorem lifeGo_succ (id : Int) (l : List Ev) (k : Nat) (h : k < l.length) : lifeGo id 0 (l.take (k + 1)) = match lifeGo id 0 (l.take k) with
    | some f => some (addL id f (evAt l k))
    | none => if opens id (evAt l k) then some (life0 (evAt l k).n (clockOf 0 (l.take k))) else none := by
  have e : evAt l k = l[k] := by simp [evAt, List.getD, h]
  rw [List.take_succ_eq_append_getElem h, ← e]
  generalize evAt l k = x
  generalize l.take k = p
  have key : ∀ (p : List Ev) (c : Int), lifeGo id c (p ++ [x]) = match lifeGo id c p with
      | some f => some (addL id f x)
      | none => if opens id x then some (life0 x.n (clockOf c p)) else none := by
    intro p
    induction p with
    | nil =>
      intro c
      show lifeGo id c [x] = _
      unfold lifeGo
      by_cases ho : opens id x = true
      · rw [if_pos ho]; simp [ho, clockOf]
      · rw [if_neg ho]; simp [ho, lifeGo]
    | cons y r ih =>
      intro c
      show lifeGo id c (y :: (r ++ [x])) = _
      unfold lifeGo
      by_cases ho : opens id y = true
      · rw [if_pos ho, if_pos ho]
        simp [List.foldl_append]
      · rw [if_neg ho, if_neg ho, ih]
        rfl
  exact key p 0
/-- A life that is under way: its block shows cs; its three rows are the call's own. -/
structure MidR (w : World) (base F : Nat) (cs : Array Value) (vi : Value) (ni : Nat) (xi : List Value) (vw : Value) (nw : Nat) (xw : List Value) (vs : Value) (ns : Nat) (xs : List Value) : Prop where
  blk : Blk w F 32 cs
  oi : w.ownsRow base 76 4 vi ni xi
  ow : w.ownsRow base 78 9 vw nw xw
  os : w.ownsRow base 45 6 vs ns xs
section
variable {w w' : World} {base F : Nat} {cs : Array Value} {vi vw vs v' : Value} {ni nw ns n' : Nat} {xi xw xs x' : List Value}
theorem MidR.only (h : MidR w base F cs vi ni xi vw nw xw vs ns xs) (k : Only NoBlk w w') : MidR w' base F cs vi ni xi vw nw xw vs ns xs :=
  ⟨h.blk.only k (fun h => h), own_only h.oi k (fun _ _ h => h.elim), own_only h.ow k (fun _ _ h => h.elim), own_only h.os k (fun _ _ h => h.elim)⟩
theorem MidR.alloc (h : MidR w base F cs vi ni xi vw nw xw vs ns xs) (o : Obj) : MidR (w.alloc o) base F cs vi ni xi vw nw xw vs ns xs := h.only ((Only.refl NoBlk _).alloc o)
theorem MidR.drew (h : MidR w base F cs vi ni xi vw nw xw vs ns xs) : MidR w.drew base F cs vi ni xi vw nw xw vs ns xs := h.only (Only.refl NoBlk _).drew
theorem MidR.drewN (h : MidR w base F cs vi ni xi vw nw xw vs ns xs) (n : Nat) : MidR (w.drewN n) base F cs vi ni xi vw nw xw vs ns xs := h.only ((Only.refl NoBlk _).drewN n)
theorem MidR.growI (h : MidR w base F cs vi ni xi vw nw xw vs ns xs) (hg : w.grownBy w' vi.ownBlock) (ho : w'.ownsRow base 76 4 v' n' x') : MidR w' base F cs v' n' x' vw nw xw vs ns xs :=
  ⟨h.blk.grown h.oi (by decide) hg, ho, own_grown h.ow h.oi (by decide) hg, own_grown h.os h.oi (by decide) hg⟩
theorem MidR.growW (h : MidR w base F cs vi ni xi vw nw xw vs ns xs) (hg : w.grownBy w' vw.ownBlock) (ho : w'.ownsRow base 78 9 v' n' x') : MidR w' base F cs vi ni xi v' n' x' vs ns xs :=
  ⟨h.blk.grown h.ow (by decide) hg, own_grown h.oi h.ow (by decide) hg, ho, own_grown h.os h.ow (by decide) hg⟩
theorem MidR.growS (h : MidR w base F cs vi ni xi vw nw xw vs ns xs) (hg : w.grownBy w' vs.ownBlock) (ho : w'.ownsRow base 45 6 v' n' x') : MidR w' base F cs vi ni xi vw nw xw v' n' x' :=
  ⟨h.blk.grown h.os (by decide) hg, own_grown h.oi h.os (by decide) hg, own_grown h.ow h.os (by decide) hg, ho⟩
theorem MidR.set_ (h : MidR w base F cs vi ni xi vw nw xw vs ns xs) (i : Nat) (u : Value) : MidR (w.setCell ⟨F, i, none⟩ u) base F (cs.setIfInBounds i u) vi ni xi vw nw xw vs ns xs := by
  have k := only_set w F i u
  have nt : ∀ (t : TypeId), t ≠ 32 → ∀ g cs, g = F → ¬ Blk w g t cs := by
    intro t ht g cs hg hx
    subst hg
    exact Blk.ne_ hx h.blk ht rfl
  exact ⟨h.blk.set_ i u, own_only h.oi k (nt _ (by decide)), own_only h.ow k (nt _ (by decide)), own_only h.os k (nt _ (by decide))⟩
/-- a block of another type than the rows' -/
theorem Blk.growI {g : Nat} {t : TypeId} {cx : Array Value} (hb : Blk w g t cx) (h : MidR w base F cs vi ni xi vw nw xw vs ns xs) (hg : w.grownBy w' vi.ownBlock) (ht : t ≠ 76) : Blk w' g t cx := hb.grown h.oi ht hg
theorem Blk.growW {g : Nat} {t : TypeId} {cx : Array Value} (hb : Blk w g t cx) (h : MidR w base F cs vi ni xi vw nw xw vs ns xs) (hg : w.grownBy w' vw.ownBlock) (ht : t ≠ 78) : Blk w' g t cx := hb.grown h.ow ht hg
end
/-- the block of a life -/
abbrev lifeV (id : Int) (f : LifeM) (vi vw vs : Value) : Array Value := #[.int .i64 id, .int .i64 f.script, .int .i64 f.start, vi, vw, vs, .string f.read, .string f.taken, .bool f.eof, .int .i64 f.status]
abbrev zeroV : Array Value := #[.int .i64 0, .int .i64 0, .int .i64 0, .slice none 0 0, .slice none 0 0, .slice none 0 0, .string ⟨#[]⟩, .string ⟨#[]⟩, .bool false, .int .i64 0]
/-- the page's life of one, under way -/
structure RLAt (w : World) (base F : Nat) (id : Int) (f : LifeM) : Prop where
  ex : ∃ vi vw vs xw, MidR w base F (lifeV id f vi vw vs) vi f.ins.length (flat encInp f.ins) vw f.ins.length xw vs f.steps.length (flat encStp f.steps)
  hF : base ≤ F
theorem RLAt.only {w w' : World} {base F : Nat} {id : Int} {f : LifeM} (h : RLAt w base F id f) (k : Only NoBlk w w') : RLAt w' base F id f := by
  obtain ⟨vi, vw, vs, xw, hm⟩ := h.ex
  exact ⟨⟨vi, vw, vs, xw, hm.only k⟩, h.hF⟩
theorem Blk.ten {w : World} {g : Nat} {t : TypeId} {a b c d e f h i j k : Value} (hb : Blk w g t #[a, b, c, d, e, f, h, i, j, k]) :
    (w.cell? ⟨g, 0, none⟩ = some a ∧ w.cell? ⟨g, 1, none⟩ = some b ∧ w.cell? ⟨g, 2, none⟩ = some c ∧ w.cell? ⟨g, 3, none⟩ = some d ∧ w.cell? ⟨g, 4, none⟩ = some e ∧ w.cell? ⟨g, 5, none⟩ = some f ∧ w.cell? ⟨g, 6, none⟩ = some h ∧ w.cell? ⟨g, 7, none⟩ = some i ∧ w.cell? ⟨g, 8, none⟩ = some j ∧ w.cell? ⟨g, 9, none⟩ = some k) ∧
    (w.frozen? ⟨g, 0, none⟩ = false ∧ w.frozen? ⟨g, 1, none⟩ = false ∧ w.frozen? ⟨g, 2, none⟩ = false ∧ w.frozen? ⟨g, 3, none⟩ = false ∧ w.frozen? ⟨g, 4, none⟩ = false ∧ w.frozen? ⟨g, 5, none⟩ = false ∧ w.frozen? ⟨g, 6, none⟩ = false ∧ w.frozen? ⟨g, 7, none⟩ = false ∧ w.frozen? ⟨g, 8, none⟩ = false ∧ w.frozen? ⟨g, 9, none⟩ = false) :=
  ⟨⟨by rw [hb.cell]; rfl, by rw [hb.cell]; rfl, by rw [hb.cell]; rfl, by rw [hb.cell]; rfl, by rw [hb.cell]; rfl, by rw [hb.cell]; rfl, by rw [hb.cell]; rfl, by rw [hb.cell]; rfl, by rw [hb.cell]; rfl, by rw [hb.cell]; rfl⟩,
   hb.frozen 0, hb.frozen 1, hb.frozen 2, hb.frozen 3, hb.frozen 4, hb.frozen 5, hb.frozen 6, hb.frozen 7, hb.frozen 8, hb.frozen 9⟩
theorem Try.infoOut23 : (Try.prog.info? 78).map (fun i => (i.zero, i.size, i.bytes)) = some (some (.agg #[.int .i64 0, .string ⟨#[]⟩, .int .i64 0, .int .i64 0, .int .i64 0, .int .i64 0, .int .i64 0, .int .i64 0, .bool false]), 9, 80) := by kernel_rfl
end Go.Proofs.Ytgfogoplmokilaa
