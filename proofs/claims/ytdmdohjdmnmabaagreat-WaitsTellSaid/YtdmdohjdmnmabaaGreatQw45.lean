/- Memory while the document's waits are gathered. Conditions: those of each theorem. -/
import Derived.Test.YtdmdohjdmnmabaaGreatQw26
import Derived.Test.YtdmdohjdmnmabaaGreatQw33
import Derived.Test.YtdmdohjdmnmabaaGreatQw35
import Derived.Test.YtdmdohjdmnmabaaGreatQw37
import Derived.Test.YtdmdohjdmnmabaaGreatQw43
import Derived.Test.YtdmdohjdmnmabaaGreatQw44
import Derived.Test.YtdmdohjdmnmabaaGreatQw23
import Derived.Deep.RegionHeld3
import Derived.Great.BuildSlice
namespace Go.Proofs.YtdmdohjdmnmabaaGreat
open Go.RowKit
set_option linter.unusedVariables false
set_option linter.unusedSimpArgs false

theorem ret_new31 {id : Int} {o : Option LifeM} {w w' : World} {e : Ending} (h : RetNew31 id o w e w') : Below w.heap.size w w' ∧ ∃ A c B d C n c3,
 e = .returned (.tuple #[.agg #[.int .i64 (whoL id o), .int .i64 (lifeO o).script, .int .i64 (lifeO o).start, .slice A (lifeO o).ins.length c, .slice C n c3, .slice B (lifeO o).steps.length d, .string (lifeO o).read, .string (lifeO o).taken, .bool (lifeO o).eof, .int .i64 (lifeO o).status], .bool o.isSome]) ∧
 Rd w' (· < w.heap.size) B (flat encStp (lifeO o).steps) := by
 refine ⟨h.1, ?_⟩
 cases o with
 | none => exact ⟨none, 0, none, 0, none, 0, 0, h.2, Rd.nil⟩
 | some f =>
  obtain ⟨A, c, B, d, C, n, c3, he, h1, h2⟩ := h.2
  exact ⟨A, c, B, d, C, n, c3, he, h2⟩
theorem Tryz.infoRWt : (Tryz.prog.info? 102).map (fun i => (i.zero, i.size, i.bytes)) = some (some (.agg #[.int .i64 0, .int .i64 0, .int .i64 0, .int .i64 0, .bool false, .int .i64 0, .int .i64 0]), 7, 56) := by kernel_rfl
theorem Tryz.infoI35 : (Tryz.prog.info? 3).map (fun i => (i.zero, i.size, i.bytes)) = some (some (.int .i64 0), 1, 8) := by kernel_rfl
theorem Tryz.infoL35 : (Tryz.prog.info? 2).map (fun i => (i.zero, i.size, i.bytes)) = some (some (.int .i64 0), 1, 8) := by kernel_rfl
section
variable {P : Program} {md : Region.Mode} {ops : Array Oper} {Q : Exit → Act → World → Prop} {S : World → Prop}
/-- what may come up: one, two, three operations -/
theorem rdy1 {fuel : Nat} {listed : Array Bool} {a : Act} {w : World} (i : Nat) {oi : Oper} (hr : Region.ready md ops listed = [i]) (hi : ops[i]? = some oi)
 (h1 : ∀ K' : Act → World → Prop, Shut (∀ a w, S w → (S w → wpAnyH P md ops Q S fuel (listed.setIfInBounds i true) a w) → K' a w) → if Region.wanted oi (yielded ops a.tmps) = true then Oper.wp P oi a w K' Q else K' (a.put oi.dst undef) w) : wpAnyH P md ops Q S (fuel + 1) listed a w :=
 wpAnyH_ready hr (by simp) (AllReadyH.cons hi h1 AllReadyH.nil)
theorem rdy2 {fuel : Nat} {listed : Array Bool} {a : Act} {w : World} (i j : Nat) {oi oj : Oper} (hr : Region.ready md ops listed = [i, j]) (hi : ops[i]? = some oi) (hj : ops[j]? = some oj)
 (h1 : ∀ K' : Act → World → Prop, Shut (∀ a w, S w → (S w → wpAnyH P md ops Q S fuel (listed.setIfInBounds i true) a w) → K' a w) → if Region.wanted oi (yielded ops a.tmps) = true then Oper.wp P oi a w K' Q else K' (a.put oi.dst undef) w)
 (h2 : ∀ K' : Act → World → Prop, Shut (∀ a w, S w → (S w → wpAnyH P md ops Q S fuel (listed.setIfInBounds j true) a w) → K' a w) → if Region.wanted oj (yielded ops a.tmps) = true then Oper.wp P oj a w K' Q else K' (a.put oj.dst undef) w) : wpAnyH P md ops Q S (fuel + 1) listed a w :=
 wpAnyH_ready hr (by simp) (AllReadyH.cons hi h1 (AllReadyH.cons hj h2 AllReadyH.nil))
theorem rdy3 {fuel : Nat} {listed : Array Bool} {a : Act} {w : World} (i j k : Nat) {oi oj ok : Oper} (hr : Region.ready md ops listed = [i, j, k]) (hi : ops[i]? = some oi) (hj : ops[j]? = some oj) (hk : ops[k]? = some ok)
 (h1 : ∀ K' : Act → World → Prop, Shut (∀ a w, S w → (S w → wpAnyH P md ops Q S fuel (listed.setIfInBounds i true) a w) → K' a w) → if Region.wanted oi (yielded ops a.tmps) = true then Oper.wp P oi a w K' Q else K' (a.put oi.dst undef) w)
 (h2 : ∀ K' : Act → World → Prop, Shut (∀ a w, S w → (S w → wpAnyH P md ops Q S fuel (listed.setIfInBounds j true) a w) → K' a w) → if Region.wanted oj (yielded ops a.tmps) = true then Oper.wp P oj a w K' Q else K' (a.put oj.dst undef) w)
 (h3 : ∀ K' : Act → World → Prop, Shut (∀ a w, S w → (S w → wpAnyH P md ops Q S fuel (listed.setIfInBounds k true) a w) → K' a w) → if Region.wanted ok (yielded ops a.tmps) = true then Oper.wp P ok a w K' Q else K' (a.put ok.dst undef) w) : wpAnyH P md ops Q S (fuel + 1) listed a w :=
 wpAnyH_ready hr (by simp) (AllReadyH.cons hi h1 (AllReadyH.cons hj h2 (AllReadyH.cons hk h3 AllReadyH.nil)))
/-- a variable takes what a slot holds -/
theorem tkA {fuel : Nat} {listed : Array Bool} {a : Act} {w : World} (i s : Nat) {oi : Oper} (hi : ops[i]? = some oi) (ho : oi.op = .assign (.tmp s)) (hg : oi.guard = none) (hs : Region.noSelect ops = true) (hf : Region.free md ops listed i = true) (hr : (Region.ready md ops listed).contains i = true)
 (hQ : ∀ c b w, Q (.panic c) (b.put oi.dst (a.eval (.tmp s))) w → Q (.panic c) b w) (hS : S w)
 (h : wpAnyH P md ops Q S fuel (listed.setIfInBounds i true) (a.put oi.dst (a.eval (.tmp s))) w) : wpAnyH P md ops Q S (fuel + 1) listed a w :=
 wpAnyH_take hi hs hf hr hQ (Or.inl ⟨by simp [Region.wanted, hg], fun w9 hS9 => by simp [execOp, ho]⟩) hS h
/-- a row of one number is made -/
theorem step_build1 {o : Oper} {a : Act} {w : World} {K : Act → World → Prop} {E : Prop} (hgd : o.guard = none) (x : Operand) (t e : TypeId) (ho : o.op = .buildSlice t 1 #[(0, x)]) (ie : TypeInfo)
 (hu : P.underlying t = some (.slice e)) (hie : P.info? e = some ie) (hz : ie.zero = some (.int .i64 0)) (hs : ie.size = 1) (n : Int) (hx : a.eval x = .int .i64 n)
 (h : ∀ V g, Hid (w.heap.size = g) → Hid (Blk V g e #[.int .i64 n]) → Hid (Below w.heap.size w V) → K (a.put o.dst (.slice (some ⟨g, 0, none⟩) 1 1)) V) :
 if Region.wanted o (yielded ops a.tmps) = true then Oper.wp P o a w K Q else E := by
 have hw : Region.wanted o (yielded ops a.tmps) = true := by simp [Region.wanted, hgd]
 rw [if_pos hw]
 refine wp_buildSlice t e 1 #[(0, x)] ho #[.int .i64 n] ie (.int .i64 0) hu hie hz (by rw [hs]; decide) (by rw [hs]; decide) ?_ (h _ _ (hide rfl) (hide (Blk.new _ _ _)) (hide (below_alloc _ _)))
 rw [hs]
 simp only [List.map_toArray, List.map_cons, List.map_nil, hx]
 first
  | kernel_rfl
  | simp [Instr.fill, Value.cells]
end
theorem own_blk1 {w : World} {g base : Nat} {T : TypeId} {x : Value} (h : Blk w g T #[x]) (hb : base ≤ g) : w.ownsRow base T 1 (.slice (some ⟨g, 0, none⟩) 1 1) 1 [x] :=
 ⟨rfl, Or.inr ⟨g, 1, #[x], rfl, hb, h, Nat.le_refl _, by unfold maxLen; omega, rfl, rfl⟩⟩
theorem Rd.new {w : World} {M : Nat → Prop} {A : Option Addr} {xs : List Value} (h : Rd w M A xs) {M' : Nat → Prop} (hm : ∀ k, k < w.heap.size → M' k → M k) : Rd w M' A xs := by
 rcases h with h | ⟨b, o, hA, hn, hb, hc⟩
 ·exact Or.inl h
 ·exact Or.inr ⟨b, o, hA, fun h => hn (hm b hb h), hb, hc⟩
theorem Blk.seven35 {w : World} {g : Nat} {t : TypeId} {b0 b1 b2 b3 b4 b5 b6 : Value} (h : Blk w g t #[b0, b1, b2, b3, b4, b5, b6]) : w.cell? ⟨g, 0, none⟩ = some b0 ∧ w.cell? ⟨g, 1, none⟩ = some b1 ∧ w.cell? ⟨g, 2, none⟩ = some b2 ∧ w.cell? ⟨g, 3, none⟩ = some b3 ∧ w.cell? ⟨g, 4, none⟩ = some b4 ∧ w.cell? ⟨g, 5, none⟩ = some b5 ∧ w.cell? ⟨g, 6, none⟩ = some b6 := by
 refine ⟨?_, ?_, ?_, ?_, ?_, ?_, ?_⟩ <;> (rw [h.cell]; rfl)
/-- the three rows of places -/
structure AWB (W V : World) (av wv bv : Value) (xs ys zs : List Int) : Prop where
 o : Below W.heap.size W V
 a : V.ownsRow W.heap.size 3 1 av xs.length (flat encI xs)
 w : V.ownsRow W.heap.size 2 1 wv ys.length (flat encI ys)
 b : V.ownsRow W.heap.size 3 1 bv zs.length (flat encI zs)
 d : ∀ g, av.ownBlock = some g → bv.ownBlock ≠ some g
section
variable {W V V' : World} {av wv bv v' : Value} {xs ys zs : List Int} {x : Int}
theorem own_row1 {n : Nat} {xs : List Int} {x : Int} {T : TypeId} {B : Nat} (h : V'.ownsRow B T 1 v' (n + 1) (flat encI xs ++ [.int .i64 x])) (hn : n = xs.length) : V'.ownsRow B T 1 v' (xs ++ [x]).length (flat encI (xs ++ [x])) := by
 subst hn
 have e : flat encI (xs ++ [x]) = flat encI xs ++ [.int .i64 x] := by simp [flat, encI]
 rw [e, List.length_append]
 exact h
theorem own_bel {base size n : Nat} {e : TypeId} {v : Value} {l : List Value} (h : V.ownsRow base e size v n l) (k : Below V.heap.size V V') : V'.ownsRow base e size v n l := own_only h (Only.of_below k NoBlk) (fun _ _ h => h.elim)
theorem AWB.below (h : AWB W V av wv bv xs ys zs) (k : Below V.heap.size V V') : AWB W V' av wv bv xs ys zs :=
 ⟨h.o.trans (k.mono h.o.size), own_bel h.a k, own_bel h.w k, own_bel h.b k, h.d⟩
theorem own_apart {base base' size size' n n' : Nat} {e e' : TypeId} {v v1 : Value} {l l' : List Value} (h : V.ownsRow base e size v n l) (hg : V.grownBy V' v1.ownBlock) (hd : ∀ g, v.ownBlock = some g → v1.ownBlock ≠ some g) : V'.ownsRow base e size v n l := by
 obtain ⟨hl, h2⟩ := h
 refine ⟨hl, ?_⟩
 rcases h2 with ⟨hv, hn⟩ | ⟨g, cap, cur, hv, hb, hh, r⟩
 ·exact Or.inl ⟨hv, hn⟩
 ·exact Or.inr ⟨g, cap, cur, hv, hb, (hg.block g (Blk.lt (t := e) (cs := cur) hh) (fun e => hd g (by subst hv; rfl) e.symm)).trans hh, r⟩
theorem AWB.growA (h : AWB W V av wv bv xs ys zs) (hg : V.grownBy V' av.ownBlock) (ho : V'.ownsRow W.heap.size 3 1 v' (xs.length + 1) (flat encI xs ++ [.int .i64 x])) (how : v'.ownBlock = av.ownBlock ∨ v'.ownBlock = some V.heap.size) : AWB W V' v' wv bv (xs ++ [x]) ys zs := by
 refine ⟨h.o.grown hg h.o.size (fun k hk => own_ge h.a k hk), own_row1 ho rfl, own_grown h.w h.a (by decide) hg, own_apart (base' := 0) (size' := 0) (n' := 0) (e' := 0) (l' := []) h.b hg (fun g hg1 hg2 => h.d g hg2 hg1), fun g hg1 hg2 => ?_⟩
 rcases how with e | e
 ·exact h.d g (e ▸ hg1) hg2
 ·rw [e] at hg1
  injection hg1 with hg1
  have := own_ltF h.b g hg2
  omega
theorem AWB.growW (h : AWB W V av wv bv xs ys zs) (hg : V.grownBy V' wv.ownBlock) (ho : V'.ownsRow W.heap.size 2 1 v' (ys.length + 1) (flat encI ys ++ [.int .i64 x])) : AWB W V' av v' bv xs (ys ++ [x]) zs :=
 ⟨h.o.grown hg h.o.size (fun k hk => own_ge h.w k hk), own_grown h.a h.w (by decide) hg, own_row1 ho rfl, own_grown h.b h.w (by decide) hg, h.d⟩
theorem AWB.growB (h : AWB W V av wv bv xs ys zs) (hg : V.grownBy V' bv.ownBlock) (ho : V'.ownsRow W.heap.size 3 1 v' (zs.length + 1) (flat encI zs ++ [.int .i64 x])) (how : v'.ownBlock = bv.ownBlock ∨ v'.ownBlock = some V.heap.size) : AWB W V' av wv v' xs ys (zs ++ [x]) := by
 refine ⟨h.o.grown hg h.o.size (fun k hk => own_ge h.b k hk), own_apart (base' := 0) (size' := 0) (n' := 0) (e' := 0) (l' := []) h.a hg h.d, own_grown h.w h.b (by decide) hg, own_row1 ho rfl, fun g hg1 hg2 => ?_⟩
 rcases how with e | e
 ·exact h.d g hg1 (e ▸ hg2)
 ·rw [e] at hg2
  injection hg2 with hg2
  have := own_ltF h.a g hg1
  omega
/-- a block that was made behind the row stays when the row grows -/
theorem Blk.beside {g : Nat} {t : TypeId} {cs : Array Value} {v : Value} (h : Blk V g t cs) (hn : ∀ k, v.ownBlock = some k → k ≠ g) (hg : V.grownBy V' v.ownBlock) : Blk V' g t cs :=
 (hg.block g h.lt (fun e => hn g e.symm rfl)).trans h
end
/-- where the round over the places stands -/
structure JS35 (w : World) (M1 : Nat → Prop) (zs xg pg : Nat) (LV PV : Array Value) (IA : Option Addr) (ids : List Int) (LB : Option Addr) (S : List Stp) (AA WA BA : Option Addr) (xs ys bs : List Int) (wr : World) (ov : Value) (out : List WtM) : Prop where
 bel : Below w.heap.size w wr
 lf : Blk wr xg 92 LV
 pr : Blk wr pg 24 PV
 idr : Rd wr M1 IA (flat encI ids)
 st : Rd wr (fun k => ov.ownBlock = some k) LB (flat encStp S)
 ra : Rd wr (fun k => ov.ownBlock = some k) AA (flat encI xs)
 rw_ : Rd wr (fun k => ov.ownBlock = some k) WA (flat encI ys)
 rb : Rd wr (fun k => ov.ownBlock = some k) BA (flat encI bs)
 oo : wr.ownsRow w.heap.size 102 7 ov out.length (flat encWt out)
 om : ∀ k, ov.ownBlock = some k → M1 k
 sz : zs ≤ wr.heap.size
section
variable {w wr w' : World} {M1 : Nat → Prop} {zs xg pg : Nat} {LV PV : Array Value} {IA : Option Addr} {ids : List Int} {LB : Option Addr} {S : List Stp} {AA WA BA : Option Addr} {xs ys bs : List Int} {ov v' : Value} {out : List WtM} {x : WtM}
theorem JS35.below (h : JS35 w M1 zs xg pg LV PV IA ids LB S AA WA BA xs ys bs wr ov out) (k : Below wr.heap.size wr w') : JS35 w M1 zs xg pg LV PV IA ids LB S AA WA BA xs ys bs w' ov out :=
 ⟨h.bel.trans (k.mono h.bel.size), h.lf.below k, h.pr.below k, h.idr.below k, h.st.below k, h.ra.below k, h.rw_.below k, h.rb.below k, own_bel h.oo k, h.om, Nat.le_trans h.sz k.size⟩
theorem rd_grow {M : Nat → Prop} {A : Option Addr} {l : List Value} (h : Rd wr (fun k => ov.ownBlock = some k) A l) (hg : wr.grownBy w' ov.ownBlock) (how : v'.ownBlock = ov.ownBlock ∨ v'.ownBlock = some wr.heap.size) : Rd w' (fun k => v'.ownBlock = some k) A l := by
 have h1 : Rd wr (fun k => v'.ownBlock = some k ∨ ov.ownBlock = some k) A l := h.new (fun k hk h2 => by
  rcases h2 with h2 | h2
  ·rcases how with e | e
   ·exact e ▸ h2
   ·rw [e] at h2
    injection h2 with h2
    omega
  ·exact h2)
 have h2 : Only (fun k => ov.ownBlock = some k) wr w' := (Only.refl _ wr).grown hg (fun k hk => Or.inl hk)
 exact (h1.only h2 (fun b hb => Or.inr hb)).mono (fun b hb => Or.inl hb)
theorem JS35.grow (h : JS35 w M1 zs xg pg LV PV IA ids LB S AA WA BA xs ys bs wr ov out) (hM : ∀ k, zs ≤ k → M1 k) (hg : wr.grownBy w' ov.ownBlock) (ho : w'.ownsRow w.heap.size 102 7 v' (out.length + 1) (flat encWt out ++ encWt x)) (how : v'.ownBlock = ov.ownBlock ∨ v'.ownBlock = some wr.heap.size) :
 JS35 w M1 zs xg pg LV PV IA ids LB S AA WA BA xs ys bs w' v' (out ++ [x]) := by
 have e : flat encWt (out ++ [x]) = flat encWt out ++ encWt x := by simp [flat]
 refine ⟨h.bel.grown hg h.bel.size (fun k hk => own_ge h.oo k hk), h.lf.grown h.oo (by decide) hg, h.pr.grown h.oo (by decide) hg, h.idr.only ((Only.refl M1 wr).grown hg (fun k hk => Or.inl (h.om k hk))) (fun _ h => h), rd_grow (M := M1) h.st hg how, rd_grow (M := M1) h.ra hg how, rd_grow (M := M1) h.rw_ hg how, rd_grow (M := M1) h.rb hg how, ?_, fun k hk => ?_, Nat.le_trans h.sz hg.size⟩
 ·rw [e, List.length_append]; exact ho
 ·rcases how with e | e
  ·exact h.om k (e ▸ hk)
  ·rw [e] at hk
   injection hk with hk
   have := h.sz
   exact hM k (by omega)
end
/-- a step's cells -/
theorem stp35_cells {w : World} {M : Nat → Prop} {A : Option Addr} {S : List Stp} (hr : Rd w M A (flat encStp S)) (k : Nat) (hk : k < S.length) : ∃ b o, A = some ⟨b, o, none⟩ ∧ b < w.heap.size ∧
 w.cell? ⟨b, o + k * 6, none⟩ = some (.int .i64 (stAt S k).tick) ∧ w.cell? ⟨b, o + k * 6 + 1, none⟩ = some (.int .i64 (stAt S k).at_) ∧ w.cell? ⟨b, o + k * 6 + 2, none⟩ = some (.int .i64 (stAt S k).what) ∧ w.cell? ⟨b, o + k * 6 + 3, none⟩ = some (.int .i64 (stAt S k).arm) ∧ w.cell? ⟨b, o + k * 6 + 4, none⟩ = some (.int .i64 (stAt S k).n) ∧ w.cell? ⟨b, o + k * 6 + 5, none⟩ = some (.int .i64 (stAt S k).status) := by
 obtain ⟨b, o, hA, hm, hb, hc⟩ := flat_cells encStp_len hr k (stAt S k) (by simp [stAt, List.getD, hk]) (by omega)
 exact ⟨b, o, hA, hb, hc 0 (by omega), hc 1 (by omega), hc 2 (by omega), hc 3 (by omega), hc 4 (by omega), hc 5 (by omega)⟩
end Go.Proofs.YtdmdohjdmnmabaaGreat
