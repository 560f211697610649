/- An event added to a life. Conditions: those of each theorem. -/
import Derived.Test.YtdmdohjdmnmabaaGreatQw04
namespace Go.Proofs.YtdmdohjdmnmabaaGreat
open Go.RowKit
set_option linter.unusedVariables false

theorem own_only {S : Nat → Prop} {w w' : World} {base size n : Nat} {e : TypeId} {v : Value} {xs : List Value} (h : w.ownsRow base e size v n xs) (k : Only S w w') (hS : ∀ g cs, S g → ¬ Blk w g e cs) : w'.ownsRow base e size v n xs := by
 obtain ⟨hl, h2⟩ := h
 refine ⟨hl, ?_⟩
 rcases h2 with ⟨hv, hn⟩ | ⟨g, cap, cur, hv, hb, hh, r⟩
 ·exact Or.inl ⟨hv, hn⟩
 ·refine Or.inr ⟨g, cap, cur, hv, hb, ?_, r⟩
  have hlt : g < w.heap.size := Blk.lt (t := e) (cs := cur) hh
  rw [k.block g hlt (fun hs => hS g cur hs hh)]
  exact hh
structure LifeAt (w : World) (base F Wn : Nat) (id : Int) (f : LifeM) : Prop where
 own : ∃ vi vs, Blk w F 118 #[.int .i64 id, .int .i64 f.script, .int .i64 f.start, vi, vs, .string f.read, .string f.taken, .bool f.eof, .int .i64 f.status] ∧
  w.ownsRow base 137 4 vi f.ins.length (flat encInp f.ins) ∧ w.ownsRow base 26 6 vs f.steps.length (flat encStp f.steps)
 want : ∃ vw xs, Blk w Wn 165 #[vw] ∧ w.ownsRow base 197 9 vw f.ins.length xs
 hF : base ≤ F
 hW : base ≤ Wn
theorem Blk.nine {w : World} {g : Nat} {t : TypeId} {a b c d e f h i j : Value} (hb : Blk w g t #[a, b, c, d, e, f, h, i, j]) :
 (w.cell? ⟨g, 0, none⟩ = some a ∧ w.cell? ⟨g, 1, none⟩ = some b ∧ w.cell? ⟨g, 2, none⟩ = some c ∧ w.cell? ⟨g, 3, none⟩ = some d ∧ w.cell? ⟨g, 4, none⟩ = some e ∧ w.cell? ⟨g, 5, none⟩ = some f ∧ w.cell? ⟨g, 6, none⟩ = some h ∧ w.cell? ⟨g, 7, none⟩ = some i ∧ w.cell? ⟨g, 8, none⟩ = some j) ∧
 (w.frozen? ⟨g, 0, none⟩ = false ∧ w.frozen? ⟨g, 1, none⟩ = false ∧ w.frozen? ⟨g, 2, none⟩ = false ∧ w.frozen? ⟨g, 3, none⟩ = false ∧ w.frozen? ⟨g, 4, none⟩ = false ∧ w.frozen? ⟨g, 5, none⟩ = false ∧ w.frozen? ⟨g, 6, none⟩ = false ∧ w.frozen? ⟨g, 7, none⟩ = false ∧ w.frozen? ⟨g, 8, none⟩ = false) :=
 ⟨⟨by rw [hb.cell]; rfl, by rw [hb.cell]; rfl, by rw [hb.cell]; rfl, by rw [hb.cell]; rfl, by rw [hb.cell]; rfl, by rw [hb.cell]; rfl, by rw [hb.cell]; rfl, by rw [hb.cell]; rfl, by rw [hb.cell]; rfl⟩,
  hb.frozen 0, hb.frozen 1, hb.frozen 2, hb.frozen 3, hb.frozen 4, hb.frozen 5, hb.frozen 6, hb.frozen 7, hb.frozen 8⟩
theorem Blk.fourF {w : World} {g : Nat} {t : TypeId} {a b c d : Value} (hb : Blk w g t #[a, b, c, d]) :
 (w.cell? ⟨g, 0, none⟩ = some a ∧ w.cell? ⟨g, 1, none⟩ = some b ∧ w.cell? ⟨g, 2, none⟩ = some c ∧ w.cell? ⟨g, 3, none⟩ = some d) ∧ (w.frozen? ⟨g, 0, none⟩ = false ∧ w.frozen? ⟨g, 1, none⟩ = false ∧ w.frozen? ⟨g, 2, none⟩ = false ∧ w.frozen? ⟨g, 3, none⟩ = false) :=
 ⟨⟨by rw [hb.cell]; rfl, by rw [hb.cell]; rfl, by rw [hb.cell]; rfl, by rw [hb.cell]; rfl⟩, hb.frozen 0, hb.frozen 1, hb.frozen 2, hb.frozen 3⟩
theorem Blk.twelve {w : World} {g : Nat} {t : TypeId} {a b c d e f h i j k l m : Value} (hb : Blk w g t #[a, b, c, d, e, f, h, i, j, k, l, m]) :
 w.cell? ⟨g, 0, none⟩ = some a ∧ w.cell? ⟨g, 1, none⟩ = some b ∧ w.cell? ⟨g, 2, none⟩ = some c ∧ w.cell? ⟨g, 3, none⟩ = some d ∧ w.cell? ⟨g, 4, none⟩ = some e ∧ w.cell? ⟨g, 5, none⟩ = some f ∧ w.cell? ⟨g, 6, none⟩ = some h ∧ w.cell? ⟨g, 7, none⟩ = some i ∧ w.cell? ⟨g, 8, none⟩ = some j ∧ w.cell? ⟨g, 9, none⟩ = some k ∧ w.cell? ⟨g, 10, none⟩ = some l ∧ w.cell? ⟨g, 11, none⟩ = some m :=
 ⟨by rw [hb.cell]; rfl, by rw [hb.cell]; rfl, by rw [hb.cell]; rfl, by rw [hb.cell]; rfl, by rw [hb.cell]; rfl, by rw [hb.cell]; rfl, by rw [hb.cell]; rfl, by rw [hb.cell]; rfl, by rw [hb.cell]; rfl, by rw [hb.cell]; rfl, by rw [hb.cell]; rfl, by rw [hb.cell]; rfl⟩
section
variable {w w' : World} {base F Wn : Nat} {id : Int} {f f' : LifeM}
/-- fields of it alone changed -/
theorem LifeAt.upd {vi vs : Value} (h : LifeAt w base F Wn id f) (k : Only (· = F) w w') (hb0 : Blk w F 118 #[.int .i64 id, .int .i64 f.script, .int .i64 f.start, vi, vs, .string f.read, .string f.taken, .bool f.eof, .int .i64 f.status])
 (hi : w.ownsRow base 137 4 vi f.ins.length (flat encInp f.ins)) (hs : w.ownsRow base 26 6 vs f.steps.length (flat encStp f.steps))
 (hb : Blk w' F 118 #[.int .i64 id, .int .i64 f'.script, .int .i64 f'.start, vi, vs, .string f'.read, .string f'.taken, .bool f'.eof, .int .i64 f'.status]) (ei : f'.ins = f.ins) (es : f'.steps = f.steps) : LifeAt w' base F Wn id f' := by
 have nt : ∀ (t : TypeId), t ≠ 118 → ∀ g cs, g = F → ¬ Blk w g t cs := by
  intro t ht g cs hg hx
  subst hg
  exact Blk.ne_ hx hb0 ht rfl
 obtain ⟨vw, xs, hw, how⟩ := h.want
 refine ⟨⟨vi, vs, hb, ?_, ?_⟩, ⟨vw, xs, ?_, ?_⟩, h.hF, h.hW⟩
 ·rw [ei]; exact own_only hi k (nt _ (by decide))
 ·rw [es]; exact own_only hs k (nt _ (by decide))
 ·exact hw.only k (fun e => nt _ (by decide) _ _ e hw)
 ·rw [ei]; exact own_only how k (nt _ (by decide))
end
abbrev outV (n : Int) (s : ByteArray) (t : Stp) (d : Bool) : List Value := [.int .i64 n, .string s, .int .i64 t.tick, .int .i64 t.at_, .int .i64 t.what, .int .i64 t.arm, .int .i64 t.n, .int .i64 t.status, .bool d]
theorem outV_one (n : Int) (s : ByteArray) (t : Stp) (d : Bool) : ∀ u ∈ outV n s t d, u.oneCell' = true := by
 intro u hu
 simp [outV] at hu
 rcases hu with rfl | rfl | rfl | rfl | rfl | rfl | rfl | rfl | rfl <;> rfl
abbrev st0 : Stp := ⟨0, 0, 0, 0, 0, 0⟩
theorem encInp_one (x : Inp) : ∀ u ∈ encInp x, u.oneCell' = true := by
 intro u hu
 simp [encInp] at hu
 rcases hu with rfl | rfl | rfl | rfl <;> rfl
theorem encStp_one (x : Stp) : ∀ u ∈ encStp x, u.oneCell' = true := by
 intro u hu
 simp [encStp] at hu
 rcases hu with rfl | rfl | rfl | rfl | rfl | rfl <;> rfl
theorem Blk.grown {w w1 : World} {g base size n : Nat} {t e : TypeId} {cs : Array Value} {v : Value} {xs : List Value} (h : Blk w g t cs) (hown : w.ownsRow base e size v n xs) (hne : t ≠ e) (hg : w.grownBy w1 v.ownBlock) : Blk w1 g t cs := by
 refine (hg.block g h.lt (fun ho => ?_)).trans h
 rcases hown.2 with ⟨hv, _⟩ | ⟨g', cap, cur, hv, _, hh, _⟩
 ·subst hv; simp [Value.ownBlock] at ho
 ·subst hv
  simp [Value.ownBlock] at ho
  subst ho
  exact Blk.ne_ (g' := g) h hh hne rfl
theorem own_grown {w w1 : World} {base base' size size' n n' : Nat} {e e' : TypeId} {v v' : Value} {xs xs' : List Value} (h : w.ownsRow base e size v n xs) (hown : w.ownsRow base' e' size' v' n' xs') (hne : e ≠ e') (hg : w.grownBy w1 v'.ownBlock) : w1.ownsRow base e size v n xs := by
 obtain ⟨hl, h2⟩ := h
 refine ⟨hl, ?_⟩
 rcases h2 with ⟨hv, hn⟩ | ⟨g, cap, cur, hv, hb, hh, r⟩
 ·exact Or.inl ⟨hv, hn⟩
 ·exact Or.inr ⟨g, cap, cur, hv, hb, Blk.grown (t := e) (cs := cur) hh hown hne hg, r⟩
theorem below_grown {B : Nat} {w0 w w1 : World} {base size n : Nat} {e : TypeId} {v : Value} {xs : List Value} (h : Below B w0 w) (hown : w.ownsRow base e size v n xs) (hB : B ≤ w.heap.size) (hb : B ≤ base) (hg : w.grownBy w1 v.ownBlock) : Below B w0 w1 :=
 h.grown hg hB (fun k hk => by have := own_ge hown k hk; omega)
theorem LifeAt.same {w w' : World} {base F Wn : Nat} {id : Int} {f : LifeM} (h : LifeAt w base F Wn id f) (k : Only NoBlk w w') : LifeAt w' base F Wn id f := by
 obtain ⟨vi, vs, h1, h2, h3⟩ := h.own
 exact h.upd (k.mono fun _ _ h => h.elim) h1 h2 h3 (h1.only k (fun h => h)) rfl rfl
theorem below_drewN' {B : Nat} {w0 w : World} (h : Below B w0 w) (n : Nat) : Below B w0 (w.drewN n) := ⟨h.os, h.tape, h.output, h.size, h.block⟩
/-- where the switch of 'add' ends -/
structure MidAt (w wx : World) (base F Wn : Nat) (id : Int) (f : LifeM) (x : Ev) : Prop where
 ex : ∃ (inp : Inp) (f' : LifeM) (O : List Value), LifeAt wx base F Wn id f' ∧ Blk wx (w.heap.size + 1) 137 (encInp inp).toArray ∧ Blk wx (w.heap.size + 1 + 1) 197 O.toArray ∧ O.length = 9 ∧ (∀ u ∈ O, u.oneCell' = true) ∧
  Below base w wx ∧ addL id f x = { f' with ins := f'.ins ++ [inp] } ∧ f'.ins = f.ins
theorem mid_of {w wx : World} {base F Wn : Nat} {id : Int} {f f' : LifeM} {x : Ev} {vi vs : Value} {inp : Inp} {O : List Value} (h : LifeAt w base F Wn id f)
 (hb0 : Blk w F 118 #[.int .i64 id, .int .i64 f.script, .int .i64 f.start, vi, vs, .string f.read, .string f.taken, .bool f.eof, .int .i64 f.status])
 (hi : w.ownsRow base 137 4 vi f.ins.length (flat encInp f.ins)) (hs : w.ownsRow base 26 6 vs f.steps.length (flat encStp f.steps))
 (hF : Blk wx F 118 #[.int .i64 id, .int .i64 f'.script, .int .i64 f'.start, vi, vs, .string f'.read, .string f'.taken, .bool f'.eof, .int .i64 f'.status])
 (hI : Blk wx (w.heap.size + 1) 137 (encInp inp).toArray) (hO : Blk wx (w.heap.size + 1 + 1) 197 O.toArray) (h9 : O.length = 9) (h1 : ∀ u ∈ O, u.oneCell' = true)
 (ko : Only (· = F) w wx) (kb : Below base w wx) (ha : addL id f x = { f' with ins := f'.ins ++ [inp] }) (ei : f'.ins = f.ins) (es : f'.steps = f.steps) : MidAt w wx base F Wn id f x :=
 ⟨inp, f', O, h.upd ko hb0 hi hs hF ei es, hI, hO, h9, h1, kb, ha, ei⟩
/-- behind the append of a step -/
structure Aft16 (w W3 : World) (base F : Nat) (id : Int) (f : LifeM) (x : Ev) (vi vs : Value) : Prop where
 ex : ∃ (WA w2 : World) (v2 : Value) (cF cI cO : Array Value), Only NoBlk w WA ∧ WA.grownBy w2 vs.ownBlock ∧ w2.ownsRow base 26 6 v2 (f.steps.length + 1) (flat encStp f.steps ++ encStp x.st) ∧
  Blk w2 F 118 cF ∧ Blk w2 (w.heap.size + 1) 137 cI ∧ Blk w2 (w.heap.size + 1 + 1) 197 cO ∧ Only (fun k => k = F ∨ k = w.heap.size + 1 ∨ k = w.heap.size + 1 + 1) w2 W3 ∧
  Blk W3 F 118 #[.int .i64 id, .int .i64 f.script, .int .i64 f.start, vi, v2, .string f.read, .string f.taken, .bool f.eof, .int .i64 x.st.status] ∧
  Blk W3 w.heap.size 82 #[.int .i64 x.k, .int .i64 x.id, .int .i64 x.n, .int .i64 x.tick, .string x.s, .int .i64 x.err, .int .i64 x.st.tick, .int .i64 x.st.at_, .int .i64 x.st.what, .int .i64 x.st.arm, .int .i64 x.st.n, .int .i64 x.st.status] ∧
  Blk W3 (w.heap.size + 1) 137 #[.int .i64 0, .string ⟨#[]⟩, .int .i64 0, .int .i64 0] ∧
  Blk W3 (w.heap.size + 1 + 1) 197 #[.int .i64 0, .string ⟨#[]⟩, .int .i64 0, .int .i64 0, .int .i64 0, .int .i64 0, .int .i64 0, .int .i64 0, .bool false] ∧ Below base w W3
theorem mid8 {w WA w2 wx : World} {base F Wn : Nat} {id : Int} {f : LifeM} {x : Ev} {vi vs v2 : Value} {inp : Inp} {O : List Value} {cF cI cO : Array Value} {st : Int} (h : LifeAt w base F Wn id f)
 (hb0 : Blk w F 118 #[.int .i64 id, .int .i64 f.script, .int .i64 f.start, vi, vs, .string f.read, .string f.taken, .bool f.eof, .int .i64 f.status])
 (hi : w.ownsRow base 137 4 vi f.ins.length (flat encInp f.ins)) (hs : w.ownsRow base 26 6 vs f.steps.length (flat encStp f.steps))
 (hWA : Only NoBlk w WA) (hg : WA.grownBy w2 vs.ownBlock) (own2 : w2.ownsRow base 26 6 v2 (f.steps.length + 1) (flat encStp f.steps ++ encStp x.st))
 (gF : Blk w2 F 118 cF) (gI : Blk w2 (w.heap.size + 1) 137 cI) (gO : Blk w2 (w.heap.size + 1 + 1) 197 cO)
 (k2 : Only (fun k => k = F ∨ k = w.heap.size + 1 ∨ k = w.heap.size + 1 + 1) w2 wx)
 (hF : Blk wx F 118 #[.int .i64 id, .int .i64 f.script, .int .i64 f.start, vi, v2, .string f.read, .string f.taken, .bool f.eof, .int .i64 st])
 (hI : Blk wx (w.heap.size + 1) 137 (encInp inp).toArray) (hO : Blk wx (w.heap.size + 1 + 1) 197 O.toArray) (h9 : O.length = 9) (h1 : ∀ u ∈ O, u.oneCell' = true)
 (kb : Below base w wx) (ha : addL id f x = { ({ f with steps := f.steps ++ [x.st], status := st } : LifeM) with ins := f.ins ++ [inp] }) : MidAt w wx base F Wn id f x := by
 have K : Only (fun k => k = F ∨ some k = vs.ownBlock) w wx := by
  have k1 : Only (fun k => k = F ∨ some k = vs.ownBlock) w w2 := (hWA.mono (fun _ _ h => h.elim)).grown hg (fun k hk => Or.inl (Or.inr hk.symm))
  refine k1.fresh k2 (fun i _ hi => ?_)
  rcases hi with rfl | rfl | rfl
  ·exact Or.inl (Or.inl rfl)
  ·exact Or.inr (by omega)
  ·exact Or.inr (by omega)
 have nt : ∀ (t : TypeId), t ≠ 118 → t ≠ 26 → ∀ g cs, (g = F ∨ some g = vs.ownBlock) → ¬ Blk w g t cs := by
  intro t ht ht2 g cs hgg hx
  rcases hgg with rfl | hgg
  ·exact Blk.ne_ hx hb0 ht rfl
  ·rcases hs.2 with ⟨hv, _⟩ | ⟨g', cap, cur, hv, _, hh, _⟩
   ·subst hv; simp [Value.ownBlock] at hgg
   ·subst hv
    simp [Value.ownBlock] at hgg
    subst hgg
    exact Blk.ne_ (g' := g) hx hh ht2 rfl
 obtain ⟨vw, xs, hw, how⟩ := h.want
 refine ⟨inp, { f with steps := f.steps ++ [x.st], status := st }, O, ⟨⟨vi, v2, hF, own_only hi K (nt _ (by decide) (by decide)), ?_⟩, ⟨vw, xs, hw.only K (fun e => nt _ (by decide) (by decide) _ _ e hw), own_only how K (nt _ (by decide) (by decide))⟩, h.hF, h.hW⟩, hI, hO, h9, h1, kb, ha, rfl⟩
 have e : flat encStp (f.steps ++ [x.st]) = flat encStp f.steps ++ encStp x.st := by rw [flat_append]; simp [flat]
 show World.ownsRow _ _ _ _ _ (f.steps ++ [x.st]).length (flat encStp (f.steps ++ [x.st]))
 rw [e, List.length_append]
 refine own_only own2 k2 ?_
 intro g cs hgg hx
 rcases hgg with rfl | rfl | rfl
 ·exact Blk.ne_ hx gF (by decide) rfl
 ·exact Blk.ne_ hx gI (by decide) rfl
 ·exact Blk.ne_ hx gO (by decide) rfl
theorem list9 {α : Type} {l : List α} (h : l.length = 9) : ∃ a b c d e f g i j, l = [a, b, c, d, e, f, g, i, j] := by
 match l, h with
 | [x0, x1, x2, x3, x4, x5, x6, x7, x8], _ => exact ⟨_, _, _, _, _, _, _, _, _, rfl⟩
set_option maxRecDepth 100000 in
set_option maxHeartbeats 8000000 in
theorem add_c (base F Wn : Nat) (id : Int) (f : LifeM) (x : Ev) (w : World) (h : LifeAt w base F Wn id f) (hbw : base ≤ w.heap.size) (hin : f.ins.length ≤ 100000) (hst : f.steps.length ≤ 100000) (hrd : f.read.size + x.s.size ≤ 9223372036854775807) (htk : f.taken.size + x.s.size ≤ 9223372036854775807) :
 Calls Tryz.prog 131 #[.pointer (some ⟨F, 0, none⟩), .agg #[.int .i64 x.k, .int .i64 x.id, .int .i64 x.n, .int .i64 x.tick, .string x.s, .int .i64 x.err, .int .i64 x.st.tick, .int .i64 x.st.at_, .int .i64 x.st.what, .int .i64 x.st.arm, .int .i64 x.st.n, .int .i64 x.st.status], .pointer (some ⟨Wn, 0, none⟩)] w
  fun e w' => e = .returned (.tuple #[]) ∧ LifeAt w' base F Wn id (addL id f x) ∧ Below base w w' := by
 obtain ⟨vi, vs, hB, hoi, hos⟩ := h.own
 have hFlt := hB.lt
 obtain ⟨W, hW⟩ : ∃ W, W = ((w.alloc (.cells #[.int .i64 x.k, .int .i64 x.id, .int .i64 x.n, .int .i64 x.tick, .string x.s, .int .i64 x.err, .int .i64 x.st.tick, .int .i64 x.st.at_, .int .i64 x.st.what, .int .i64 x.st.arm, .int .i64 x.st.n, .int .i64 x.st.status] 82)).alloc (.cells #[.int .i64 0, .string ⟨#[]⟩, .int .i64 0, .int .i64 0] 137)).alloc (.cells #[.int .i64 0, .string ⟨#[]⟩, .int .i64 0, .int .i64 0, .int .i64 0, .int .i64 0, .int .i64 0, .int .i64 0, .bool false] 197) := ⟨_, rfl⟩
 have bX : Blk W w.heap.size 82 #[.int .i64 x.k, .int .i64 x.id, .int .i64 x.n, .int .i64 x.tick, .string x.s, .int .i64 x.err, .int .i64 x.st.tick, .int .i64 x.st.at_, .int .i64 x.st.what, .int .i64 x.st.arm, .int .i64 x.st.n, .int .i64 x.st.status] := by rw [hW]; exact ((Blk.new w _ _).alloc _).alloc _
 have bI : Blk W (w.heap.size + 1) 137 #[.int .i64 0, .string ⟨#[]⟩, .int .i64 0, .int .i64 0] := by rw [hW]; exact (Blk.new' (by simp)).alloc _
 have bO : Blk W (w.heap.size + 1 + 1) 197 #[.int .i64 0, .string ⟨#[]⟩, .int .i64 0, .int .i64 0, .int .i64 0, .int .i64 0, .int .i64 0, .int .i64 0, .bool false] := by rw [hW]; exact Blk.new' (by simp)
 have bF : Blk W F 118 #[.int .i64 id, .int .i64 f.script, .int .i64 f.start, vi, vs, .string f.read, .string f.taken, .bool f.eof, .int .i64 f.status] := by rw [hW]; exact ((hB.alloc _).alloc _).alloc _
 have oW : Only NoBlk w W := by rw [hW]; exact (((Only.refl _ w).alloc _).alloc _).alloc _
 have lW : Below base w W := by rw [hW]; exact (((Below.refl _ _).alloc hbw _).alloc (by simp; omega) _).alloc (by simp; omega) _
 obtain ⟨x0, x1, x2, x3, x4, x5, x6, x7, x8, x9, x10, x11⟩ := bX.twelve
 obtain ⟨⟨i0, i1, i2, i3⟩, j0, j1, j2, j3⟩ := bI.fourF
 obtain ⟨⟨o0, o1, o2, o3, o4, o5, o6, o7, o8⟩, p0, p1, p2, p3, p4, p5, p6, p7, p8⟩ := bO.nine
 obtain ⟨⟨c0, c1, c2, c3, c4, c5, c6, c7, c8⟩, q0, q1, q2, q3, q4, q5, q6, q7, q8⟩ := bF.nine
 have n1 : ¬ F = w.heap.size := by omega
 have n2 : ¬ w.heap.size = F := by omega
 have n3 : ¬ F = w.heap.size + 1 := by omega
 have n4 : ¬ w.heap.size + 1 = F := by omega
 have n5 : ¬ F = w.heap.size + 1 + 1 := by omega
 have n6 : ¬ w.heap.size + 1 + 1 = F := by omega
 have n7 : w.heap.size + 1 + 1 ≠ w.heap.size + 1 := by omega
 have n8 : w.heap.size + 1 ≠ w.heap.size + 1 + 1 := by omega
 have HW := hide hW
 have HB := hide bF
 have HX := hide bX
 have HI := hide bI
 have HO := hide bO
 have Hoi := hide hoi
 have Hos := hide hos
 have OW := hide (oW.mono (T := (· = F)) (fun _ _ h => h.elim))
 have ON := hide oW
 have LW := hide lW
 have H := hide h
 have HB0 := hide hB
 clear hW bX bI bO bF hoi hos oW lW h hB
 go_enter Tryz.func131, Tryz.ntmps131
 go_upto_block 0 with fail
 rw [← HW.out]
 go_cut [8] (fun _ wx => MidAt w wx base F Wn id f x)
 case first =>
  by_cases hd : x.k = 7 ∧ f.status = 0
  ·have hb1 : (x.k == 7) = true := by simp [hd.1]
   have hb2 : (f.status == 0) = true := by simp [hd.2]
   have HA := hide (show addL id f x = { f with ins := f.ins ++ [⟨4, ⟨#[]⟩, 0, x.tick⟩] } from if_pos hd)
   clear hd
   go_wp2_with fail
   all_goals go_meet
   all_goals
    refine mid_of (f' := f) (inp := ⟨4, ⟨#[]⟩, 0, x.tick⟩) (O := outV 0 ⟨#[]⟩ st0 false) H.out HB0.out Hoi.out Hos.out ?_ ?_ ?_ rfl (outV_one _ _ _ _) ?_ ?_ HA.out rfl rfl
    ·exact ((((HB.out).far (p := ⟨w.heap.size + 1, 0, none⟩) n3 (.int .i64 4)).far (p := ⟨w.heap.size + 1, 1, none⟩) n3 (.string ⟨#[]⟩)).far (p := ⟨w.heap.size + 1, 2, none⟩) n3 (.int .i64 0)).far (p := ⟨w.heap.size + 1, 3, none⟩) n3 (.int .i64 x.tick)
    ·exact ((((HI.out).set_ 0 (.int .i64 4)).set_ 1 (.string ⟨#[]⟩)).set_ 2 (.int .i64 0)).set_ 3 (.int .i64 x.tick)
    ·exact ((((HO.out).far (p := ⟨w.heap.size + 1, 0, none⟩) n7 (.int .i64 4)).far (p := ⟨w.heap.size + 1, 1, none⟩) n7 (.string ⟨#[]⟩)).far (p := ⟨w.heap.size + 1, 2, none⟩) n7 (.int .i64 0)).far (p := ⟨w.heap.size + 1, 3, none⟩) n7 (.int .i64 x.tick)
    ·exact ((((OW.out).setCell (p := ⟨w.heap.size + 1, 0, none⟩) (Or.inr (by show w.heap.size ≤ w.heap.size + 1; omega)) (.int .i64 4)).setCell (p := ⟨w.heap.size + 1, 1, none⟩) (Or.inr (by show w.heap.size ≤ w.heap.size + 1; omega)) (.string ⟨#[]⟩)).setCell (p := ⟨w.heap.size + 1, 2, none⟩) (Or.inr (by show w.heap.size ≤ w.heap.size + 1; omega)) (.int .i64 0)).setCell (p := ⟨w.heap.size + 1, 3, none⟩) (Or.inr (by show w.heap.size ≤ w.heap.size + 1; omega)) (.int .i64 x.tick)
    ·exact ((((LW.out).setCell (p := ⟨w.heap.size + 1, 0, none⟩) (by show base ≤ w.heap.size + 1; omega) (.int .i64 4)).setCell (p := ⟨w.heap.size + 1, 1, none⟩) (by show base ≤ w.heap.size + 1; omega) (.string ⟨#[]⟩)).setCell (p := ⟨w.heap.size + 1, 2, none⟩) (by show base ≤ w.heap.size + 1; omega) (.int .i64 0)).setCell (p := ⟨w.heap.size + 1, 3, none⟩) (by show base ≤ w.heap.size + 1; omega) (.int .i64 x.tick)
  ·by_cases hid : x.id = id
   ·have hb3 : (x.id != id) = false := by simp [hid]
    by_cases h7 : x.k = 7
    ·have HA := hide (show addL id f x = f by unfold addL; rw [if_neg hd, if_neg (fun h => h hid), if_neg (by omega), if_neg (by omega), if_neg (by omega), if_neg (by omega)])
     have hb1 : (x.k == 7) = true := by simp [h7]
     have hb2 : (f.status == 0) = false := by simp; exact fun e => hd ⟨h7, e⟩
     have hk4 : (x.k == 4) = false := by simp; omega
     have hk5 : (x.k == 5) = false := by simp; omega
     have hk6 : (x.k == 6) = false := by simp; omega
     have hk8 : (x.k == 8) = false := by simp; omega
     clear hd hid h7
     go_wp2_with fail
     go_quiet (fail)
     go_wp2_with fail
     refine bodyPost_ret (v := .tuple #[]) (by simp [results, Tryz.results131, go_sem]) rfl ?_
     refine ⟨rfl, ?_, below_drewN' LW.out _⟩
     rw [HA.out]
     exact H.out.same (ON.out.drewN _)
    ·have hb1 : (x.k == 7) = false := by simp [h7]
     by_cases h4 : x.k = 4
     ·have hk4 : (x.k == 4) = true := by simp [h4]
      have HA := hide (show addL id f x = { ({ f with read := f.read ++ x.s } : LifeM) with ins := f.ins ++ [⟨1, x.s, 0, 0⟩] } by unfold addL; rw [if_neg hd, if_neg (fun h => h hid), if_pos h4])
      clear hd hid h7 h4
      go_wp2_with fail
      go_quiet (fail)
      go_wp2_with fail
      go_region
      go_wp2_with fail
      go_region
      all_goals go_wp2_with fail
      all_goals go_meet
      all_goals
       refine mid_of (f' := { f with read := f.read ++ x.s }) (inp := ⟨1, x.s, 0, 0⟩) (O := outV x.s.size ⟨#[]⟩ st0 false) H.out HB0.out Hoi.out Hos.out ?_ ?_ ?_ rfl (outV_one _ _ _ _) ?_ ?_ HA.out rfl rfl
       ·exact ((((((((HB.out).drewN _).set_ 5 (.string (f.read ++ x.s))).far (p := ⟨w.heap.size + 1, 0, none⟩) n3 (.int .i64 1)).far (p := ⟨w.heap.size + 1, 1, none⟩) n3 (.string x.s)).far (p := ⟨w.heap.size + 1, 2, none⟩) n3 (.int .i64 0)).far (p := ⟨w.heap.size + 1, 3, none⟩) n3 (.int .i64 0)).far (p := ⟨w.heap.size + 1 + 1, 0, none⟩) n5 (.int .i64 x.s.size)).drew
       ·exact ((((((((HI.out).drewN _).far (p := ⟨F, 5, none⟩) n4 (.string (f.read ++ x.s))).set_ 0 (.int .i64 1)).set_ 1 (.string x.s)).set_ 2 (.int .i64 0)).set_ 3 (.int .i64 0)).far (p := ⟨w.heap.size + 1 + 1, 0, none⟩) n8 (.int .i64 x.s.size)).drew
       ·exact ((((((((HO.out).drewN _).far (p := ⟨F, 5, none⟩) n6 (.string (f.read ++ x.s))).far (p := ⟨w.heap.size + 1, 0, none⟩) n7 (.int .i64 1)).far (p := ⟨w.heap.size + 1, 1, none⟩) n7 (.string x.s)).far (p := ⟨w.heap.size + 1, 2, none⟩) n7 (.int .i64 0)).far (p := ⟨w.heap.size + 1, 3, none⟩) n7 (.int .i64 0)).set_ 0 (.int .i64 x.s.size)).drew
       ·exact ((((((((OW.out).drewN _).setCell (p := ⟨F, 5, none⟩) (Or.inl rfl) (.string (f.read ++ x.s))).setCell (p := ⟨w.heap.size + 1, 0, none⟩) (Or.inr (by show w.heap.size ≤ w.heap.size + 1; omega)) (.int .i64 1)).setCell (p := ⟨w.heap.size + 1, 1, none⟩) (Or.inr (by show w.heap.size ≤ w.heap.size + 1; omega)) (.string x.s)).setCell (p := ⟨w.heap.size + 1, 2, none⟩) (Or.inr (by show w.heap.size ≤ w.heap.size + 1; omega)) (.int .i64 0)).setCell (p := ⟨w.heap.size + 1, 3, none⟩) (Or.inr (by show w.heap.size ≤ w.heap.size + 1; omega)) (.int .i64 0)).setCell (p := ⟨w.heap.size + 1 + 1, 0, none⟩) (Or.inr (by show w.heap.size ≤ w.heap.size + 1 + 1; omega)) (.int .i64 x.s.size)).drew
       ·exact (((((((below_drewN' (LW.out) _).setCell (p := ⟨F, 5, none⟩) H.out.hF (.string (f.read ++ x.s))).setCell (p := ⟨w.heap.size + 1, 0, none⟩) (by show base ≤ w.heap.size + 1; omega) (.int .i64 1)).setCell (p := ⟨w.heap.size + 1, 1, none⟩) (by show base ≤ w.heap.size + 1; omega) (.string x.s)).setCell (p := ⟨w.heap.size + 1, 2, none⟩) (by show base ≤ w.heap.size + 1; omega) (.int .i64 0)).setCell (p := ⟨w.heap.size + 1, 3, none⟩) (by show base ≤ w.heap.size + 1; omega) (.int .i64 0)).setCell (p := ⟨w.heap.size + 1 + 1, 0, none⟩) (by show base ≤ w.heap.size + 1 + 1; omega) (.int .i64 x.s.size)).drew
     ·have hk4 : (x.k == 4) = false := by simp [h4]
      by_cases h5 : x.k = 5
      ·have hk5 : (x.k == 5) = true := by simp [h5]
       have HA := hide (show addL id f x = { ({ f with eof := true } : LifeM) with ins := f.ins ++ [⟨2, ⟨#[]⟩, 0, 0⟩] } by unfold addL; rw [if_neg hd, if_neg (fun h => h hid), if_neg h4, if_pos h5])
       clear hd hid h7 h4 h5
       go_wp2_with fail
       go_quiet (fail)
       go_wp2_with fail
       all_goals go_meet
       all_goals
        refine mid_of (f' := { f with eof := true }) (inp := ⟨2, ⟨#[]⟩, 0, 0⟩) (O := outV 0 ⟨#[]⟩ st0 true) H.out HB0.out Hoi.out Hos.out ?_ ?_ ?_ rfl (outV_one _ _ _ _) ?_ ?_ HA.out rfl rfl
        ·exact (((((((HB.out).drewN _).set_ 7 (.bool true)).far (p := ⟨w.heap.size + 1, 0, none⟩) n3 (.int .i64 2)).far (p := ⟨w.heap.size + 1, 1, none⟩) n3 (.string ⟨#[]⟩)).far (p := ⟨w.heap.size + 1, 2, none⟩) n3 (.int .i64 0)).far (p := ⟨w.heap.size + 1, 3, none⟩) n3 (.int .i64 0)).far (p := ⟨w.heap.size + 1 + 1, 8, none⟩) n5 (.bool true)
        ·exact (((((((HI.out).drewN _).far (p := ⟨F, 7, none⟩) n4 (.bool true)).set_ 0 (.int .i64 2)).set_ 1 (.string ⟨#[]⟩)).set_ 2 (.int .i64 0)).set_ 3 (.int .i64 0)).far (p := ⟨w.heap.size + 1 + 1, 8, none⟩) n8 (.bool true)
        ·exact (((((((HO.out).drewN _).far (p := ⟨F, 7, none⟩) n6 (.bool true)).far (p := ⟨w.heap.size + 1, 0, none⟩) n7 (.int .i64 2)).far (p := ⟨w.heap.size + 1, 1, none⟩) n7 (.string ⟨#[]⟩)).far (p := ⟨w.heap.size + 1, 2, none⟩) n7 (.int .i64 0)).far (p := ⟨w.heap.size + 1, 3, none⟩) n7 (.int .i64 0)).set_ 8 (.bool true)
        ·exact (((((((OW.out).drewN _).setCell (p := ⟨F, 7, none⟩) (Or.inl rfl) (.bool true)).setCell (p := ⟨w.heap.size + 1, 0, none⟩) (Or.inr (by show w.heap.size ≤ w.heap.size + 1; omega)) (.int .i64 2)).setCell (p := ⟨w.heap.size + 1, 1, none⟩) (Or.inr (by show w.heap.size ≤ w.heap.size + 1; omega)) (.string ⟨#[]⟩)).setCell (p := ⟨w.heap.size + 1, 2, none⟩) (Or.inr (by show w.heap.size ≤ w.heap.size + 1; omega)) (.int .i64 0)).setCell (p := ⟨w.heap.size + 1, 3, none⟩) (Or.inr (by show w.heap.size ≤ w.heap.size + 1; omega)) (.int .i64 0)).setCell (p := ⟨w.heap.size + 1 + 1, 8, none⟩) (Or.inr (by show w.heap.size ≤ w.heap.size + 1 + 1; omega)) (.bool true)
        ·exact ((((((below_drewN' (LW.out) _).setCell (p := ⟨F, 7, none⟩) H.out.hF (.bool true)).setCell (p := ⟨w.heap.size + 1, 0, none⟩) (by show base ≤ w.heap.size + 1; omega) (.int .i64 2)).setCell (p := ⟨w.heap.size + 1, 1, none⟩) (by show base ≤ w.heap.size + 1; omega) (.string ⟨#[]⟩)).setCell (p := ⟨w.heap.size + 1, 2, none⟩) (by show base ≤ w.heap.size + 1; omega) (.int .i64 0)).setCell (p := ⟨w.heap.size + 1, 3, none⟩) (by show base ≤ w.heap.size + 1; omega) (.int .i64 0)).setCell (p := ⟨w.heap.size + 1 + 1, 8, none⟩) (by show base ≤ w.heap.size + 1 + 1; omega) (.bool true)
      ·have hk5 : (x.k == 5) = false := by simp [h5]
       by_cases h6 : x.k = 6
       ·have hk6 : (x.k == 6) = true := by simp [h6]
        have HA := hide (show addL id f x = { ({ f with taken := f.taken ++ x.s } : LifeM) with ins := f.ins ++ [⟨3, ⟨#[]⟩, x.n, 0⟩] } by unfold addL; rw [if_neg hd, if_neg (fun h => h hid), if_neg h4, if_neg h5, if_pos h6])
        clear hd hid h7 h4 h5 h6
        go_wp2_with fail
        go_quiet (fail)
        go_wp2_with fail
        go_region
        go_wp2_with fail
        go_region
        all_goals go_wp2_with fail
        all_goals go_meet
        all_goals
         refine mid_of (f' := { f with taken := f.taken ++ x.s }) (inp := ⟨3, ⟨#[]⟩, x.n, 0⟩) (O := outV 0 x.s st0 false) H.out HB0.out Hoi.out Hos.out ?_ ?_ ?_ rfl (outV_one _ _ _ _) ?_ ?_ HA.out rfl rfl
         ·exact ((((((((HB.out).drewN _).set_ 6 (.string (f.taken ++ x.s))).far (p := ⟨w.heap.size + 1, 0, none⟩) n3 (.int .i64 3)).far (p := ⟨w.heap.size + 1, 1, none⟩) n3 (.string ⟨#[]⟩)).far (p := ⟨w.heap.size + 1, 2, none⟩) n3 (.int .i64 x.n)).far (p := ⟨w.heap.size + 1, 3, none⟩) n3 (.int .i64 0)).far (p := ⟨w.heap.size + 1 + 1, 1, none⟩) n5 (.string x.s)).drew
         ·exact ((((((((HI.out).drewN _).far (p := ⟨F, 6, none⟩) n4 (.string (f.taken ++ x.s))).set_ 0 (.int .i64 3)).set_ 1 (.string ⟨#[]⟩)).set_ 2 (.int .i64 x.n)).set_ 3 (.int .i64 0)).far (p := ⟨w.heap.size + 1 + 1, 1, none⟩) n8 (.string x.s)).drew
         ·exact ((((((((HO.out).drewN _).far (p := ⟨F, 6, none⟩) n6 (.string (f.taken ++ x.s))).far (p := ⟨w.heap.size + 1, 0, none⟩) n7 (.int .i64 3)).far (p := ⟨w.heap.size + 1, 1, none⟩) n7 (.string ⟨#[]⟩)).far (p := ⟨w.heap.size + 1, 2, none⟩) n7 (.int .i64 x.n)).far (p := ⟨w.heap.size + 1, 3, none⟩) n7 (.int .i64 0)).set_ 1 (.string x.s)).drew
         ·exact ((((((((OW.out).drewN _).setCell (p := ⟨F, 6, none⟩) (Or.inl rfl) (.string (f.taken ++ x.s))).setCell (p := ⟨w.heap.size + 1, 0, none⟩) (Or.inr (by show w.heap.size ≤ w.heap.size + 1; omega)) (.int .i64 3)).setCell (p := ⟨w.heap.size + 1, 1, none⟩) (Or.inr (by show w.heap.size ≤ w.heap.size + 1; omega)) (.string ⟨#[]⟩)).setCell (p := ⟨w.heap.size + 1, 2, none⟩) (Or.inr (by show w.heap.size ≤ w.heap.size + 1; omega)) (.int .i64 x.n)).setCell (p := ⟨w.heap.size + 1, 3, none⟩) (Or.inr (by show w.heap.size ≤ w.heap.size + 1; omega)) (.int .i64 0)).setCell (p := ⟨w.heap.size + 1 + 1, 1, none⟩) (Or.inr (by show w.heap.size ≤ w.heap.size + 1 + 1; omega)) (.string x.s)).drew
         ·exact (((((((below_drewN' (LW.out) _).setCell (p := ⟨F, 6, none⟩) H.out.hF (.string (f.taken ++ x.s))).setCell (p := ⟨w.heap.size + 1, 0, none⟩) (by show base ≤ w.heap.size + 1; omega) (.int .i64 3)).setCell (p := ⟨w.heap.size + 1, 1, none⟩) (by show base ≤ w.heap.size + 1; omega) (.string ⟨#[]⟩)).setCell (p := ⟨w.heap.size + 1, 2, none⟩) (by show base ≤ w.heap.size + 1; omega) (.int .i64 x.n)).setCell (p := ⟨w.heap.size + 1, 3, none⟩) (by show base ≤ w.heap.size + 1; omega) (.int .i64 0)).setCell (p := ⟨w.heap.size + 1 + 1, 1, none⟩) (by show base ≤ w.heap.size + 1 + 1; omega) (.string x.s)).drew
       ·have hk6 : (x.k == 6) = false := by simp [h6]
        by_cases h8 : x.k = 8
        ·have hk8 : (x.k == 8) = true := by simp [h8]
         have HA := hide (show addL id f x = { ({ f with steps := f.steps ++ [x.st], status := x.st.status } : LifeM) with ins := f.ins ++ [⟨5, ⟨#[]⟩, 0, x.st.tick⟩] } by unfold addL; rw [if_neg hd, if_neg (fun h => h hid), if_neg h4, if_neg h5, if_neg h6, if_pos h8])
         clear hd hid h7 h4 h5 h6 h8
         go_wp2_with fail
         go_quiet (fail)
         go_wp2_with fail
         go_upto_region 16 with fail
         go_cut [91] (fun _ wx => Aft16 w wx base F id f x vi vs)
         case first =>
          have OS := own_only Hos.out ON.out (fun _ _ h => h.elim)
          have OSd : ((W.drewN (nq + 1)).alloc (.cells (encStp x.st).toArray 26)).ownsRow base 26 6 vs f.steps.length (flat encStp f.steps) := World.ownsRow.alloc (w := W.drewN (nq + 1)) OS _
          have hrdS : Rd ((W.drewN (nq + 1)).alloc (.cells (encStp x.st).toArray 26)) NoBlk (some ⟨W.heap.size, 0, none⟩) (encStp x.st) := rd_blkN (Blk.new (W.drewN (nq + 1)) _ _) (fun h => h)
          have hszW : base ≤ W.heap.size := Nat.le_trans hbw ON.out.size
          have hltO := HO.out.lt
          have y11 : ((W.drewN (nq + 1)).alloc (.cells #[.int .i64 x.st.tick, .int .i64 x.st.at_, .int .i64 x.st.what, .int .i64 x.st.arm, .int .i64 x.st.n, .int .i64 x.st.status] 26)).cell? ⟨w.heap.size, 11, none⟩ = some (.int .i64 x.st.status) := bkeep (below_alloc (W.drewN (nq + 1)) _) (show (W.drewN (nq + 1)).cell? ⟨w.heap.size, 11, none⟩ = some (.int .i64 x.st.status) from x11)
          have y4 : ((W.drewN (nq + 1)).alloc (.cells #[.int .i64 x.st.tick, .int .i64 x.st.at_, .int .i64 x.st.what, .int .i64 x.st.arm, .int .i64 x.st.n, .int .i64 x.st.status] 26)).cell? ⟨F, 4, none⟩ = some vs := bkeep (below_alloc (W.drewN (nq + 1)) _) (show (W.drewN (nq + 1)).cell? ⟨F, 4, none⟩ = some vs from c4)
          have m1 : ¬ w.heap.size = W.heap.size := by omega
          have m2 : ¬ W.heap.size = w.heap.size := by omega
          have m3 : ¬ F = W.heap.size := by omega
          have m4 : ¬ W.heap.size = F := by omega
          have m5 : ¬ w.heap.size + 1 = W.heap.size := by omega
          have m6 : ¬ W.heap.size = w.heap.size + 1 := by omega
          have m7 : ¬ w.heap.size + 1 + 1 = W.heap.size := by omega
          have m8 : ¬ W.heap.size = w.heap.size + 1 + 1 := by omega
          have OS' := hide OSd
          have RS := hide hrdS
          clear OS OSd hrdS
          obtain ⟨is, his, hsz0, hsz1, hsz2⟩ := info_parts Tryz.infoStp
          go_region_law (refine step_append_rd ((W.drewN (nq + 1)).alloc (.cells (encStp x.st).toArray 26)) rfl (.tmp 87) (.tmp 90) _ rfl base 26 is _ 6 48 Tryz.underlying90 his hsz0 hsz1 hsz2 rfl (by omega) vs f.steps.length (flat encStp f.steps) rfl OS'.out NoBlk (some ⟨W.heap.size, 0, none⟩) 1 1 (encStp x.st) rfl RS.out rfl (encStp_one x.st) (by simp only [maxLen]; omega) (by omega) (by simp; omega) ?_; intro v2 w2 hown2 hgr _; have hform := own_cap hown2; obtain ⟨A2, c2', rfl, _⟩ := hform; have GF := ((HB.out.drewN (nq + 1)).alloc (.cells (encStp x.st).toArray 26)).grown OS'.out (by decide) hgr; have GX := ((HX.out.drewN (nq + 1)).alloc (.cells (encStp x.st).toArray 26)).grown OS'.out (by decide) hgr; have GI := ((HI.out.drewN (nq + 1)).alloc (.cells (encStp x.st).toArray 26)).grown OS'.out (by decide) hgr; have GO := ((HO.out.drewN (nq + 1)).alloc (.cells (encStp x.st).toArray 26)).grown OS'.out (by decide) hgr; have HGF := hide GF; have HGX := hide GX; have HGI := hide GI; have HGO := hide GO; have HG := hide hgr; have Own2 := hide hown2; have fc := GF.nine; obtain ⟨⟨c0, c1, c2, c3, c4, c5, c6, c7, c8⟩, q0, q1, q2, q3, q4, q5, q6, q7, q8⟩ := fc; have xc := GX.twelve; obtain ⟨x0, x1, x2, x3, x4, x5, x6, x7, x8, x9, x10, x11⟩ := xc; clear GF GX GI GO hgr hown2)
          all_goals go_wp2_with fail
          all_goals go_meet
          all_goals
           exact ⟨_, _, (.slice A2 (f.steps.length + 1) c2'), _, _, _, ((ON.out.drewN (nq + 1)).alloc (.cells (encStp x.st).toArray 26)), HG.out, Own2.out, HGF.out, HGI.out, HGO.out,
            ((Only.refl _ w2).setCell (p := ⟨F, 4, none⟩) (Or.inl (Or.inl rfl)) _).setCell (p := ⟨F, 8, none⟩) (Or.inl (Or.inl rfl)) _,
            (HGF.out.set_ 4 (.slice A2 (f.steps.length + 1) c2')).set_ 8 (.int .i64 x.st.status), (HGX.out.far (p := ⟨F, 4, none⟩) n2 (.slice A2 (f.steps.length + 1) c2')).far (p := ⟨F, 8, none⟩) n2 (.int .i64 x.st.status), (HGI.out.far (p := ⟨F, 4, none⟩) n4 (.slice A2 (f.steps.length + 1) c2')).far (p := ⟨F, 8, none⟩) n4 (.int .i64 x.st.status), (HGO.out.far (p := ⟨F, 4, none⟩) n6 (.slice A2 (f.steps.length + 1) c2')).far (p := ⟨F, 8, none⟩) n6 (.int .i64 x.st.status),
            ((below_grown ((below_drewN' LW.out (nq + 1)).alloc hszW (.cells (encStp x.st).toArray 26)) OS'.out (by simp; omega) (Nat.le_refl _) HG.out).setCell (p := ⟨F, 4, none⟩) H.out.hF _).setCell (p := ⟨F, 8, none⟩) H.out.hF _⟩
         case rest =>
          obtain ⟨WA, w2, v2, cF, cI, cO, e1, e2, e3, e4, e5, e6, e7, e8, e9, e10, e11, e12⟩ := hcut.ex
          have xc := e9.twelve
          obtain ⟨x0, x1, x2, x3, x4, x5, x6, x7, x8, x9, x10, x11⟩ := xc
          have ic := e10.fourF
          obtain ⟨⟨i0, i1, i2, i3⟩, j0, j1, j2, j3⟩ := ic
          have oc := e11.nine
          obtain ⟨⟨o0, o1, o2, o3, o4, o5, o6, o7, o8⟩, p0, p1, p2, p3, p4, p5, p6, p7, p8⟩ := oc
          have E1 := hide e1
          have E2 := hide e2
          have E3 := hide e3
          have E4 := hide e4
          have E5 := hide e5
          have E6 := hide e6
          have HOF := hide e7
          have HBF := hide e8
          have HBI := hide e10
          have HBO := hide e11
          have HLB := hide e12
          clear e1 e2 e3 e4 e5 e6 e7 e8 e9 e10 e11 e12 hcut c0 c1 c2 c3 c4 c5 c6 c7 c8 q0 q1 q2 q3 q4 q5 q6 q7 q8
          go_wp2_with fail
          go_region
          all_goals go_wp2_with fail
          all_goals go_meet
          all_goals
           refine mid8 (inp := ⟨5, ⟨#[]⟩, 0, x.st.tick⟩) (O := outV 0 ⟨#[]⟩ x.st true) H.out HB0.out Hoi.out Hos.out E1.out E2.out E3.out E4.out E5.out E6.out ?_ ?_ ?_ ?_ rfl (outV_one _ _ _ _) ?_ HA.out
           ·exact ((((((((((((HOF.out).setCell (p := ⟨w.heap.size + 1, 0, none⟩) (Or.inl (Or.inr (Or.inl rfl))) (.int .i64 5)).setCell (p := ⟨w.heap.size + 1, 1, none⟩) (Or.inl (Or.inr (Or.inl rfl))) (.string ⟨#[]⟩)).setCell (p := ⟨w.heap.size + 1, 2, none⟩) (Or.inl (Or.inr (Or.inl rfl))) (.int .i64 0)).setCell (p := ⟨w.heap.size + 1, 3, none⟩) (Or.inl (Or.inr (Or.inl rfl))) (.int .i64 x.st.tick)).setCell (p := ⟨w.heap.size + 1 + 1, 2, none⟩) (Or.inl (Or.inr (Or.inr rfl))) (.int .i64 x.st.tick)).setCell (p := ⟨w.heap.size + 1 + 1, 3, none⟩) (Or.inl (Or.inr (Or.inr rfl))) (.int .i64 x.st.at_)).setCell (p := ⟨w.heap.size + 1 + 1, 4, none⟩) (Or.inl (Or.inr (Or.inr rfl))) (.int .i64 x.st.what)).setCell (p := ⟨w.heap.size + 1 + 1, 5, none⟩) (Or.inl (Or.inr (Or.inr rfl))) (.int .i64 x.st.arm)).setCell (p := ⟨w.heap.size + 1 + 1, 6, none⟩) (Or.inl (Or.inr (Or.inr rfl))) (.int .i64 x.st.n)).setCell (p := ⟨w.heap.size + 1 + 1, 7, none⟩) (Or.inl (Or.inr (Or.inr rfl))) (.int .i64 x.st.status)).setCell (p := ⟨w.heap.size + 1 + 1, 8, none⟩) (Or.inl (Or.inr (Or.inr rfl))) (.bool true)).drew
           ·exact ((((((((((((HBF.out).far (p := ⟨w.heap.size + 1, 0, none⟩) n3 (.int .i64 5)).far (p := ⟨w.heap.size + 1, 1, none⟩) n3 (.string ⟨#[]⟩)).far (p := ⟨w.heap.size + 1, 2, none⟩) n3 (.int .i64 0)).far (p := ⟨w.heap.size + 1, 3, none⟩) n3 (.int .i64 x.st.tick)).far (p := ⟨w.heap.size + 1 + 1, 2, none⟩) n5 (.int .i64 x.st.tick)).far (p := ⟨w.heap.size + 1 + 1, 3, none⟩) n5 (.int .i64 x.st.at_)).far (p := ⟨w.heap.size + 1 + 1, 4, none⟩) n5 (.int .i64 x.st.what)).far (p := ⟨w.heap.size + 1 + 1, 5, none⟩) n5 (.int .i64 x.st.arm)).far (p := ⟨w.heap.size + 1 + 1, 6, none⟩) n5 (.int .i64 x.st.n)).far (p := ⟨w.heap.size + 1 + 1, 7, none⟩) n5 (.int .i64 x.st.status)).far (p := ⟨w.heap.size + 1 + 1, 8, none⟩) n5 (.bool true)).drew
           ·exact ((((((((((((HBI.out).set_ 0 (.int .i64 5)).set_ 1 (.string ⟨#[]⟩)).set_ 2 (.int .i64 0)).set_ 3 (.int .i64 x.st.tick)).far (p := ⟨w.heap.size + 1 + 1, 2, none⟩) n8 (.int .i64 x.st.tick)).far (p := ⟨w.heap.size + 1 + 1, 3, none⟩) n8 (.int .i64 x.st.at_)).far (p := ⟨w.heap.size + 1 + 1, 4, none⟩) n8 (.int .i64 x.st.what)).far (p := ⟨w.heap.size + 1 + 1, 5, none⟩) n8 (.int .i64 x.st.arm)).far (p := ⟨w.heap.size + 1 + 1, 6, none⟩) n8 (.int .i64 x.st.n)).far (p := ⟨w.heap.size + 1 + 1, 7, none⟩) n8 (.int .i64 x.st.status)).far (p := ⟨w.heap.size + 1 + 1, 8, none⟩) n8 (.bool true)).drew
           ·exact ((((((((((((HBO.out).far (p := ⟨w.heap.size + 1, 0, none⟩) n7 (.int .i64 5)).far (p := ⟨w.heap.size + 1, 1, none⟩) n7 (.string ⟨#[]⟩)).far (p := ⟨w.heap.size + 1, 2, none⟩) n7 (.int .i64 0)).far (p := ⟨w.heap.size + 1, 3, none⟩) n7 (.int .i64 x.st.tick)).set_ 2 (.int .i64 x.st.tick)).set_ 3 (.int .i64 x.st.at_)).set_ 4 (.int .i64 x.st.what)).set_ 5 (.int .i64 x.st.arm)).set_ 6 (.int .i64 x.st.n)).set_ 7 (.int .i64 x.st.status)).set_ 8 (.bool true)).drew
           ·exact ((((((((((((HLB.out).setCell (p := ⟨w.heap.size + 1, 0, none⟩) (by show base ≤ w.heap.size + 1; omega) (.int .i64 5)).setCell (p := ⟨w.heap.size + 1, 1, none⟩) (by show base ≤ w.heap.size + 1; omega) (.string ⟨#[]⟩)).setCell (p := ⟨w.heap.size + 1, 2, none⟩) (by show base ≤ w.heap.size + 1; omega) (.int .i64 0)).setCell (p := ⟨w.heap.size + 1, 3, none⟩) (by show base ≤ w.heap.size + 1; omega) (.int .i64 x.st.tick)).setCell (p := ⟨w.heap.size + 1 + 1, 2, none⟩) (by show base ≤ w.heap.size + 1 + 1; omega) (.int .i64 x.st.tick)).setCell (p := ⟨w.heap.size + 1 + 1, 3, none⟩) (by show base ≤ w.heap.size + 1 + 1; omega) (.int .i64 x.st.at_)).setCell (p := ⟨w.heap.size + 1 + 1, 4, none⟩) (by show base ≤ w.heap.size + 1 + 1; omega) (.int .i64 x.st.what)).setCell (p := ⟨w.heap.size + 1 + 1, 5, none⟩) (by show base ≤ w.heap.size + 1 + 1; omega) (.int .i64 x.st.arm)).setCell (p := ⟨w.heap.size + 1 + 1, 6, none⟩) (by show base ≤ w.heap.size + 1 + 1; omega) (.int .i64 x.st.n)).setCell (p := ⟨w.heap.size + 1 + 1, 7, none⟩) (by show base ≤ w.heap.size + 1 + 1; omega) (.int .i64 x.st.status)).setCell (p := ⟨w.heap.size + 1 + 1, 8, none⟩) (by show base ≤ w.heap.size + 1 + 1; omega) (.bool true)).drew
        ·have hk8 : (x.k == 8) = false := by simp [h8]
         have HA := hide (show addL id f x = f by unfold addL; rw [if_neg hd, if_neg (fun h => h hid), if_neg h4, if_neg h5, if_neg h6, if_neg h8])
         clear hd hid h7 h4 h5 h6 h8
         go_wp2_with fail
         go_quiet (fail)
         go_wp2_with fail
         refine bodyPost_ret (v := .tuple #[]) (by simp [results, Tryz.results131, go_sem]) rfl ?_
         refine ⟨rfl, ?_, below_drewN' LW.out _⟩
         rw [HA.out]
         exact H.out.same (ON.out.drewN _)
   ·have HA := hide (show addL id f x = f by unfold addL; rw [if_neg hd, if_pos hid])
    have hb3 : (x.id != id) = true := by simp [hid]
    by_cases h7 : x.k = 7
    ·have hb1 : (x.k == 7) = true := by simp [h7]
     have hb2 : (f.status == 0) = false := by simp; exact fun e => hd ⟨h7, e⟩
     clear hd hid h7
     go_wp2_with fail
     go_quiet (fail)
     go_wp2_with fail
     refine bodyPost_ret (v := .tuple #[]) (by simp [results, Tryz.results131, go_sem]) rfl ?_
     refine ⟨rfl, ?_, below_drewN' LW.out _⟩
     rw [HA.out]
     exact H.out.same (ON.out.drewN _)
    ·have hb1 : (x.k == 7) = false := by simp [h7]
     clear hd hid h7
     go_wp2_with fail
     go_quiet (fail)
     go_wp2_with fail
     refine bodyPost_ret (v := .tuple #[]) (by simp [results, Tryz.results131, go_sem]) rfl ?_
     refine ⟨rfl, ?_, below_drewN' LW.out _⟩
     rw [HA.out]
     exact H.out.same (ON.out.drewN _)
 case rest =>
  obtain ⟨inp, f', O, hL, hI, hO, h9, h1, hb, ha, ei⟩ := hcut.ex
  obtain ⟨vi2, vs2, hF, hoi2, hos2⟩ := hL.own
  obtain ⟨vw, xs, hw, how⟩ := hL.want
  obtain ⟨u0, u1, u2, u3, u4, u5, u6, u7, u8, rfl⟩ := list9 h9
  obtain ⟨⟨c0, c1, c2, c3, c4, c5, c6, c7, c8⟩, q0, q1, q2, q3, q4, q5, q6, q7, q8⟩ := hF.nine
  obtain ⟨⟨i0, i1, i2, i3⟩, j0, j1, j2, j3⟩ := Blk.fourF (show Blk wc (w.heap.size + 1) 137 #[.int .i64 inp.k, .string inp.s, .int .i64 inp.n, .int .i64 inp.tick] from hI)
  obtain ⟨⟨o0, o1, o2, o3, o4, o5, o6, o7, o8⟩, _⟩ := Blk.nine (show Blk wc (w.heap.size + 1 + 1) 197 #[u0, u1, u2, u3, u4, u5, u6, u7, u8] from hO)
  have w0 : wc.cell? ⟨Wn, 0, none⟩ = some vw := by rw [hw.cell]; rfl
  have hFW : F ≠ Wn := Blk.ne_ hF hw (by decide)
  have hIlt := hI.lt
  have hFl := hF.lt
  have hOl := hO.lt
  have hWl := hw.lt
  have hlen : f'.ins.length ≤ 100000 := by rw [ei]; exact hin
  have OI : ((wc.drew).alloc (.cells (encInp inp).toArray 137)).ownsRow base 137 4 vi2 f'.ins.length (flat encInp f'.ins) := World.ownsRow.alloc (w := wc.drew) hoi2 _
  have RI : Rd ((wc.drew).alloc (.cells (encInp inp).toArray 137)) NoBlk (some ⟨wc.heap.size, 0, none⟩) (encInp inp) := rd_blkN (Blk.new wc.drew _ _) (fun h => h)
  have hszc : base ≤ wc.heap.size := Nat.le_trans hbw hb.size
  have HOI := hide OI
  have HRI := hide RI
  have HF2 := hide hF
  have HO2 := hide hO
  have HW2 := hide hw
  have HOS2 := hide hos2
  have HOW2 := hide how
  have HL := hide hL
  have Hb := hide hb
  have HA := hide ha
  have H1 := hide h1
  have HE := hide ei
  obtain ⟨ii, hii, hiz0, hiz1, hiz2⟩ := info_parts Tryz.infoInp
  obtain ⟨io, hio, hoz0, hoz1, hoz2⟩ := info_parts Tryz.infoOut
  have y3 : ((wc.drew).alloc (.cells #[.int .i64 inp.k, .string inp.s, .int .i64 inp.n, .int .i64 inp.tick] 137)).cell? ⟨F, 3, none⟩ = some vi2 := bkeep (below_alloc wc.drew _) (show wc.drew.cell? ⟨F, 3, none⟩ = some vi2 from c3)
  clear OI RI hI hF hO hw hos2 how hL hb ha h1 hcut hoi2 h9 ei
  go_wp2_with fail
  go_cut [114] (fun _ wx => ∃ v2 : Value, ∃ w2 : World, ((wc.drew).alloc (.cells (encInp inp).toArray 137)).grownBy w2 vi2.ownBlock ∧ w2.ownsRow base 137 4 v2 (f'.ins.length + 1) (flat encInp f'.ins ++ encInp inp) ∧ wx = w2.setCell ⟨F, 3, none⟩ v2)
  case first =>
   go_region_law (refine step_append_rd ((wc.drew).alloc (.cells (encInp inp).toArray 137)) rfl (.tmp 111) (.tmp 113) _ rfl base 137 ii _ 4 40 Tryz.underlying88 hii hiz0 hiz1 hiz2 rfl (by omega) vi2 f'.ins.length (flat encInp f'.ins) rfl HOI.out NoBlk (some ⟨wc.heap.size, 0, none⟩) 1 1 (encInp inp) rfl HRI.out rfl (encInp_one inp) (by simp only [maxLen]; omega) (by omega) (by simp; omega) ?_; intro v2 w2 hown2 hgr _; have hform := own_cap hown2; obtain ⟨A2, c2', rfl, _⟩ := hform; have GF := ((HF2.out.drew).alloc (.cells (encInp inp).toArray 137)).grown HOI.out (by decide) hgr; have Gr := hide hgr; have Own2 := hide hown2; have fc := GF.nine; obtain ⟨⟨c0, c1, c2, c3, c4, c5, c6, c7, c8⟩, q0, q1, q2, q3, q4, q5, q6, q7, q8⟩ := fc; clear GF hgr hown2)
   all_goals go_wp2_with fail
   all_goals go_meet
   all_goals exact ⟨_, w2, Gr.out, Own2.out, rfl⟩
  case rest =>
   obtain ⟨v2, w2, g2, own2, rfl⟩ := hcut
   have AL : ∀ {g : Nat} {t : TypeId} {cs : Array Value}, Blk wc g t cs → Blk ((wc.drew).alloc (.cells (encInp inp).toArray 137)) g t cs := fun h => h.drew.alloc _
   have OAL : ∀ {b : Nat} {e : TypeId} {z : Nat} {v : Value} {n : Nat} {ys : List Value}, wc.ownsRow b e z v n ys → ((wc.drew).alloc (.cells (encInp inp).toArray 137)).ownsRow b e z v n ys := fun h => World.ownsRow.alloc (w := wc.drew) h _
   have G2F := (AL HF2.out).grown HOI.out (by decide) g2
   have F3 : Blk (w2.setCell ⟨F, 3, none⟩ v2) F 118 #[.int .i64 id, .int .i64 f'.script, .int .i64 f'.start, v2, vs2, .string f'.read, .string f'.taken, .bool f'.eof, .int .i64 f'.status] := G2F.set_ 3 v2
   have O3 := ((AL HO2.out).grown HOI.out (by decide) g2).far (p := ⟨F, 3, none⟩) (Blk.ne_ ((AL HO2.out).grown HOI.out (by decide) g2) G2F (by decide)) v2
   have W3 := ((AL HW2.out).grown HOI.out (by decide) g2).far (p := ⟨F, 3, none⟩) (fun e => hFW e.symm) v2
   have kF : Only (· = F) w2 (w2.setCell ⟨F, 3, none⟩ v2) := only_set w2 F 3 v2
   have ntF : ∀ (t : TypeId), t ≠ 118 → ∀ g cs, g = F → ¬ Blk w2 g t cs := by
    intro t ht g cs hg hx
    subst hg
    exact Blk.ne_ hx G2F ht rfl
   have ri := own_only own2 kF (ntF _ (by decide))
   have rs := own_only (own_grown (OAL HOS2.out) HOI.out (by decide) g2) kF (ntF _ (by decide))
   have rw_ := own_only (own_grown (OAL HOW2.out) HOI.out (by decide) g2) kF (ntF _ (by decide))
   have lb := (below_grown ((Hb.out.drew).alloc hszc (.cells (encInp inp).toArray 137)) HOI.out (by simp; omega) (Nat.le_refl _) g2).setCell (p := ⟨F, 3, none⟩) HL.out.hF v2
   obtain ⟨W, hW⟩ : ∃ W, W = w2.setCell ⟨F, 3, none⟩ v2 := ⟨_, rfl⟩
   rw [← hW] at F3 O3 W3 ri rs rw_ lb ⊢
   obtain ⟨⟨o0, o1, o2, o3, o4, o5, o6, o7, o8⟩, _⟩ := O3.nine
   have w0' : W.cell? ⟨Wn, 0, none⟩ = some vw := by rw [W3.cell]; rfl
   have hOl3 := O3.lt
   have hWl3 := W3.lt
   have hszW : base ≤ W.heap.size := Nat.le_trans hbw lb.size
   have OO : ((W.drew).alloc (.cells [u0, u1, u2, u3, u4, u5, u6, u7, u8].toArray 197)).ownsRow base 197 9 vw f'.ins.length xs := World.ownsRow.alloc (w := W.drew) rw_ _
   have RO : Rd ((W.drew).alloc (.cells [u0, u1, u2, u3, u4, u5, u6, u7, u8].toArray 197)) NoBlk (some ⟨W.heap.size, 0, none⟩) [u0, u1, u2, u3, u4, u5, u6, u7, u8] := rd_blkN (Blk.new W.drew _ _) (fun h => h)
   have y0 : ((W.drew).alloc (.cells #[u0, u1, u2, u3, u4, u5, u6, u7, u8] 197)).cell? ⟨Wn, 0, none⟩ = some vw := bkeep (below_alloc W.drew _) (show W.drew.cell? ⟨Wn, 0, none⟩ = some vw from w0')
   have HOO := hide OO
   have HRO := hide RO
   have HF3 := hide F3
   have HW3 := hide W3
   have HRi := hide ri
   have HRs := hide rs
   have HLB := hide lb
   clear G2F F3 O3 W3 kF ntF ri rs rw_ lb OO RO hW g2 own2 AL OAL y3 w0 c0 c1 c2 c3 c4 c5 c6 c7 c8 q0 q1 q2 q3 q4 q5 q6 q7 q8 i0 i1 i2 i3 j0 j1 j2 j3
   go_wp2_with fail
   go_region_law (refine step_append_rd ((W.drew).alloc (.cells [u0, u1, u2, u3, u4, u5, u6, u7, u8].toArray 197)) rfl (.tmp 120) (.tmp 122) _ rfl base 197 io _ 9 80 Tryz.underlying165 hio hoz0 hoz1 hoz2 rfl (by omega) vw f'.ins.length xs rfl HOO.out NoBlk (some ⟨W.heap.size, 0, none⟩) 1 1 [u0, u1, u2, u3, u4, u5, u6, u7, u8] rfl HRO.out rfl H1.out (by simp only [maxLen]; omega) (by omega) (by simp; omega) ?_; intro v4 w4 hown4 hgr _; have hform := own_cap hown4; obtain ⟨A4, c4', rfl, _⟩ := hform; have GW := ((HW3.out.drew).alloc (.cells [u0, u1, u2, u3, u4, u5, u6, u7, u8].toArray 197)).grown HOO.out (by decide) hgr; have Gr := hide hgr; have Own4 := hide hown4; have k0 : w4.cell? ⟨Wn, 0, none⟩ = some vw := GW.cell 0; have k1 := GW.frozen 0; have HGW := hide GW; clear GW hgr hown4)
   all_goals go_wp2_with fail
   all_goals
    go_end0
    refine ⟨rfl, ?_, ?_⟩
    ·rw [HA.out]
     have kW := only_set w4 Wn 0 (.slice A4 (f'.ins.length + 1) c4')
     have ntW : ∀ (t : TypeId), t ≠ 165 → ∀ g cs, g = Wn → ¬ Blk w4 g t cs := by
      intro t ht g cs hg hx
      subst hg
      exact Blk.ne_ hx HGW.out ht rfl
     have e1 : flat encInp (f'.ins ++ [inp]) = flat encInp f'.ins ++ encInp inp := by rw [flat_append]; simp [flat]
     have OAW : ∀ {b : Nat} {e : TypeId} {z : Nat} {v : Value} {n : Nat} {ys : List Value}, W.ownsRow b e z v n ys → ((W.drew).alloc (.cells [u0, u1, u2, u3, u4, u5, u6, u7, u8].toArray 197)).ownsRow b e z v n ys := fun h => World.ownsRow.alloc (w := W.drew) h _
     refine ⟨⟨v2, vs2, ?_, ?_, ?_⟩, ⟨.slice A4 (f'.ins.length + 1) c4', xs ++ [u0, u1, u2, u3, u4, u5, u6, u7, u8], ?_, ?_⟩, HL.out.hF, HL.out.hW⟩
     ·exact (((HF3.out.drew).alloc (.cells [u0, u1, u2, u3, u4, u5, u6, u7, u8].toArray 197)).grown HOO.out (by decide) Gr.out).far (p := ⟨Wn, 0, none⟩) hFW _
     ·show World.ownsRow _ _ _ _ _ (f'.ins ++ [inp]).length (flat encInp (f'.ins ++ [inp]))
      rw [e1, List.length_append]
      exact own_only (own_grown (OAW HRi.out) HOO.out (by decide) Gr.out) kW (ntW _ (by decide))
     ·exact own_only (own_grown (OAW HRs.out) HOO.out (by decide) Gr.out) kW (ntW _ (by decide))
     ·exact HGW.out.set_ 0 _
     ·show World.ownsRow _ _ _ _ _ (f'.ins ++ [inp]).length _
      rw [List.length_append]
      exact own_only Own4.out kW (ntW _ (by decide))
    ·exact (below_grown ((HLB.out.drew).alloc hszW (.cells [u0, u1, u2, u3, u4, u5, u6, u7, u8].toArray 197)) HOO.out (by simp; omega) (Nat.le_refl _) Gr.out).setCell (p := ⟨Wn, 0, none⟩) HL.out.hW _
end Go.Proofs.YtdmdohjdmnmabaaGreat
