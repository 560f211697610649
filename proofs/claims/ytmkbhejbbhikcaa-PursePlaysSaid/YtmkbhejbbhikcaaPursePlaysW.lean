/- The walk of PursePlays. Conditions: those of the theorem. -/
import Derived.Test.YtmkbhejbbhikcaaPurse3
import Derived.Test.YtmkbhejbbhikcaaActs
import Derived.Test.YtmkbhejbbhikcaaPursePlain
import Derived.Deep.DeepCutAuto
import Derived.Deep.CutBlock
namespace Go.Proofs.Ytmkbhejbbhikcaa
open Go.RowKit
theorem akeep {W : World} {p : Addr} {v : Value} (h : W.cell? p = some v) (o : Obj) : (W.alloc o).cell? p = some v := (World.cell?_alloc_lt W o p (World.block_lt_of_cell? W p h)).trans h
attribute [local go_sem ↓] Go.wp_at_zero Go.wp_at_succ

/-- purses here and there, in memory -/
def PlayAt (w' : World) (most q : Int) (pb ph xb : Nat) : Prop := ∃ (m : PurseM) (L : List (Int × Int)) (A : Option Addr) (c : Nat), PRel m most q L ∧ PurseAt w' pb ph m ∧
  Blk w' xb 37 #[.int .i64 most, .int .i64 q, .slice A L.length c] ∧ Rd w' (fun k => k = pb ∨ k = ph ∨ k = xb) A (ones L)
/-- the three blocks are new, and none is another -/
def New3 (w : World) (pb ph xb : Nat) : Prop := w.heap.size < pb ∧ w.heap.size < ph ∧ w.heap.size < xb ∧ pb ≠ xb ∧ ph ≠ xb

theorem Blk.three_set {w : World} {g : Nat} {t : TypeId} {a b c x y z : Value} (h : Blk w g t #[a, b, c]) : Blk (((w.setCell ⟨g, 0, none⟩ x).setCell ⟨g, 1, none⟩ y).setCell ⟨g, 2, none⟩ z) g t #[x, y, z] :=
  ((h.set_ 0 x).set_ 1 y).set_ 2 z
theorem PurseAt.far {w : World} {b h g i : Nat} {m : PurseM} (hp : PurseAt w b h m) (h1 : b ≠ g) (h2 : h ≠ g) (u : Value) : PurseAt (w.setCell ⟨g, i, none⟩ u) b h m :=
  ⟨hp.1.far h1 u, hp.2.1.far h2 u, hp.2.2⟩
theorem PurseAt.far3 {w : World} {b h g : Nat} {m : PurseM} (hp : PurseAt w b h m) (h1 : b ≠ g) (h2 : h ≠ g) (x y z : Value) : PurseAt (((w.setCell ⟨g, 0, none⟩ x).setCell ⟨g, 1, none⟩ y).setCell ⟨g, 2, none⟩ z) b h m :=
  ((hp.far h1 h2 x).far h1 h2 y).far h1 h2 z
theorem only_set3 {S : Nat → Prop} {a b : World} (h : Only S a b) {g : Nat} (hg : S g ∨ a.heap.size ≤ g) (x y z : Value) : Only S a (((b.setCell ⟨g, 0, none⟩ x).setCell ⟨g, 1, none⟩ y).setCell ⟨g, 2, none⟩ z) :=
  ((h.setCell hg x).setCell hg y).setCell hg z
theorem only_drew' {S : Nat → Prop} {a b : World} (h : Only S a.drew b) : Only S a b := ⟨h.os, h.output, h.size, h.block⟩
theorem PurseAt.drew {w : World} {b h : Nat} {m : PurseM} (hp : PurseAt w b h m) : PurseAt w.drew b h m := hp
theorem PurseAt.drewN {w : World} {b h : Nat} {m : PurseM} (hp : PurseAt w b h m) (n : Nat) : PurseAt (w.drewN n) b h m := hp
theorem meet_play {w W wx : World} {most quantum : Int} {pb ph xb : Nat} {A : Option Addr} {c : Nat} (hn : New3 w pb ph xb) (hp : PurseAt wx pb ph (newPurse most quantum))
    (hx : Blk wx xb 37 #[.int .i64 (within most 1 1024), .int .i64 (within quantum 1 1000000), .slice A 0 c]) (ho : Only NoBlk W wx) :
    ∃ pb' ph' xb', Value.pointer (some ⟨pb, 0, none⟩) = .pointer (some ⟨pb', 0, none⟩) ∧ Value.pointer (some ⟨xb, 0, none⟩) = .pointer (some ⟨xb', 0, none⟩) ∧ New3 w pb' ph' xb' ∧ PlayAt wx (within most 1 1024) (within quantum 1 1000000) pb' ph' xb' ∧ Only NoBlk W wx :=
  ⟨pb, ph, xb, rfl, rfl, hn, ⟨_, [], A, c, PRel.new most quantum, hp, hx, Rd.nil⟩, ho⟩

def M3 (pb ph xb : Nat) : Nat → Prop := fun k => k = pb ∨ k = ph ∨ k = xb
/-- all that stands while PursePlays goes on -/
structure PlaySt (w wr : World) (g : Array Value) (mo qu : Int) (pb ph xb : Nat) (m : PurseM) (L : List (Int × Int)) (A1 : Option Addr) (c1 : Nat) : Prop where
  rel : PRel m mo qu L
  hp : PurseAt wr pb ph m
  hx : Blk wr xb 37 #[.int .i64 mo, .int .i64 qu, .slice A1 L.length c1]
  hrd : Rd wr (M3 pb ph xb) A1 (ones L)
  ho : Only NoBlk w wr
  hg : Blk wr w.heap.size 34 g
  hn : New3 w pb ph xb
section
variable {w wr w' : World} {g : Array Value} {mo qu : Int} {pb ph xb : Nat} {m m' : PurseM} {L L' : List (Int × Int)} {A1 A2 : Option Addr} {c1 c2 : Nat}
theorem PlaySt.drew (h : PlaySt w wr g mo qu pb ph xb m L A1 c1) : PlaySt w wr.drew g mo qu pb ph xb m L A1 c1 := ⟨h.rel, h.hp.drew, h.hx.drew, h.hrd.drew, h.ho.drew, h.hg.drew, h.hn⟩
theorem PlaySt.only0 (h : PlaySt w wr g mo qu pb ph xb m L A1 c1) (k : Only NoBlk wr w') : PlaySt w w' g mo qu pb ph xb m L A1 c1 :=
  ⟨h.rel, h.hp.only k (fun h => h) (fun h => h), h.hx.only k (fun h => h), h.hrd.only k (fun _ h => h.elim), h.ho.trans k, h.hg.only k (fun h => h), h.hn⟩
theorem PlaySt.below (h : PlaySt w wr g mo qu pb ph xb m L A1 c1) (k : Below wr.heap.size wr w') : PlaySt w w' g mo qu pb ph xb m L A1 c1 := h.only0 (Only.of_below k NoBlk)
theorem PlaySt.alloc (h : PlaySt w wr g mo qu pb ph xb m L A1 c1) (o : Obj) : PlaySt w (wr.alloc o) g mo qu pb ph xb m L A1 c1 := h.only0 ((Only.refl NoBlk _).alloc o)
theorem PlaySt.lt3 (h : PlaySt w wr g mo qu pb ph xb m L A1 c1) : ∀ k, M3 pb ph xb k → k < wr.heap.size := by
  intro k hk
  rcases hk with rfl | rfl | rfl
  · exact h.hp.1.lt
  · exact h.hp.2.1.lt
  · exact h.hx.lt
/-- behind a method of the purse that writes -/
theorem PlaySt.purse (h : PlaySt w wr g mo qu pb ph xb m L A1 c1) (hp : PurseAt w' pb ph m') (k : Only (· = ph) wr w') (hr : PRel m' mo qu L) : PlaySt w w' g mo qu pb ph xb m' L A1 c1 :=
  ⟨hr, hp, h.hx.only k (fun e => h.hn.2.2.2.2 e.symm), h.hrd.only k (fun b hb => Or.inr (Or.inl hb)), h.ho.fresh k (fun i _ hi => Or.inr (by have := h.hn.2.1; omega)), h.hg.only k (fun e => by have := h.hn.2.1; omega), h.hn⟩
/-- the reference's answer is stored; the purse does not yet hold it -/
structure PlayHalf (w wr : World) (g : Array Value) (mo qu : Int) (pb ph xb : Nat) (m : PurseM) (L : List (Int × Int)) (A1 : Option Addr) (c1 : Nat) : Prop where
  hp : PurseAt wr pb ph m
  ok : m.Ok
  hx : Blk wr xb 37 #[.int .i64 mo, .int .i64 qu, .slice A1 L.length c1]
  hrd : Rd wr (M3 pb ph xb) A1 (ones L)
  ho : Only NoBlk w wr
  hg : Blk wr w.heap.size 34 g
  hn : New3 w pb ph xb
theorem PlaySt.store (h : PlaySt w wr g mo qu pb ph xb m L A1 c1) (k : Below wr.heap.size wr w') (hr : Rd w' (M3 pb ph xb) A2 (ones L')) :
    PlayHalf w (((w'.setCell ⟨xb, 0, none⟩ (.int .i64 mo)).setCell ⟨xb, 1, none⟩ (.int .i64 qu)).setCell ⟨xb, 2, none⟩ (.slice A2 L'.length c2)) g mo qu pb ph xb m L' A2 c2 := by
  have h' := h.below k
  have hm : M3 pb ph xb xb := Or.inr (Or.inr rfl)
  refine ⟨h'.hp.far3 h.hn.2.2.2.1 h.hn.2.2.2.2 _ _ _, h.rel.ok, h'.hx.three_set, ((hr.set_ hm _).set_ hm _).set_ hm _, only_set3 h'.ho (Or.inr (by have := h.hn.2.2.1; omega)) _ _ _, ?_, h.hn⟩
  have e : w.heap.size ≠ xb := by have := h.hn.2.2.1; omega
  exact ((h'.hg.far e _).far e _).far e _
theorem PlayHalf.lt3 (h : PlayHalf w wr g mo qu pb ph xb m L A1 c1) : ∀ k, M3 pb ph xb k → k < wr.heap.size := by
  intro k hk
  rcases hk with rfl | rfl | rfl
  · exact h.hp.1.lt
  · exact h.hp.2.1.lt
  · exact h.hx.lt
theorem PlaySt.ahead (h : PlaySt w wr g mo qu pb ph xb m L A1 c1) (hp : PurseAt w' pb ph m') (k : Only (· = ph) wr w') (ok : m'.Ok) : PlayHalf w w' g mo qu pb ph xb m' L A1 c1 :=
  ⟨hp, ok, h.hx.only k (fun e => h.hn.2.2.2.2 e.symm), h.hrd.only k (fun b hb => Or.inr (Or.inl hb)), h.ho.fresh k (fun i _ hi => Or.inr (by have := h.hn.2.1; omega)), h.hg.only k (fun e => by have := h.hn.2.1; omega), h.hn⟩
theorem PlayHalf.below (h : PlayHalf w wr g mo qu pb ph xb m L A1 c1) (k : Below wr.heap.size wr w') : PlayHalf w w' g mo qu pb ph xb m L A1 c1 := by
  have k' := Only.of_below k NoBlk
  exact ⟨h.hp.only k' (fun h => h) (fun h => h), h.ok, h.hx.only k' (fun h => h), h.hrd.only k' (fun _ h => h.elim), h.ho.trans k', h.hg.only k' (fun h => h), h.hn⟩
theorem PlayHalf.store (h : PlayHalf w wr g mo qu pb ph xb m L A1 c1) (k : Below wr.heap.size wr w') (hr : Rd w' (M3 pb ph xb) A2 (ones L')) (hR : PRel m mo qu L') :
    PlaySt w (((w'.setCell ⟨xb, 0, none⟩ (.int .i64 mo)).setCell ⟨xb, 1, none⟩ (.int .i64 qu)).setCell ⟨xb, 2, none⟩ (.slice A2 L'.length c2)) g mo qu pb ph xb m L' A2 c2 := by
  have h' := h.below k
  have hm : M3 pb ph xb xb := Or.inr (Or.inr rfl)
  refine ⟨hR, h'.hp.far3 h.hn.2.2.2.1 h.hn.2.2.2.2 _ _ _, h'.hx.three_set, ((hr.set_ hm _).set_ hm _).set_ hm _, only_set3 h'.ho (Or.inr (by have := h.hn.2.2.1; omega)) _ _ _, ?_, h.hn⟩
  have e : w.heap.size ≠ xb := by have := h.hn.2.2.1; omega
  exact ((h'.hg.far e _).far e _).far e _
theorem PlayHalf.drew (h : PlayHalf w wr g mo qu pb ph xb m L A1 c1) : PlayHalf w wr.drew g mo qu pb ph xb m L A1 c1 := ⟨h.hp.drew, h.ok, h.hx.drew, h.hrd.drew, h.ho.drew, h.hg.drew, h.hn⟩
theorem PlayHalf.purse (h : PlayHalf w wr g mo qu pb ph xb m L A1 c1) (hp : PurseAt w' pb ph m') (k : Only (· = ph) wr w') (hr : PRel m' mo qu L) : PlaySt w w' g mo qu pb ph xb m' L A1 c1 :=
  ⟨hr, hp, h.hx.only k (fun e => h.hn.2.2.2.2 e.symm), h.hrd.only k (fun b hb => Or.inr (Or.inl hb)), h.ho.fresh k (fun i _ hi => Or.inr (by have := h.hn.2.1; omega)), h.hg.only k (fun e => by have := h.hn.2.1; omega), h.hn⟩
end

theorem sum2_snoc (L : List (Int × Int)) (j : Nat) (h : j < L.length) : sum2 (L.take (j + 1)) = sum2 (L.take j) + oneN L j := by
  rw [List.take_succ_eq_append_getElem h, sum2_append]
  have e : oneN L j = L[j].2 := by simp [oneN, List.getD, h]
  rw [e]
  show _ + (L[j].2 + 0) = _
  omega
theorem sum2_bd (L : List (Int × Int)) (h : ∀ p ∈ L, 0 ≤ p.2 ∧ p.2 ≤ 2000000000) (j : Nat) (hj : j ≤ L.length) : 0 ≤ sum2 (L.take j) ∧ sum2 (L.take j) ≤ j * 2000000000 := by
  induction j with
  | zero => simp [sum2]
  | succ j ih =>
    have h1 := ih (by omega)
    have h2 : 0 ≤ oneN L j ∧ oneN L j ≤ 2000000000 := by
      have e : oneN L j = L[j].2 := by simp [oneN, List.getD, show j < L.length by omega]
      rw [e]
      exact h _ (List.getElem_mem _)
    rw [sum2_snoc L j (by omega)]
    omega
theorem oneN_bd (L : List (Int × Int)) (h : ∀ p ∈ L, 0 ≤ p.2 ∧ p.2 ≤ 2000000000) (j : Nat) (hj : j < L.length) : 0 ≤ oneN L j ∧ oneN L j ≤ 2000000000 := by
  have e : oneN L j = L[j].2 := by simp [oneN, List.getD, hj]
  rw [e]
  exact h _ (List.getElem_mem _)
theorem PurseAt.below {w w' : World} {b h : Nat} {m : PurseM} (hp : PurseAt w b h m) (k : Below w.heap.size w w') : PurseAt w' b h m := hp.only (Only.of_below k NoBlk) (fun h => h) (fun h => h)

set_option maxRecDepth 100000 in
set_option maxHeartbeats 1600000 in
theorem PursePlays_walk (most quantum ask : Int) (A : Option Addr) (c : Nat) (l : List Act3) (w : World) (hr : Rd w NoBlk A (flat enc3 l)) (hn0 : l.length ≤ maxLen) :
    Calls Try.prog 5 #[.agg #[.int .i64 most, .int .i64 quantum, .slice A l.length c], .int .i64 ask] w fun e w' => e = .returned (.bool true) ∧ Only NoBlk w w' := by
  have hn : l.length ≤ 9223372036854775807 := hn0
  obtain ⟨n, hnl⟩ : ∃ n, n = l.length := ⟨_, rfl⟩
  rw [← hnl] at hn ⊢
  obtain ⟨W, hW⟩ : ∃ W, W = w.alloc (.cells #[.int .i64 most, .int .i64 quantum, .slice A n c] 34) := ⟨_, rfl⟩
  have hB0 : Blk W w.heap.size 34 #[.int .i64 most, .int .i64 quantum, .slice A n c] := by rw [hW]; exact Blk.new w _ _
  have hwW : Only NoBlk w W := by rw [hW]; exact (Only.refl _ _).alloc _
  have HW := hide hW
  have Hr := hide hr
  have Hn := hide hnl
  clear hW hr hnl hn0
  go_enter Try.func5, Try.ntmps5
  go_upto_region 1 with fail
  rw [← HW.out]
  obtain ⟨⟨k0, k1, k2⟩, _⟩ := hB0.three
  have hltW := hB0.lt
  have hneA : ¬ w.heap.size = W.heap.size := by omega
  have hneB : ¬ W.heap.size = w.heap.size := by omega
  go_cut [5, 6] (fun v5 v6 wx => ∃ pb ph xb, v5 = .pointer (some ⟨pb, 0, none⟩) ∧ v6 = .pointer (some ⟨xb, 0, none⟩) ∧ New3 w pb ph xb ∧ PlayAt wx (within most 1 1024) (within quantum 1 1000000) pb ph xb ∧ Only NoBlk W wx)
  case first =>
    go_region_held3 (fun w' => w'.cell? ⟨w.heap.size, 0, none⟩ = some (.int .i64 most) ∧ w'.cell? ⟨w.heap.size, 1, none⟩ = some (.int .i64 quantum))
      (go_keep)
      (first
        | (go_at_call 18
           refine (New_c most quantum _).mono ?_
           rintro e w1 ⟨rfl, hp1, ho1, hs1⟩
           have Hs1 := hide hs1
           clear hs1
           have hsz : W.heap.size ≤ w1.heap.size := by first | exact ho1.size | exact Nat.le_trans (by simp) ho1.size
           have hne1 : ¬ w.heap.size = w1.heap.size := by omega
           have hne2 : ¬ w1.heap.size = w.heap.size := by omega
           have x0 : w1.cell? ⟨w.heap.size, 0, none⟩ = some (.int .i64 most) := by first | exact okeep ho1 (fun h => h) k0 | exact okeep ho1 (fun h => h) (akeep k0 _)
           have x1 : w1.cell? ⟨w.heap.size, 1, none⟩ = some (.int .i64 quantum) := by first | exact okeep ho1 (fun h => h) k1 | exact okeep ho1 (fun h => h) (akeep k1 _)
           try (have hZ0 : Blk (W.alloc (.cells #[.int .i64 0, .int .i64 0, .slice none 0 0] 37)).drew W.heap.size 37 #[.int .i64 0, .int .i64 0, .slice none 0 0] := Blk.new W _ _
                have hZ := hZ0.only ho1 (fun h => h)))
        | (go_at_call 25
           refine (PNew_c (fun k => k = w.heap.size) most quantum _).mono ?_
           rintro e w2 ⟨A2, c2, rfl, hR2, hb2⟩
           have y0 : w2.cell? ⟨w.heap.size, 0, none⟩ = some (.int .i64 most) := by first | exact bkeep hb2 x0 | exact bkeep hb2 (akeep x0 _)
           have y1 : w2.cell? ⟨w.heap.size, 1, none⟩ = some (.int .i64 quantum) := by first | exact bkeep hb2 x1 | exact bkeep hb2 (akeep x1 _)
           try (have hZ2 := hZ.below hb2; have hz := hZ2.three; obtain ⟨⟨z0, z1, z2⟩, f0, f1, f2⟩ := hz)
           try (have hZ2 := (Blk.new w1 37 #[.int .i64 0, .int .i64 0, .slice none 0 0]).below hb2; have hz := hZ2.three; obtain ⟨⟨z0, z1, z2⟩, f0, f1, f2⟩ := hz)))
    all_goals go_wp2_with fail
    all_goals go_meet
    · have q1 := hp1.only (Only.of_below hb2 NoBlk) (fun h => h) (fun h => h)
      have hs2 := hb2.size
      have e1 := Hs1.out
      replace e1 : w1.heap.size = W.heap.size + 2 := e1
      exact meet_play (pb := W.heap.size + 1) (ph := W.heap.size) (xb := w2.heap.size) ⟨by omega, by omega, by omega, by omega, by omega⟩ (q1.only ((Only.refl NoBlk _).alloc _) (fun h => h) (fun h => h)) (Blk.new w2 _ _)
        (((only_drew' ho1).trans (Only.of_below hb2 NoBlk)).alloc _)
    · have hb2' : Below w1.heap.size w1 w2 := ((Below.refl _ _).alloc (Nat.le_refl _) _).trans (hb2.mono (by simp))
      have q1 := hp1.only (Only.of_below hb2' NoBlk) (fun h => h) (fun h => h)
      have e1 := Hs1.out
      replace e1 : w1.heap.size = W.heap.size + 2 := e1
      exact meet_play (pb := W.heap.size + 1) (ph := W.heap.size) (xb := w1.heap.size) ⟨by omega, by omega, by omega, by omega, by omega⟩ (q1.far3 (by show W.heap.size + 1 ≠ _; omega) (by show W.heap.size ≠ _; omega) _ _ _) hZ2.three_set
        (only_set3 ((only_drew' ho1).trans (Only.of_below hb2' NoBlk)) (Or.inr (by omega)) _ _ _)
    · have hWd : (W.alloc (.cells #[.int .i64 0, .int .i64 0, .slice none 0 0] 37)).drew.heap.size = W.heap.size + 1 := by simp
      have q1 := hp1.only (Only.of_below hb2 NoBlk) (fun h => h) (fun h => h)
      rw [hWd] at q1
      exact meet_play (pb := W.heap.size + 1 + 1) (ph := W.heap.size + 1) (xb := W.heap.size) ⟨by omega, by omega, by omega, by omega, by omega⟩ (q1.far3 (by omega) (by omega) _ _ _) hZ2.three_set
        (only_set3 (((Only.refl NoBlk W).alloc _).trans ((only_drew' ho1).trans (Only.of_below hb2 NoBlk))) (Or.inr (Nat.le_refl _)) _ _ _)
  case rest =>
    obtain ⟨pb, ph, xb, rfl, rfl, hn3, hpl, hoW⟩ := hcut
    clear k0 k1 hneA hneB
    obtain ⟨mo, hmo⟩ : ∃ mo, mo = within most 1 1024 := ⟨_, rfl⟩
    obtain ⟨qu, hqu⟩ : ∃ qu, qu = within quantum 1 1000000 := ⟨_, rfl⟩
    rw [← hmo, ← hqu] at hpl
    have Hmo := hide hmo
    have Hqu := hide hqu
    clear hmo hqu
    obtain ⟨m, L, A1, c1, hPR, hp, hx, hrd⟩ := hpl
    have hx1 := hx.three.1.2.1
    have Hx := hide hx
    have hmq : m.q = qu := hPR.q
    have Hmq := hide hmq
    clear hmq
    go_wp2_with fail
    go_region_held3 (fun w' => w'.cell? ⟨xb, 1, none⟩ = some (.int .i64 qu)) (go_keep)
      (first | (go_at_call 26
                refine (Quantum_c hp.drew).mono ?_
                rintro e w' ⟨he, rfl⟩
                rw [Hmq.out] at he
                subst he))
    have hst0 : PlaySt w wc #[.int .i64 most, .int .i64 quantum, .slice A n c] mo qu pb ph xb m L A1 c1 := ⟨hPR, hp, Hx.out, hrd, hwW.trans hoW, hB0.only hoW (fun h => h), hn3⟩
    go_wp2_with fail
    go_loopw [7] (fun x wr => ∃ k : Nat, k ≤ n ∧ k ≤ 30 ∧ x = .int .i64 k ∧ ∃ m L A1 c1, PlaySt w wr #[.int .i64 most, .int .i64 quantum, .slice A n c] mo qu pb ph xb m L A1 c1) (fun x _ => n - (intOf x).toNat)
    case atStart => exact ⟨0, Nat.zero_le _, by omega, rfl, m, L, A1, c1, hst0.drew⟩
    case round =>
      clear hst0 hx1 hp hrd hPR hoW Hx hx Hmq
      obtain ⟨k, hk, hk30, rfl, m, L, A1, c1, hst⟩ := hrel
      have hX := hide hst
      by_cases hlt : k < n
      · by_cases hlt30 : k < 30
        · have hfl := flat_len enc3 3 enc3_len l
          obtain ⟨b, o, rfl, _, hb, hc⟩ := Hr.out.at_ (j := k * 3) (by have := Hn.out; omega)
          have h1 := acts_at l k (by rw [← Hn.out]; exact hlt)
          have g0 : wr.cell? ⟨b, o + k * 3, none⟩ = some (.int .i64 (actAt l k).k) := (hst.ho.cell (p := ⟨b, o + k * 3, none⟩) hb (fun h => h)).trans (by rw [hc _ (by have := Hn.out; omega)]; exact h1.1)
          have g1 : wr.cell? ⟨b, o + k * 3 + 1, none⟩ = some (.int .i64 (actAt l k).i) := (hst.ho.cell (p := ⟨b, o + k * 3 + 1, none⟩) hb (fun h => h)).trans (by rw [Nat.add_assoc, hc _ (by have := Hn.out; omega)]; exact h1.2.1)
          have g2 : wr.cell? ⟨b, o + k * 3 + 2, none⟩ = some (.int .i64 (actAt l k).n) := (hst.ho.cell (p := ⟨b, o + k * 3 + 2, none⟩) hb (fun h => h)).trans (by rw [Nat.add_assoc, hc _ (by have := Hn.out; omega)]; exact h1.2.2)
          clear hc h1 hfl
          obtain ⟨⟨ak, ai, an⟩, hact⟩ : ∃ a, a = actAt l k := ⟨_, rfl⟩
          rw [← hact] at g0 g1 g2
          simp only at g0 g1 g2
          have hg2 := hst.hg.three.1.2.2
          clear hact
          obtain ⟨W1, hW1⟩ : ∃ W1, W1 = wr.alloc (.cells #[.int .i64 ak, .int .i64 ai, .int .i64 an] 31) := ⟨_, rfl⟩
          have hst1 : PlaySt w W1 #[.int .i64 most, .int .i64 quantum, .slice (some ⟨b, o, none⟩) n c] mo qu pb ph xb m L A1 c1 := by rw [hW1]; exact hst.alloc _
          have hab : Blk W1 wr.heap.size 31 #[.int .i64 ak, .int .i64 ai, .int .i64 an] := by rw [hW1]; exact Blk.new _ _ _
          have HW1 := hide hW1
          have hne1 := hst.lt3
          clear hW1 hX
          go_upto_block 2 with fail
          rw [← HW1.out]
          clear g0 g1 g2 hg2 hst
          go_cut [9] (fun _ wx => ∃ m L A1 c1, PlaySt w wx #[.int .i64 most, .int .i64 quantum, .slice (some ⟨b, o, none⟩) n c] mo qu pb ph xb m L A1 c1 ∧ Blk wx wr.heap.size 31 #[.int .i64 ak, .int .i64 ai, .int .i64 an])
          case first =>
            have hL := (PRel.small hst1.rel).1
            have hQ := (PRel.small hst1.rel).2
            have hxlt := hst1.hx.lt
            have hxw := hst1.lt3
            have habx : wr.heap.size ≠ xb := by have := hne1 xb (Or.inr (Or.inr rfl)); omega
            have habh : wr.heap.size ≠ ph := by have := hne1 ph (Or.inr (Or.inl rfl)); omega
            have hxph : xb ≠ ph := fun e => hst1.hn.2.2.2.2 e.symm
            obtain ⟨⟨x0, x1, x2⟩, _⟩ := hst1.hx.three
            obtain ⟨⟨a0, a1, a2⟩, _⟩ := hab.three
            have Hst1 := hide hst1
            have Hab := hide hab
            have Hw := hide hxw
            clear hst1 hab hxw hne1
            by_cases hk0 : ak = 0
            · have hkb : (ak == 0) = true := by simp [hk0]
              clear hk0
              go_wp2_with fail
              refine (PGive_c (M3 pb ph xb) mo qu ai A1 c1 L W1 Hst1.out.hrd Hw.out hL hQ).mono ?_
              rintro e w2 ⟨A2, c2, rfl, hR2, hb2⟩
              have hh := Hst1.out.store hb2 hR2 (c2 := c2)
              have ha3 : Blk (((w2.setCell ⟨xb, 0, none⟩ (.int .i64 mo)).setCell ⟨xb, 1, none⟩ (.int .i64 qu)).setCell ⟨xb, 2, none⟩ (.slice A2 (setL mo L ai (hasL L ai + qu)).length c2)) wr.heap.size 31 #[.int .i64 ak, .int .i64 ai, .int .i64 an] := (((Hab.out.below hb2).far habx _).far habx _).far habx _
              obtain ⟨⟨z0, z1, z2⟩, f0, f1, f2⟩ := (Hst1.out.hx.below hb2).three
              have e1 := (Hab.out.below hb2).three.1.2.1
              go_wp2_with fail
              obtain ⟨W3, hW3⟩ : ∃ W3, W3 = (((w2.setCell ⟨xb, 0, none⟩ (.int .i64 mo)).setCell ⟨xb, 1, none⟩ (.int .i64 qu)).setCell ⟨xb, 2, none⟩ (.slice A2 (setL mo L ai (hasL L ai + qu)).length c2)) := ⟨_, rfl⟩
              rw [← hW3] at hh ha3 ⊢
              have hR3 := Hst1.out.rel.give ai
              obtain ⟨L2, hL2⟩ : ∃ L2, L2 = setL mo L ai (hasL L ai + qu) := ⟨_, rfl⟩
              rw [← hL2] at hh hR3 ⊢
              have hval : (m.give ai).has ai = hasL L2 ai := hR3.has ai
              have hL3 := (PRel.small hR3).1
              have Hval := hide hval
              have Hh := hide hh
              have Ha3 := hide ha3
              have HR3 := hide hR3
              obtain ⟨⟨y0, y1, y2⟩, _⟩ := hh.hx.three
              have y3 := ha3.three.1.2.1
              clear z0 z1 z2 f0 f1 f2 e1 x0 x1 x2 a0 a1 a2 hW3 hL2 hval hh ha3 hR3 hb2 hR2
              go_region_held3 (fun w' => w'.cell? ⟨xb, 0, none⟩ = some (.int .i64 mo) ∧ w'.cell? ⟨xb, 1, none⟩ = some (.int .i64 qu) ∧ w'.cell? ⟨xb, 2, none⟩ = some (.slice A2 L2.length c2) ∧ w'.cell? ⟨wr.heap.size, 1, none⟩ = some (.int .i64 ai)) (go_keep)
                (first
                  | (go_at_call 21
                     refine (Give_c ai Hh.out.hp.drew Hh.out.ok).mono ?_
                     rintro e w4 ⟨he, hp4, ho4⟩
                     rw [Hval.out] at he
                     subst he
                     have u0_ := okeep ho4 hxph y0
                     have u1_ := okeep ho4 hxph y1
                     have u2_ := okeep ho4 hxph y2
                     have u3_ := okeep ho4 habh y3
                     have hst4 := Hh.out.drew.purse hp4 ho4 HR3.out
                     have Hst4 := hide hst4
                     clear hst4 hp4)
                  | (go_at_call 28
                     refine (PHas_c (M3 pb ph xb) mo qu ai A2 c2 L2 _ Hst4.out.hrd hL3.1).mono ?_
                     rintro e w5 ⟨rfl, hb5⟩
                     have t0_ := bkeep hb5 u0_
                     have t1_ := bkeep hb5 u1_
                     have t2_ := bkeep hb5 u2_
                     have t3_ := bkeep hb5 u3_))
              go_wp2_with fail
              go_meet
              exact ⟨m.give ai, L2, A2, c2, Hst4.out.below hb5, (Ha3.out.drew.only ho4 habh).below hb5⟩
            · have hkb : (ak == 0) = false := by simp [hk0]
              clear hk0
              by_cases hk1 : ak = 1
              · have hkb1 : (ak == 1) = true := by simp [hk1]
                clear hk1
                go_wp2_with fail
                refine (PPay_c (M3 pb ph xb) mo qu ai an A1 c1 L W1 Hst1.out.hrd Hw.out hL).mono ?_
                rintro e w2 ⟨A2, c2, rfl, hR2, hb2⟩
                have hh := Hst1.out.store hb2 hR2 (c2 := c2)
                have ha3 : Blk (((w2.setCell ⟨xb, 0, none⟩ (.int .i64 mo)).setCell ⟨xb, 1, none⟩ (.int .i64 qu)).setCell ⟨xb, 2, none⟩ (.slice A2 (payL mo L ai an).length c2)) wr.heap.size 31 #[.int .i64 ak, .int .i64 ai, .int .i64 an] := (((Hab.out.below hb2).far habx _).far habx _).far habx _
                obtain ⟨⟨z0, z1, z2⟩, f0, f1, f2⟩ := (Hst1.out.hx.below hb2).three
                have e1 := (Hab.out.below hb2).three.1.2.1
                have e2 := (Hab.out.below hb2).three.1.2.2
                have hR3 := Hst1.out.rel.pay ai an
                have hval : m.can ai an = canL mo L ai an := Hst1.out.rel.can ai an
                have Hval := hide hval
                have Hh := hide hh
                have Ha3 := hide ha3
                have HR3 := hide hR3
                clear x0 x1 x2 a0 a1 a2 hval hh ha3 hR3 hb2 hR2
                go_wp2_with fail
                refine (Pay_c ai an Hh.out.hp Hh.out.ok).mono ?_
                rintro e w4 ⟨he, hp4, ho4⟩
                rw [Hval.out] at he
                subst he
                have hst4 := Hh.out.purse hp4 ho4 HR3.out
                have Hst4 := hide hst4
                clear hst4 hp4 z0 z1 z2 f0 f1 f2 e1 e2
                go_wp2_with fail
                go_meet
                exact ⟨m.pay ai an, _, A2, c2, Hst4.out, Ha3.out.only ho4 habh⟩
              · have hkb1 : (ak == 1) = false := by simp [hk1]
                clear hk1
                by_cases hk2 : ak = 2
                · have hkb2 : (ak == 2) = true := by simp [hk2]
                  clear hk2
                  have hval : m.has ai = hasL L ai := Hst1.out.rel.has ai
                  have Hval := hide hval
                  clear hval
                  go_wp2_with fail
                  go_region_held3 (fun w' => w'.cell? ⟨xb, 0, none⟩ = some (.int .i64 mo) ∧ w'.cell? ⟨xb, 1, none⟩ = some (.int .i64 qu) ∧ w'.cell? ⟨xb, 2, none⟩ = some (.slice A1 L.length c1) ∧ w'.cell? ⟨wr.heap.size, 1, none⟩ = some (.int .i64 ai)) (go_keep)
                    (first
                      | (go_at_call 24
                         refine (Clear_c ai Hst1.out.hp.drew Hst1.out.rel.ok).mono ?_
                         rintro e w4 ⟨he, hp4, ho4⟩
                         rw [Hval.out] at he
                         subst he
                         have u0_ := okeep ho4 hxph x0
                         have u1_ := okeep ho4 hxph x1
                         have u2_ := okeep ho4 hxph x2
                         have u3_ := okeep ho4 habh a1
                         have hst4 := Hst1.out.drew.ahead hp4 ho4 (Hst1.out.rel.ok.clear ai)
                         have Hst4 := hide hst4
                         have Hab4 := hide (Hab.out.drew.only ho4 habh)
                         clear hst4 hp4)
                      | (go_at_call 28
                         refine (PHas_c (M3 pb ph xb) mo qu ai A1 c1 L _ Hst4.out.hrd hL.1).mono ?_
                         rintro e w5 ⟨rfl, hb5⟩
                         have t0_ := bkeep hb5 u0_
                         have t1_ := bkeep hb5 u1_
                         have t2_ := bkeep hb5 u2_
                         have t3_ := bkeep hb5 u3_
                         have Hst5 := hide (Hst4.out.below hb5)
                         have Hab5 := hide (Hab4.out.below hb5)))
                  go_wp2_with fail
                  refine (PClear_c (M3 pb ph xb) mo qu ai A1 c1 L _ Hst5.out.hrd Hst5.out.lt3 hL).mono ?_
                  rintro e w2 ⟨A2, c2, rfl, hR2, hb2⟩
                  have hh := Hst5.out.store hb2 hR2 (Hst1.out.rel.clear ai) (c2 := c2)
                  have ha3 : Blk (((w2.setCell ⟨xb, 0, none⟩ (.int .i64 mo)).setCell ⟨xb, 1, none⟩ (.int .i64 qu)).setCell ⟨xb, 2, none⟩ (.slice A2 (setL mo L ai 0).length c2)) wr.heap.size 31 #[.int .i64 ak, .int .i64 ai, .int .i64 an] := (((Hab5.out.below hb2).far habx _).far habx _).far habx _
                  obtain ⟨⟨z0, z1, z2⟩, f0, f1, f2⟩ := (Hst5.out.hx.below hb2).three
                  have Hh := hide hh
                  have Ha3 := hide ha3
                  clear x0 x1 x2 a0 a1 a2 hh ha3 hb2 hR2
                  go_wp2_with fail
                  go_meet
                  exact ⟨m.clear ai, _, A2, c2, Hh.out, Ha3.out⟩
                · have hkb2 : (ak == 2) = false := by simp [hk2]
                  clear hk2
                  go_wp2_with fail
                  go_meet
                  exact ⟨m, L, A1, c1, Hst1.out, Hab.out⟩
          case rest =>
            obtain ⟨m, L, A1, c1, hst, hab⟩ := hcut
            have hL := (PRel.small hst.rel).1
            have hfew := hst.rel.few
            obtain ⟨⟨x0, x1, x2⟩, _⟩ := hst.hx.three
            have a1 := hab.three.1.2.1
            have okm := hst.rel.ok
            have Hmem := hide hL.2
            have Hhas := hide hst.rel.has
            have Hsum := hide hst.rel.sum
            have hL1 := hL.1
            have hrd := hst.hrd
            have hpd : PurseAt wc.drew pb ph m := hst.hp.drew
            have hrdd : Rd wc.drew (M3 pb ph xb) A1 (ones L) := hrd.drew
            have hstd := hst.drew
            have y0_ : wc.drew.cell? ⟨xb, 0, none⟩ = some (.int .i64 mo) := x0
            have y1_ : wc.drew.cell? ⟨xb, 1, none⟩ = some (.int .i64 qu) := x1
            have y2_ : wc.drew.cell? ⟨xb, 2, none⟩ = some (.slice A1 L.length c1) := x2
            have y3_ : wc.drew.cell? ⟨wr.heap.size, 1, none⟩ = some (.int .i64 ai) := a1
            have Hone := hide (fun j hj => ones_at L j hj)
            clear hL hab hst hne1
            go_wp2_with fail
            go_loop [10, 11] (fun s i => ∃ j : Nat, j ≤ L.length ∧ i = .int .i64 j ∧ s = .int .i64 (sum2 (L.take j))) (fun _ i => L.length - (intOf i).toNat)
            case atStart => exact ⟨0, Nat.zero_le _, rfl, rfl⟩
            case round =>
              obtain ⟨j, hj, rfl, rfl⟩ := hrel
              obtain ⟨s0, s1⟩ := sum2_bd L Hmem.out j hj
              by_cases hjl : j < L.length
              · obtain ⟨n0, n1⟩ := oneN_bd L Hmem.out j hjl
                have hlen2 := ones_len L
                have Hlen2 := hide hlen2
                obtain ⟨b2, o2, hA1, _, _, hc2⟩ := hrd.at_ (j := j * 2) (by omega)
                have HA1 := hide hA1
                have hv : wc.cell? ⟨b2, o2 + j * 2 + 1, none⟩ = some (.int .i64 (oneN L j)) := by rw [Nat.add_assoc, hc2 _ (by omega)]; exact (Hone.out j hjl).2
                have HS := hide (sum2_snoc L j hjl)
                clear hc2 hlen2
                subst hA1
                go_wp2_with fail
                go_round
                case rel => exact ⟨j + 1, by omega, by go_num, by rw [HS.out]⟩
                case measure => simp [intOf]; omega
              · have hjd : decide (j < L.length) = false := by simp; omega
                have HT := hide (show sum2 (L.take j) = sumInts m.l by rw [List.take_of_length_le (by omega)]; exact Hsum.out.symm)
                obtain ⟨sm, hsm⟩ : ∃ sm, sm = sum2 (L.take j) := ⟨_, rfl⟩
                have HSm := hide (hsm.trans HT.out)
                rw [← hsm]
                clear hsm s0 s1
                have HhasA := hide (Hhas.out)
                go_wp2_with fail
                go_region_held3 (fun w' => w'.cell? ⟨xb, 0, none⟩ = some (.int .i64 mo) ∧ w'.cell? ⟨xb, 1, none⟩ = some (.int .i64 qu) ∧ w'.cell? ⟨xb, 2, none⟩ = some (.slice A1 L.length c1) ∧ w'.cell? ⟨wr.heap.size, 1, none⟩ = some (.int .i64 ai)) (go_keep)
                  (first
                    | (go_at_call 22
                       refine (Has_c (b := pb) (h := ph) (m := m) _ (by assumption) okm).mono ?_
                       rintro e w4 ⟨he, rfl⟩
                       rw [HhasA.out] at he
                       subst he)
                    | (go_at_call 31
                       refine (All_c (b := pb) (h := ph) (m := m) (by assumption) okm).mono ?_
                       rintro e w4 ⟨he, rfl⟩
                       rw [← HSm.out] at he
                       subst he)
                    | (go_at_call 28
                       refine (PHas_c (M3 pb ph xb) mo qu _ A1 c1 L _ (by assumption) hL1).mono ?_
                       rintro e w5 ⟨rfl, hb5⟩
                       have t0_ : w5.cell? ⟨xb, 0, none⟩ = some (.int .i64 mo) := bkeep hb5 (by assumption)
                       have t1_ : w5.cell? ⟨xb, 1, none⟩ = some (.int .i64 qu) := bkeep hb5 (by assumption)
                       have t2_ : w5.cell? ⟨xb, 2, none⟩ = some (.slice A1 L.length c1) := bkeep hb5 (by assumption)
                       have t3_ : w5.cell? ⟨wr.heap.size, 1, none⟩ = some (.int .i64 ai) := bkeep hb5 (by assumption)
                       have t4_ : PurseAt w5 pb ph m := PurseAt.below (by assumption) hb5
                       have t5_ : Rd w5 (M3 pb ph xb) A1 (ones L) := Rd.below (by assumption) hb5
                       have t6_ : PlaySt w w5 #[.int .i64 most, .int .i64 quantum, .slice (some ⟨b, o, none⟩) n c] mo qu pb ph xb m L A1 c1 := PlaySt.below (by assumption) hb5))
                go_wp2_with fail
                go_roundw
                case rel => exact ⟨k + 1, by omega, by omega, by go_num, m, L, A1, c1, by assumption⟩
                case measure => simp [intOf]; omega
        · have hd : decide ((k : Int) < 30) = false := by simp; omega
          have hg2 := hst.hg.three.1.2.2
          have ho := hst.ho
          clear hst hX
          go_wp2_with fail
          refine (purse_lives _).mono ?_
          rintro e w3 ⟨rfl, ho3⟩
          go_wp2_with fail
          go_ret
          exact ⟨rfl, ho.trans ho3⟩
      · have hd : decide ((k : Int) < n) = false := by simp; omega
        have hg2 := hst.hg.three.1.2.2
        have ho := hst.ho
        clear hst hX
        go_wp2_with fail
        refine (purse_lives _).mono ?_
        rintro e w3 ⟨rfl, ho3⟩
        go_wp2_with fail
        go_ret
        exact ⟨rfl, ho.trans ho3⟩
end Go.Proofs.Ytmkbhejbbhikcaa
