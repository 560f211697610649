/- The walk of TurnsPlay. Conditions: those of each theorem. -/
import Derived.Test.YtmkbhejbbhikcaaTurnsTold
namespace Go.Proofs.Ytmkbhejbbhikcaa
open Go.RowKit
set_option linter.unusedVariables false

theorem akeepT {W : World} {p : Addr} {v : Value} (h : W.cell? p = some v) (o : Obj) : (W.alloc o).cell? p = some v := (World.cell?_alloc_lt W o p (World.block_lt_of_cell? W p h)).trans h
/-- turns here, the reference's there in block g -/
structure QSt (w wx : World) (p : TP) (N : Nat) (mo q : Int) (g : Nat) (cs : Array Value) (s : TS) (x : RT) : Prop where
  t : TurnsAt wx p N s
  x : ∃ A c B d, Blk wx g 102 #[.slice A x.L.length c, .int .i64 mo, .int .i64 q, .slice B x.l.length d, .int .i64 x.who, .int .i64 x.done] ∧ Rd wx (QM p g) A (ints x.L) ∧ Rd wx (QM p g) B (ones x.l) ∧ x.L.length ≤ c
  b : Blk wx w.heap.size 100 cs
  ho : Only NoBlk w wx
  ng : ¬ p.all g ∧ w.heap.size < g ∧ ¬ p.all w.heap.size
  fs : ∀ i, p.all i → w.heap.size ≤ i
section
variable {w wx : World} {p : TP} {N : Nat} {mo q : Int} {g : Nat} {cs : Array Value} {s : TS} {x : RT}
theorem QSt.onl {w' : World} (h : QSt w wx p N mo q g cs s x) (k : Only NoBlk wx w') : QSt w w' p N mo q g cs s x := by
  obtain ⟨A, c, B, d, hx, hA, hB, hc⟩ := h.x
  exact ⟨h.t.only0 k, ⟨A, c, B, d, hx.only k (fun h => h), hA.only k (fun _ h => h.elim), hB.only k (fun _ h => h.elim), hc⟩, h.b.only k (fun h => h), h.ho.trans k, h.ng, h.fs⟩
theorem QSt.alloc (h : QSt w wx p N mo q g cs s x) (o : Obj) : QSt w (wx.alloc o) p N mo q g cs s x := h.onl ((Only.refl _ _).alloc o)
theorem QSt.lt (h : QSt w wx p N mo q g cs s x) : ∀ k, QM p g k → k < wx.heap.size := by
  obtain ⟨A, c, B, d, hx, _⟩ := h.x
  intro k hk
  rcases hk with hk | rfl
  · exact h.t.lt k hk
  · exact hx.lt
theorem six_only {w0 w1 : World} {S : Nat → Prop} (h : Only S w0 w1) {g : Nat} (hg : S g ∨ w0.heap.size ≤ g) (a b c d e f : Value) : Only S w0 (six w1 g a b c d e f) :=
  (((((h.setCell (p := ⟨g, 0, none⟩) hg _).setCell (p := ⟨g, 1, none⟩) hg _).setCell (p := ⟨g, 2, none⟩) hg _).setCell (p := ⟨g, 3, none⟩) hg _).setCell (p := ⟨g, 4, none⟩) hg _).setCell (p := ⟨g, 5, none⟩) hg _
theorem six_self (w1 : World) (g : Nat) (a b c d e f : Value) : Only (· = g) w1 (six w1 g a b c d e f) := six_only (S := (· = g)) (Only.refl _ _) (Or.inl rfl) _ _ _ _ _ _
theorem six_blk {w1 : World} {g : Nat} {t : TypeId} {a' b' c' d' e' f' : Value} (h : Blk w1 g t #[a', b', c', d', e', f']) (a b c d e f : Value) : Blk (six w1 g a b c d e f) g t #[a, b, c, d, e, f] :=
  (((((h.set_ 0 a).set_ 1 b).set_ 2 c).set_ 3 d).set_ 4 e).set_ 5 f
/-- the reference's answer is stored -/
theorem QSt.store {w2 : World} {A2 B2 : Option Addr} {c2 d2 : Nat} {x2 : RT} (h : QSt w wx p N mo q g cs s x) (hb : Below wx.heap.size wx w2) (hA : Rd w2 (QM p g) A2 (ints x2.L)) (hB : Rd w2 (QM p g) B2 (ones x2.l)) (hc : x2.L.length ≤ c2) :
    QSt w (six w2 g (.slice A2 x2.L.length c2) (.int .i64 mo) (.int .i64 q) (.slice B2 x2.l.length d2) (.int .i64 x2.who) (.int .i64 x2.done)) p N mo q g cs s x2 := by
  have h2 := h.onl (Only.of_below hb NoBlk)
  obtain ⟨A, c, B, d, hx, _⟩ := h2.x
  have k : Only (· = g) w2 (six w2 g (.slice A2 x2.L.length c2) (.int .i64 mo) (.int .i64 q) (.slice B2 x2.l.length d2) (.int .i64 x2.who) (.int .i64 x2.done)) := six_self _ _ _ _ _ _ _ _
  exact ⟨h2.t.only k (fun i hi e => h.ng.1 (e ▸ hi)), ⟨A2, c2, B2, d2, six_blk hx _ _ _ _ _ _, six_rd hA (Or.inr rfl) _ _ _ _ _ _, six_rd hB (Or.inr rfl) _ _ _ _ _ _, hc⟩, h2.b.only k (by have := h.ng.2.1; omega), h2.ho.fresh k (fun i _ hi => Or.inr (by have := h.ng.2.1; omega)), h.ng, h.fs⟩
/-- the program's step -/
theorem QSt.step {w' : World} {s' : TS} (h : QSt w wx p N mo q g cs s x) (ht : TurnsAt w' p N s') (k : Only p.all wx w') : QSt w w' p N mo q g cs s' x := by
  obtain ⟨A, c, B, d, hx, hA, hB, hc⟩ := h.x
  exact ⟨ht, ⟨A, c, B, d, hx.only k h.ng.1, hA.only k (fun _ h => Or.inl h), hB.only k (fun _ h => Or.inl h), hc⟩, h.b.only k h.ng.2.2, h.ho.fresh k (fun i _ hi => Or.inr (h.fs i hi)), h.ng, h.fs⟩
end
theorem wake_done (s : TS) (N : Nat) (id : Int) : (s.wake N id).done = s.done := by unfold TS.wake; split <;> rfl
theorem pay_done (s : TS) (pr : Int) : (s.pay pr).done = s.done := by unfold TS.pay; split <;> rfl
theorem end_done (s : TS) (N : Nat) (b : Bool) : (s.end_ N b).done = s.done := by unfold TS.end_; split; rfl; split <;> rfl
theorem leave_done (s : TS) (id : Int) : (s.leave id).done = s.done := by unfold TS.leave; split; rfl; split <;> rfl
theorem begin_done (s : TS) : s.begin_.done ≤ s.done + 1 := by
  obtain ⟨L, m, who, done⟩ := s
  unfold TS.begin_
  simp only
  split
  · cases L
    · show done ≤ done + 1; omega
    · show done + 1 ≤ done + 1; omega
  · show done ≤ done + 1; omega

/-- both are one -/
structure QOk (w wx : World) (p : TP) (N : Nat) (mo q : Int) (g : Nat) (cs : Array Value) (k : Nat) : Prop where
  ex : ∃ s l, QSt w wx p N mo q g cs s (RT.of s l) ∧ PRel s.m mo q l ∧ OffRow s ∧ s.done ≤ k
theorem meet_q {w wf : World} {p : TP} {g : Nat} {cs : Array Value} {most quantum : Int} {N : Nat} {B : Option Addr} {d : Nat} (hN : N = (clip most 1 1024).toNat) (ht : TurnsAt wf p N (newTS most quantum)) (hx : Blk wf g 102 #[.slice none 0 0, .int .i64 (within most 1 1024), .int .i64 (within quantum 1 1000000), .slice B 0 d, .int .i64 (-1), .int .i64 0])
    (hb : Blk wf w.heap.size 100 cs) (ho : Only NoBlk w wf) (ng : ¬ p.all g ∧ w.heap.size < g ∧ ¬ p.all w.heap.size) (fs : ∀ i, p.all i → w.heap.size ≤ i) : QOk w wf p N (within most 1 1024) (within quantum 1 1000000) g cs 0 :=
  ⟨newTS most quantum, [], ⟨ht, ⟨none, 0, B, d, hx, Or.inl rfl, Or.inl rfl, Nat.le_refl _⟩, hb, ho, ng, fs⟩, PRel.new most quantum, Or.inr rfl, by show (0 : Int) ≤ _; omega⟩
theorem QOk.onl {w wx w' : World} {p : TP} {N : Nat} {mo q : Int} {g : Nat} {cs : Array Value} {k : Nat} (h : QOk w wx p N mo q g cs k) (ho : Only NoBlk wx w') : QOk w w' p N mo q g cs k := by
  obtain ⟨s, l, h1, h2⟩ := h.ex
  exact ⟨s, l, h1.onl ho, h2⟩
set_option maxRecDepth 100000 in
set_option maxHeartbeats 3200000 in
theorem TurnsPlay_walk (most quantum ask : Int) (A : Option Addr) (c : Nat) (l : List Act3) (w : World) (hr : Rd w NoBlk A (flat enc3 l)) (hn0 : l.length ≤ maxLen) :
    Calls Try.prog 16 #[.agg #[.int .i64 most, .int .i64 quantum, .slice A l.length c], .int .i64 ask] w fun e w' => e = .returned (.bool true) ∧ Only NoBlk w w' := by
  have hn : l.length ≤ 9223372036854775807 := hn0
  have hcell : ∀ k, k < l.length → ∃ b o, A = some ⟨b, o, none⟩ ∧ b < w.heap.size ∧ w.cell? ⟨b, o + k * 3, none⟩ = some (.int .i64 (actAt l k).k) ∧ w.cell? ⟨b, o + k * 3 + 1, none⟩ = some (.int .i64 (actAt l k).i) ∧ w.cell? ⟨b, o + k * 3 + 2, none⟩ = some (.int .i64 (actAt l k).n) := by
    intro k hk
    have hfl := flat_len enc3 3 enc3_len l
    obtain ⟨b, o, hA, _, hb, hc⟩ := hr.at_ (j := k * 3) (by omega)
    have h1 := acts_at l k hk
    exact ⟨b, o, hA, hb, by rw [hc _ (by omega)]; exact h1.1, by rw [Nat.add_assoc, hc _ (by omega)]; exact h1.2.1, by rw [Nat.add_assoc, hc _ (by omega)]; exact h1.2.2⟩
  obtain ⟨n, hnl⟩ : ∃ n, n = l.length := ⟨_, rfl⟩
  rw [← hnl] at hcell hn ⊢
  have Hc := hide hcell
  obtain ⟨N, hN⟩ : ∃ N : Nat, N = (clip most 1 1024).toNat := ⟨_, rfl⟩
  have hNw : within most 1 1024 = N := by rw [hN]; unfold clip within; split <;> first | omega | (split <;> omega)
  have HN := hide hN
  have HNw := hide hNw
  clear hr hn0 hcell hnl hN hNw
  obtain ⟨cs, hcs⟩ : ∃ cs : Array Value, cs = #[.int .i64 most, .int .i64 quantum, .slice A n c] := ⟨_, rfl⟩
  obtain ⟨W, hW⟩ : ∃ W, W = w.alloc (.cells #[.int .i64 most, .int .i64 quantum, .slice A n c] 100) := ⟨_, rfl⟩
  have hB0 : Blk W w.heap.size 100 cs := by rw [hW, hcs]; exact Blk.new w _ _
  have hwW : Only NoBlk w W := by rw [hW]; exact (Only.refl _ _).alloc _
  have HW := hide hW
  have Hcs := hide hcs
  clear hW hcs
  go_enter Try.func16, Try.ntmps16
  go_upto_region 1 with fail
  rw [← HW.out]
  have hB0' := hB0
  rw [Hcs.out] at hB0'
  obtain ⟨⟨k0, k1, _⟩, _⟩ := hB0'.three
  have hltW := hB0.lt
  have hneA : ¬ w.heap.size = W.heap.size := by omega
  have hneB : ¬ W.heap.size = w.heap.size := by omega
  clear hB0'
  go_cut [5, 6] (fun v5 v6 wx => ∃ (p : TP) (g : Nat), v5 = .pointer (some ⟨p.t, 0, none⟩) ∧ v6 = .pointer (some ⟨g, 0, none⟩) ∧ QOk w wx p N (within most 1 1024) (within quantum 1 1000000) g cs 0)
  case first =>
    go_region_held3 (fun w' => w'.cell? ⟨w.heap.size, 0, none⟩ = some (.int .i64 most) ∧ w'.cell? ⟨w.heap.size, 1, none⟩ = some (.int .i64 quantum))
      (go_keep)
      (first
        | (go_at_call 65
           refine (TNew_c most quantum _).mono ?_
           rintro e w1 ⟨p, rfl, ht, ho1, hfs⟩
           rw [← HN.out] at ht
           have Ht := hide ht
           have Hfs := hide hfs
           have x0 : w1.cell? ⟨w.heap.size, 0, none⟩ = some (.int .i64 most) := by first | exact okeep ho1 (fun h => h) k0 | exact okeep ho1 (fun h => h) (akeepT k0 _)
           have x1 : w1.cell? ⟨w.heap.size, 1, none⟩ = some (.int .i64 quantum) := by first | exact okeep ho1 (fun h => h) k1 | exact okeep ho1 (fun h => h) (akeepT k1 _)
           clear ht hfs
           have hsz : W.heap.size ≤ w1.heap.size := by first | exact ho1.size | exact Nat.le_trans (by simp) ho1.size
           have hne1 : ¬ w.heap.size = w1.heap.size := by omega
           have hne2 : ¬ w1.heap.size = w.heap.size := by omega
           try (have hZ0 : Blk (W.alloc (.cells #[.slice none 0 0, .int .i64 0, .int .i64 0, .slice none 0 0, .int .i64 0, .int .i64 0] 102)).drew W.heap.size 102 #[.slice none 0 0, .int .i64 0, .int .i64 0, .slice none 0 0, .int .i64 0, .int .i64 0] := Blk.new W _ _
                have hZ := hZ0.only ho1 (fun h => h)))
        | (go_at_call 71
           refine (TRNew_c most quantum _).mono ?_
           rintro e w2 ⟨B2, d2, rfl, hb2⟩
           have y0 : w2.cell? ⟨w.heap.size, 0, none⟩ = some (.int .i64 most) := by first | exact bkeep hb2 x0 | exact bkeep hb2 (akeepT x0 _)
           have y1 : w2.cell? ⟨w.heap.size, 1, none⟩ = some (.int .i64 quantum) := by first | exact bkeep hb2 x1 | exact bkeep hb2 (akeepT x1 _)
           try (have hZ2 := hZ.below hb2; have hz := hZ2.six; obtain ⟨⟨z0, z1, z2, z3, z4, z5⟩, f0, f1, f2, f3, f4, f5⟩ := hz)
           try (have hZ2 := (Blk.new w1 102 #[.slice none 0 0, .int .i64 0, .int .i64 0, .slice none 0 0, .int .i64 0, .int .i64 0]).below hb2; have hz := hZ2.six; obtain ⟨⟨z0, z1, z2, z3, z4, z5⟩, f0, f1, f2, f3, f4, f5⟩ := hz)))
    all_goals go_wp2_with fail
    all_goals go_meet
    · have hlt := Ht.out.lt
      have hs2 := hb2.size
      have hk := Only.of_below hb2 NoBlk
      have hfs' : ∀ i, p.all i → W.heap.size ≤ i := fun i hi => Hfs.out i hi
      exact ⟨p, w2.heap.size, rfl, rfl, meet_q HN.out ((Ht.out.only0 hk).only0 ((Only.refl _ _).alloc _)) (Blk.new w2 _ _) (((hB0.drew.only ho1 (fun h => h)).below hb2).alloc _) (((hwW.drew.trans ho1).trans hk).alloc _)
        ⟨fun h => by have := hlt _ h; omega, by omega, fun h => by have := hfs' _ h; omega⟩ (fun i hi => by have := hfs' i hi; omega)⟩
    · have hlt := Ht.out.lt
      have hk := Only.of_below hb2 NoBlk
      have hfs' : ∀ i, p.all i → W.heap.size ≤ i := fun i hi => Hfs.out i hi
      have k6 : Only (· = w1.heap.size) w2 (six w2 w1.heap.size (.slice none 0 0) (.int .i64 (within most 1 1024)) (.int .i64 (within quantum 1 1000000)) (.slice B2 0 d2) (.int .i64 (-1)) (.int .i64 0)) := six_self _ _ _ _ _ _ _ _
      exact ⟨p, w1.heap.size, rfl, rfl, meet_q HN.out ((((Ht.out.only0 ((Only.refl _ _).alloc _)).only0 hk)).only k6 (fun i hi e => by have := hlt _ hi; omega)) (six_blk hZ2 _ _ _ _ _ _) ((((hB0.drew.only ho1 (fun h => h)).alloc _).below hb2).only k6 (by omega)) ((((hwW.drew.trans ho1).alloc _).trans hk).fresh k6 (fun i _ hi => Or.inr (by omega)))
        ⟨fun h => by have := hlt _ h; omega, by omega, fun h => by have := hfs' _ h; omega⟩ (fun i hi => by have := hfs' i hi; omega)⟩
    · have hlt := Ht.out.lt
      have hk := Only.of_below hb2 NoBlk
      have hfs' : ∀ i, p.all i → W.heap.size + 1 ≤ i := fun i hi => by have := Hfs.out i hi; simpa using this
      have k6 : Only (· = W.heap.size) w2 (six w2 W.heap.size (.slice none 0 0) (.int .i64 (within most 1 1024)) (.int .i64 (within quantum 1 1000000)) (.slice B2 0 d2) (.int .i64 (-1)) (.int .i64 0)) := six_self _ _ _ _ _ _ _ _
      exact ⟨p, W.heap.size, rfl, rfl, meet_q HN.out ((Ht.out.only0 hk).only k6 (fun i hi e => by have := hfs' _ hi; omega)) (six_blk hZ2 _ _ _ _ _ _) ((((hB0.alloc _).drew.only ho1 (fun h => h)).below hb2).only k6 (by omega)) (((((hwW.alloc _).drew.trans ho1)).trans hk).fresh k6 (fun i _ hi => Or.inr (by omega)))
        ⟨fun h => by have := hfs' _ h; omega, by omega, fun h => by have := hfs' _ h; omega⟩ (fun i hi => by have := hfs' i hi; omega)⟩
  case rest =>
    obtain ⟨p, g, rfl, rfl, hst⟩ := hcut
    obtain ⟨q, hq⟩ : ∃ q, q = within quantum 1 1000000 := ⟨_, rfl⟩
    obtain ⟨mo, hmo⟩ : ∃ mo : Int, Hid (mo = N) := ⟨N, rfl⟩
    rw [← hq, HNw.out, ← hmo.out] at hst
    have HmN := hmo
    have Hst := hide hst
    clear hq hst hmo k0 k1 hltW hneA hneB hB0 hwW
    go_wp2_with fail
    go_loopw [7] (fun x wr => ∃ k : Nat, k ≤ n ∧ k ≤ 40 ∧ x = .int .i64 k ∧ QOk w wr p N mo q g cs k) (fun x _ => n - (intOf x).toNat)
    case atStart => exact ⟨0, Nat.zero_le _, by omega, rfl, Hst.out⟩
    case round =>
      clear Hst
      obtain ⟨k, hk, hk40, rfl, hst⟩ := hrel
      obtain ⟨s, l2, hst, hPR, hoff, hdn⟩ := hst.ex
      have hbb := hst.b
      rw [Hcs.out] at hbb
      have k2 := hbb.three.1.2.2
      clear hbb
      by_cases hlt : k < n
      · by_cases hlt40 : k < 40
        · obtain ⟨b, o, rfl, hbl, g0, g1, g2⟩ := Hc.out k hlt
          replace g0 := (hst.ho.cell (p := ⟨b, o + k * 3, none⟩) hbl (fun h => h)).trans g0
          replace g1 := (hst.ho.cell (p := ⟨b, o + k * 3 + 1, none⟩) hbl (fun h => h)).trans g1
          replace g2 := (hst.ho.cell (p := ⟨b, o + k * 3 + 2, none⟩) hbl (fun h => h)).trans g2
          obtain ⟨⟨ak, ai, an⟩, hact⟩ : ∃ a, a = actAt l k := ⟨_, rfl⟩
          rw [← hact] at g0 g1 g2
          simp only at g0 g1 g2
          clear hact
          obtain ⟨W1, hW1⟩ : ∃ W1, W1 = wr.alloc (.cells #[.int .i64 ak, .int .i64 ai, .int .i64 an] 96) := ⟨_, rfl⟩
          have hst1 : QSt w W1 p N mo q g cs s (RT.of s l2) := by rw [hW1]; exact hst.alloc _
          have hab : Blk W1 wr.heap.size 96 #[.int .i64 ak, .int .i64 ai, .int .i64 an] := by rw [hW1]; exact Blk.new _ _ _
          obtain ⟨a, ha⟩ : ∃ a, a = wr.heap.size := ⟨_, rfl⟩
          have hag : ¬ QM p g a := fun h => by have := hst.lt a h; omega
          rw [← ha] at hab
          have HW1 := hide hW1
          have HA := hide ha
          clear hW1 hst ha
          go_upto_block 2 with fail
          rw [← HW1.out, ← HA.out]
          clear g0 g1 g2 k2
          go_cut [9, 11] (fun v9 v11 wx => ∃ ok : Bool, v9 = .bool ok ∧ v11 = .bool ok ∧ QOk w wx p N mo q g cs (k + 1) ∧ Blk wx a 96 #[.int .i64 ak, .int .i64 ai, .int .i64 an])
          case first =>
            have hw : Hid (WhoOk N s) := hst1.t.who
            have hnd := hide hst1.t.row.nodup
            have hfew := hst1.t.row.few
            have hn1 : s.L.length ≤ 100000 := by omega
            have hsm := hide hPR.small
            have hlt1 := hide hst1.lt
            have hap : ¬ p.all a := fun h => hag (Or.inl h)
            have hne1 : ¬ a = g := fun h => hag (Or.inr h)
            have hne2 : ¬ g = a := fun h => hag (Or.inr h.symm)
            obtain ⟨Ax, cx, Bx, dx, hx, hAx, hBx, hcx⟩ := hst1.x
            obtain ⟨⟨y0, y1, y2, y3, y4, y5⟩, _⟩ := hx.six
            obtain ⟨⟨a0, a1, a2⟩, _⟩ := hab.three
            by_cases hk0 : ak = 0
            · subst hk0
              have hP2 : PRel (s.wake N ai).m mo q l2 := by unfold TS.wake; split <;> exact hPR
              have hc1 := TRWake_c (QM p g) mo q Ax cx Bx dx (RT.of s l2) W1 hAx hBx hlt1.out hcx hn1 ai
              rw [(wake_eq (l := l2) hw.out HmN.out ai).1, (wake_eq (l := l2) hw.out HmN.out ai).2] at hc1
              have HC1 := hide hc1
              clear hc1
              go_wp2_with fail
              refine HC1.out.mono ?_
              rintro e w2 ⟨A2, c2, B2, d2, rfl, hA2, hB2, hc2, hb2⟩
              have H2 := hide (hst1.store (d2 := d2) hb2 hA2 hB2 hc2)
              obtain ⟨⟨z0, z1, z2, z3, z4, z5⟩, f0, f1, f2, f3, f4, f5⟩ := (hx.below hb2).six
              have b2 := hab.below hb2
              obtain ⟨⟨b20, b21, b22⟩, _⟩ := b2.three
              have HB := hide (b2.only (six_self w2 g (.slice A2 (RT.of (s.wake N ai) l2).L.length c2) (.int .i64 mo) (.int .i64 q) (.slice B2 (RT.of (s.wake N ai) l2).l.length d2) (.int .i64 (RT.of (s.wake N ai) l2).who) (.int .i64 (RT.of (s.wake N ai) l2).done)) (by omega))
              clear hb2 hA2 hB2 hc2 y0 y1 y2 y3 y4 y5 a0 a1 a2 b2
              go_wp2_with fail
              refine (Wake_c ai H2.out.t).mono ?_
              rintro e w4 ⟨rfl, ht4, ho4⟩
              have H4 := hide (H2.out.step ht4 ho4)
              have HB4 := hide (HB.out.only ho4 hap)
              clear ht4 ho4 z0 z1 z2 z3 z4 z5 f0 f1 f2 f3 f4 f5 b20 b21 b22
              go_wp2_with fail
              go_meet
              exact ⟨_, rfl, rfl, ⟨_, l2, H4.out, hP2, hoff.wake ai, by rw [wake_done]; omega⟩, HB4.out⟩
            · by_cases hk1 : ak = 1
              · subst hk1
                obtain ⟨l3, he3, hP2⟩ := begin_eq hw.out hPR
                have hc1 := TRBegin_c (QM p g) mo q Ax cx Bx dx (RT.of s l2) W1 hAx hBx hlt1.out hcx hn1 hsm.out.1 hsm.out.2 (show 0 ≤ s.done from hst1.t.done0) (show s.done < 1000000 by omega)
                rw [he3] at hc1
                rcases begins_eq (l := l2) hw.out (fun x hx => (hnd.out.2 x hx).1) with ⟨_, h0, hbo⟩ | ⟨h0, hbo⟩
                · obtain ⟨bx, hbx⟩ : ∃ bx, bx = (RT.of s l2).begins := ⟨_, rfl⟩
                  rw [← hbx] at hc1 h0 hbo
                  have HC1 := hide hc1
                  have HBO := hide hbo
                  have hd0 : decide (0 ≤ bx) = true := by simpa using h0
                  clear hc1 hbx hbo
                  go_wp2_with fail
                  refine HC1.out.mono ?_
                  rintro e w2 ⟨A2, c2, B2, d2, rfl, hA2, hB2, hc2, hb2⟩
                  have H2 := hide (hst1.store (d2 := d2) hb2 hA2 hB2 hc2)
                  obtain ⟨⟨z0, z1, z2, z3, z4, z5⟩, f0, f1, f2, f3, f4, f5⟩ := (hx.below hb2).six
                  have b2 := hab.below hb2
                  obtain ⟨⟨b20, b21, b22⟩, _⟩ := b2.three
                  have HB := hide (b2.only (six_self w2 g (.slice A2 (RT.of s.begin_ l3).L.length c2) (.int .i64 mo) (.int .i64 q) (.slice B2 (RT.of s.begin_ l3).l.length d2) (.int .i64 (RT.of s.begin_ l3).who) (.int .i64 (RT.of s.begin_ l3).done)) (by omega))
                  clear hb2 hA2 hB2 hc2 y0 y1 y2 y3 y4 y5 a0 a1 a2 b2
                  go_wp2_with fail
                  refine (Begin_c H2.out.t (by omega)).mono ?_
                  rw [HBO.out]
                  rintro e w4 ⟨rfl, ht4, ho4⟩
                  have H4 := hide (H2.out.step ht4 ho4)
                  have HB4 := hide (HB.out.only ho4 hap)
                  clear ht4 ho4 z0 z1 z2 z3 z4 z5 f0 f1 f2 f3 f4 f5 b20 b21 b22
                  go_wp2_with fail
                  go_meet
                  exact ⟨_, rfl, rfl, ⟨_, l3, H4.out, hP2, hoff.begin_ hnd.out.1, by have := begin_done s; omega⟩, HB4.out⟩
                · rw [h0] at hc1
                  have HC1 := hide hc1
                  have HBO := hide hbo
                  clear hc1 hbo h0
                  go_wp2_with fail
                  refine HC1.out.mono ?_
                  rintro e w2 ⟨A2, c2, B2, d2, rfl, hA2, hB2, hc2, hb2⟩
                  have H2 := hide (hst1.store (d2 := d2) hb2 hA2 hB2 hc2)
                  obtain ⟨⟨z0, z1, z2, z3, z4, z5⟩, f0, f1, f2, f3, f4, f5⟩ := (hx.below hb2).six
                  have b2 := hab.below hb2
                  obtain ⟨⟨b20, b21, b22⟩, _⟩ := b2.three
                  have HB := hide (b2.only (six_self w2 g (.slice A2 (RT.of s.begin_ l3).L.length c2) (.int .i64 mo) (.int .i64 q) (.slice B2 (RT.of s.begin_ l3).l.length d2) (.int .i64 (RT.of s.begin_ l3).who) (.int .i64 (RT.of s.begin_ l3).done)) (by omega))
                  clear hb2 hA2 hB2 hc2 y0 y1 y2 y3 y4 y5 a0 a1 a2 b2
                  go_wp2_with fail
                  refine (Begin_c H2.out.t (by omega)).mono ?_
                  rw [HBO.out]
                  rintro e w4 ⟨rfl, ht4, ho4⟩
                  have H4 := hide (H2.out.step ht4 ho4)
                  have HB4 := hide (HB.out.only ho4 hap)
                  clear ht4 ho4 z0 z1 z2 z3 z4 z5 f0 f1 f2 f3 f4 f5 b20 b21 b22
                  go_wp2_with fail
                  go_meet
                  exact ⟨_, rfl, rfl, ⟨_, l3, H4.out, hP2, hoff.begin_ hnd.out.1, by have := begin_done s; omega⟩, HB4.out⟩
              · by_cases hk2 : ak = 2
                · subst hk2
                  obtain ⟨⟨l3, he3, hP2⟩, hok3⟩ := pay_eq hw.out hPR an
                  have hc1 := TRPay_c (QM p g) mo q Ax cx Bx dx (RT.of s l2) W1 hAx hBx hlt1.out hcx hn1 hsm.out.1 an
                  rw [he3, hok3] at hc1
                  have HC1 := hide hc1
                  clear hc1
                  go_wp2_with fail
                  refine HC1.out.mono ?_
                  rintro e w2 ⟨A2, c2, B2, d2, rfl, hA2, hB2, hc2, hb2⟩
                  have H2 := hide (hst1.store (d2 := d2) hb2 hA2 hB2 hc2)
                  obtain ⟨⟨z0, z1, z2, z3, z4, z5⟩, f0, f1, f2, f3, f4, f5⟩ := (hx.below hb2).six
                  have b2 := hab.below hb2
                  obtain ⟨⟨b20, b21, b22⟩, _⟩ := b2.three
                  have HB := hide (b2.only (six_self w2 g (.slice A2 (RT.of (s.pay an) l3).L.length c2) (.int .i64 mo) (.int .i64 q) (.slice B2 (RT.of (s.pay an) l3).l.length d2) (.int .i64 (RT.of (s.pay an) l3).who) (.int .i64 (RT.of (s.pay an) l3).done)) (by omega))
                  clear hb2 hA2 hB2 hc2 y0 y1 y2 y3 y4 y5 a0 a1 a2 b2
                  go_wp2_with fail
                  refine (TPay_c an H2.out.t).mono ?_
                  rintro e w4 ⟨rfl, ht4, ho4⟩
                  have H4 := hide (H2.out.step ht4 ho4)
                  have HB4 := hide (HB.out.only ho4 hap)
                  clear ht4 ho4 z0 z1 z2 z3 z4 z5 f0 f1 f2 f3 f4 f5 b20 b21 b22
                  go_wp2_with fail
                  go_meet
                  exact ⟨_, rfl, rfl, ⟨_, l3, H4.out, hP2, hoff.pay an, by rw [pay_done]; omega⟩, HB4.out⟩
                · by_cases hk3 : ak = 3
                  · subst hk3
                    obtain ⟨l3, he3, hP2⟩ := end_eq hw.out HmN.out hoff hPR true
                    have hok3 := ends_eq (l := l2) hw.out hoff true
                    have hc1 := TREnd_c (QM p g) mo q Ax cx Bx dx (RT.of s l2) W1 hAx hBx hlt1.out hcx hn1 hsm.out.1 true
                    rw [he3, hok3] at hc1
                    have HC1 := hide hc1
                    clear hc1
                    go_wp2_with fail
                    refine HC1.out.mono ?_
                    rintro e w2 ⟨A2, c2, B2, d2, rfl, hA2, hB2, hc2, hb2⟩
                    have H2 := hide (hst1.store (d2 := d2) hb2 hA2 hB2 hc2)
                    obtain ⟨⟨z0, z1, z2, z3, z4, z5⟩, f0, f1, f2, f3, f4, f5⟩ := (hx.below hb2).six
                    have b2 := hab.below hb2
                    obtain ⟨⟨b20, b21, b22⟩, _⟩ := b2.three
                    have HB := hide (b2.only (six_self w2 g (.slice A2 (RT.of (s.end_ N true) l3).L.length c2) (.int .i64 mo) (.int .i64 q) (.slice B2 (RT.of (s.end_ N true) l3).l.length d2) (.int .i64 (RT.of (s.end_ N true) l3).who) (.int .i64 (RT.of (s.end_ N true) l3).done)) (by omega))
                    clear hb2 hA2 hB2 hc2 y0 y1 y2 y3 y4 y5 a0 a1 a2 b2
                    go_wp2_with fail
                    refine (End_c true H2.out.t).mono ?_
                    rintro e w4 ⟨rfl, ht4, ho4⟩
                    have H4 := hide (H2.out.step ht4 ho4)
                    have HB4 := hide (HB.out.only ho4 hap)
                    clear ht4 ho4 z0 z1 z2 z3 z4 z5 f0 f1 f2 f3 f4 f5 b20 b21 b22
                    go_wp2_with fail
                    go_meet
                    exact ⟨_, rfl, rfl, ⟨_, l3, H4.out, hP2, hoff.end_ true, by rw [end_done]; omega⟩, HB4.out⟩
                  · by_cases hk4 : ak = 4
                    · subst hk4
                      obtain ⟨l3, he3, hP2⟩ := end_eq hw.out HmN.out hoff hPR false
                      have hok3 := ends_eq (l := l2) hw.out hoff false
                      have hc1 := TREnd_c (QM p g) mo q Ax cx Bx dx (RT.of s l2) W1 hAx hBx hlt1.out hcx hn1 hsm.out.1 false
                      rw [he3, hok3] at hc1
                      have HC1 := hide hc1
                      clear hc1
                      go_wp2_with fail
                      refine HC1.out.mono ?_
                      rintro e w2 ⟨A2, c2, B2, d2, rfl, hA2, hB2, hc2, hb2⟩
                      have H2 := hide (hst1.store (d2 := d2) hb2 hA2 hB2 hc2)
                      obtain ⟨⟨z0, z1, z2, z3, z4, z5⟩, f0, f1, f2, f3, f4, f5⟩ := (hx.below hb2).six
                      have b2 := hab.below hb2
                      obtain ⟨⟨b20, b21, b22⟩, _⟩ := b2.three
                      have HB := hide (b2.only (six_self w2 g (.slice A2 (RT.of (s.end_ N false) l3).L.length c2) (.int .i64 mo) (.int .i64 q) (.slice B2 (RT.of (s.end_ N false) l3).l.length d2) (.int .i64 (RT.of (s.end_ N false) l3).who) (.int .i64 (RT.of (s.end_ N false) l3).done)) (by omega))
                      clear hb2 hA2 hB2 hc2 y0 y1 y2 y3 y4 y5 a0 a1 a2 b2
                      go_wp2_with fail
                      refine (End_c false H2.out.t).mono ?_
                      rintro e w4 ⟨rfl, ht4, ho4⟩
                      have H4 := hide (H2.out.step ht4 ho4)
                      have HB4 := hide (HB.out.only ho4 hap)
                      clear ht4 ho4 z0 z1 z2 z3 z4 z5 f0 f1 f2 f3 f4 f5 b20 b21 b22
                      go_wp2_with fail
                      go_meet
                      exact ⟨_, rfl, rfl, ⟨_, l3, H4.out, hP2, hoff.end_ false, by rw [end_done]; omega⟩, HB4.out⟩
                    · by_cases hk5 : ak = 5
                      · subst hk5
                        obtain ⟨⟨l3, he3, hP2⟩, hok3⟩ := leave_eq hw.out HmN.out hnd.out.1 (fun x hx => (hnd.out.2 x hx).1) hoff hPR ai
                        have hc1 := TRLeave_c (QM p g) mo q Ax cx Bx dx (RT.of s l2) W1 hAx hBx hlt1.out hcx hn1 hsm.out.1 ai
                        rw [he3, hok3] at hc1
                        have HC1 := hide hc1
                        clear hc1
                        go_wp2_with fail
                        refine HC1.out.mono ?_
                        rintro e w2 ⟨A2, c2, B2, d2, rfl, hA2, hB2, hc2, hb2⟩
                        have H2 := hide (hst1.store (d2 := d2) hb2 hA2 hB2 hc2)
                        obtain ⟨⟨z0, z1, z2, z3, z4, z5⟩, f0, f1, f2, f3, f4, f5⟩ := (hx.below hb2).six
                        have b2 := hab.below hb2
                        obtain ⟨⟨b20, b21, b22⟩, _⟩ := b2.three
                        have HB := hide (b2.only (six_self w2 g (.slice A2 (RT.of (s.leave ai) l3).L.length c2) (.int .i64 mo) (.int .i64 q) (.slice B2 (RT.of (s.leave ai) l3).l.length d2) (.int .i64 (RT.of (s.leave ai) l3).who) (.int .i64 (RT.of (s.leave ai) l3).done)) (by omega))
                        clear hb2 hA2 hB2 hc2 y0 y1 y2 y3 y4 y5 a0 a1 a2 b2
                        go_wp2_with fail
                        refine (Leave_c ai H2.out.t).mono ?_
                        rintro e w4 ⟨rfl, ht4, ho4⟩
                        have H4 := hide (H2.out.step ht4 ho4)
                        have HB4 := hide (HB.out.only ho4 hap)
                        clear ht4 ho4 z0 z1 z2 z3 z4 z5 f0 f1 f2 f3 f4 f5 b20 b21 b22
                        go_wp2_with fail
                        go_meet
                        exact ⟨_, rfl, rfl, ⟨_, l3, H4.out, hP2, hoff.leave ai, by rw [leave_done]; omega⟩, HB4.out⟩
                      · have hkb0 : (ak == 0) = false := by simp [hk0]
                        have hkb1 : (ak == 1) = false := by simp [hk1]
                        have hkb2 : (ak == 2) = false := by simp [hk2]
                        have hkb3 : (ak == 3) = false := by simp [hk3]
                        have hkb4 : (ak == 4) = false := by simp [hk4]
                        have hkb5 : (ak == 5) = false := by simp [hk5]
                        have H1 := hide hst1
                        have HBa := hide hab
                        clear hst1 hab hx hAx hBx hcx hw hk0 hk1 hk2 hk3 hk4 hk5
                        go_wp2_with fail
                        go_meet
                        exact ⟨_, rfl, rfl, ⟨s, l2, H1.out, hPR, hoff, by omega⟩, HBa.out⟩
          case rest =>
            obtain ⟨ok, rfl, rfl, hq2, hab2⟩ := hcut
            obtain ⟨s', l3, h1, hP3, hoff3, hdn3⟩ := hq2.ex
            obtain ⟨Ax, cx, Bx, dx, hx, hAx, hBx, hcx⟩ := h1.x
            obtain ⟨⟨y0, y1, y2, y3, y4, y5⟩, _⟩ := hx.six
            have a1 := hab2.three.1.2.1
            have H1 := hide h1
            have HP3 := hide hP3
            have Hx := hide hx
            have HAx := hide hAx
            have HBx := hide hBx
            have HQ := hide hq2
            have HAB := hide hab2
            clear hst1 hab hPR hoff hdn h1 hP3 hx hAx hBx hq2 hab2
            go_wp2_with fail
            refine (ttold_c ask (QM p g) (fun k hk => Or.inl hk) H1.out.t HAx.out HBx.out HP3.out).mono ?_
            rintro e w3 ⟨rfl, ho3⟩
            obtain ⟨⟨y0, y1, y2, y3, y4, y5⟩, _⟩ := (Hx.out.only ho3 (fun h => h)).six
            have a1 := (HAB.out.only ho3 (fun h => h)).three.1.2.1
            have HT3 := hide (H1.out.t.only0 ho3)
            have HA3 := hide (HAx.out.only ho3 (fun _ h => h.elim))
            have HB3 := hide (HBx.out.only ho3 (fun _ h => h.elim))
            have HQ3 := hide (HQ.out.onl ho3)
            clear ho3
            go_wp2_with fail
            refine (ttold_c ai (QM p g) (fun k hk => Or.inl hk) HT3.out HA3.out HB3.out HP3.out).mono ?_
            rintro e w4 ⟨rfl, ho4⟩
            have HQ4 := hide (HQ3.out.onl ho4)
            clear ho4
            go_wp2_with fail
            go_roundw
            case rel => exact ⟨k + 1, by omega, by omega, by go_num, HQ4.out⟩
            case measure => simp [intOf]; omega
        · have hd : decide ((k : Int) < 40) = false := by simp; omega
          have ho := hst.ho
          clear hst
          go_wp2_with fail
          refine (turns_lives _).mono ?_
          rintro e w3 ⟨rfl, ho3⟩
          go_wp2_with fail
          go_ret
          exact ⟨rfl, ho.trans ho3⟩
      · have hd : decide ((k : Int) < n) = false := by simp; omega
        have hd2 : decide (k < n) = false := by simp; omega
        have ho := hst.ho
        clear hst
        go_wp2_with fail
        refine (turns_lives _).mono ?_
        rintro e w3 ⟨rfl, ho3⟩
        go_wp2_with fail
        go_ret
        exact ⟨rfl, ho.trans ho3⟩
end Go.Proofs.Ytmkbhejbbhikcaa
