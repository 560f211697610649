/- The walk of RingPlays. Conditions: those of the theorem. -/
import Derived.Test.YtmkbhejbbhikcaaRingCopy
import Derived.Test.YtmkbhejbbhikcaaTexts
import Derived.Deep.DeepCutAuto
import Derived.Deep.CutBlock
namespace Go.Proofs.Ytmkbhejbbhikcaa
open Go.RowKit
set_option linter.unusedVariables false

theorem akeepR {w : World} {p : Addr} {v : Value} (h : w.cell? p = some v) (o : Obj) : (w.alloc o).cell? p = some v :=
  bkeep (below_alloc w o) h
theorem Blk.four {w : World} {g : Nat} {t : TypeId} {a b c d : Value} (h : Blk w g t #[a, b, c, d]) :
    w.cell? ⟨g, 0, none⟩ = some a ∧ w.cell? ⟨g, 1, none⟩ = some b ∧ w.cell? ⟨g, 2, none⟩ = some c ∧ w.cell? ⟨g, 3, none⟩ = some d :=
  ⟨by rw [h.cell]; rfl, by rw [h.cell]; rfl, by rw [h.cell]; rfl, by rw [h.cell]; rfl⟩
structure PSt (w wx : World) (p h N g : Nat) (cs : Array Value) (S S' : ByteArray) : Prop where
  r : RSt w wx p h N S
  x : Blk wx g 54 #[.string S', .int .i64 N]
  b : Blk wx w.heap.size 66 cs
  ne : ¬ p = g ∧ ¬ h = g ∧ w.heap.size < g ∧ w.heap.size < p ∧ w.heap.size < h
section
variable {w wx : World} {p h N g : Nat} {cs : Array Value} {S S' : ByteArray}
theorem PSt.below {w' : World} (hs : PSt w wx p h N g cs S S') (k : Below wx.heap.size wx w') : PSt w w' p h N g cs S S' := ⟨hs.r.below k, hs.x.below k, hs.b.below k, hs.ne⟩
theorem PSt.alloc (hs : PSt w wx p h N g cs S S') (o : Obj) : PSt w (wx.alloc o) p h N g cs S S' := hs.below (below_alloc _ _)
theorem PSt.store (hs : PSt w wx p h N g cs S S') (S2 : ByteArray) : PSt w ((wx.setCell ⟨g, 0, none⟩ (.string S2)).setCell ⟨g, 1, none⟩ (.int .i64 N)) p h N g cs S S2 :=
  ⟨hs.r.two hs.ne.1 hs.ne.2.1 (by have := hs.ne; omega) _ _, hs.x.two_set _ _, (hs.b.far (p := ⟨g, 0, none⟩) (by have := hs.ne; show w.heap.size ≠ g; omega) _).far (p := ⟨g, 1, none⟩) (by have := hs.ne; show w.heap.size ≠ g; omega) _, hs.ne⟩
theorem PSt.ring {w' : World} {S2 : ByteArray} (hs : PSt w wx p h N g cs S S') (hr : RSt w w' p h N S2) (k : Only (fun i => i = p ∨ i = h) wx w') : PSt w w' p h N g cs S2 S' :=
  ⟨hr, hs.x.only k (by have := hs.ne; omega), hs.b.only k (by have := hs.ne; omega), hs.ne⟩
end
set_option maxRecDepth 100000 in
set_option maxHeartbeats 1600000 in
theorem RingPlays_walk (most at_ nn : Int) (A : Option Addr) (c : Nat) (l : List ActS) (w : World) (hr : Rd w NoBlk A (flat encS l)) (hok : ∀ k, k < l.length → (actSAt l k).s.size ≤ maxLen) (hn0 : l.length ≤ maxLen) :
    Calls Try.prog 9 #[.agg #[.int .i64 most, .slice A l.length c, .int .i64 at_, .int .i64 nn]] w fun e w' => e = .returned (.bool true) ∧ Only NoBlk w w' := by
  have hn : l.length ≤ 9223372036854775807 := hn0
  have hcell : ∀ k, k < l.length → ∃ b o, A = some ⟨b, o, none⟩ ∧ b < w.heap.size ∧ w.cell? ⟨b, o + k * 3, none⟩ = some (.int .i64 (actSAt l k).k) ∧ w.cell? ⟨b, o + k * 3 + 1, none⟩ = some (.string (actSAt l k).s) ∧ w.cell? ⟨b, o + k * 3 + 2, none⟩ = some (.int .i64 (actSAt l k).n) ∧ (actSAt l k).s.size ≤ maxLen := by
    intro k hk
    have hfl := flat_len encS 3 encS_len l
    obtain ⟨b, o, hA, _, hb, hc⟩ := hr.at_ (j := k * 3) (by omega)
    have h1 := actsS_at l k hk
    exact ⟨b, o, hA, hb, by rw [hc _ (by omega)]; exact h1.1, by rw [Nat.add_assoc, hc _ (by omega)]; exact h1.2.1, by rw [Nat.add_assoc, hc _ (by omega)]; exact h1.2.2, hok k hk⟩
  obtain ⟨n, hnl⟩ : ∃ n, n = l.length := ⟨_, rfl⟩
  rw [← hnl] at hcell hn ⊢
  have Hc := hide hcell
  obtain ⟨N, hN⟩ : ∃ N : Nat, N = (clip most 1 4096).toNat := ⟨_, rfl⟩
  have hNw : within most 1 4096 = N := by rw [hN]; unfold clip within; split <;> first | omega | (split <;> omega)
  have hN4 : N ≤ 4096 := by rw [hN]; unfold clip; omega
  have HN := hide hN
  have HNw := hide hNw
  clear hr hok hn0 hcell hnl hN hNw
  obtain ⟨cs, hcs⟩ : ∃ cs : Array Value, cs = #[.int .i64 most, .slice A n c, .int .i64 at_, .int .i64 nn] := ⟨_, rfl⟩
  obtain ⟨W, hW⟩ : ∃ W, W = w.alloc (.cells #[.int .i64 most, .slice A n c, .int .i64 at_, .int .i64 nn] 66) := ⟨_, rfl⟩
  have hB0 : Blk W w.heap.size 66 cs := by rw [hW, hcs]; exact Blk.new w _ _
  have hwW : Only NoBlk w W := by rw [hW]; exact (Only.refl _ _).alloc _
  have HW := hide hW
  have Hcs := hide hcs
  clear hW hcs
  go_enter Try.func9, Try.ntmps9
  go_upto_region 1 with fail
  rw [← HW.out]
  have hB0' := hB0
  rw [Hcs.out] at hB0'
  obtain ⟨k0, _, _, _⟩ := hB0'.four
  have hltW := hB0.lt
  have hneA : ¬ w.heap.size = W.heap.size := by omega
  have hneB : ¬ W.heap.size = w.heap.size := by omega
  clear hB0'
  go_cut [3, 4] (fun v3 v4 wx => ∃ p h g, v3 = .pointer (some ⟨p, 0, none⟩) ∧ v4 = .pointer (some ⟨g, 0, none⟩) ∧ PSt w wx p h N g cs ⟨#[]⟩ ⟨#[]⟩)
  case first =>
    go_region_held3 (fun w' => w'.cell? ⟨w.heap.size, 0, none⟩ = some (.int .i64 most))
      (go_keep)
      (first
        | (go_at_call 33
           refine (New_s w most _ (by first | exact hwW.drew | exact (hwW.alloc _).drew)).mono ?_
           rintro e w1 ⟨p, h, rfl, hst, hp, hh, ho1⟩
           rw [← HN.out] at hst
           have Hst := hide hst
           have x0 : w1.cell? ⟨w.heap.size, 0, none⟩ = some (.int .i64 most) := by first | exact okeep ho1 (fun h => h) k0 | exact okeep ho1 (fun h => h) (akeepR k0 _)
           clear hst
           have hsz : W.heap.size ≤ w1.heap.size := by first | exact ho1.size | exact Nat.le_trans (by simp) ho1.size
           have hne1 : ¬ w.heap.size = w1.heap.size := by omega
           have hne2 : ¬ w1.heap.size = w.heap.size := by omega
           try (have hZ0 : Blk (W.alloc (.cells #[.string ⟨#[]⟩, .int .i64 0] 54)).drew W.heap.size 54 #[.string ⟨#[]⟩, .int .i64 0] := Blk.new W _ _
                have hZ := hZ0.only ho1 (fun h => h)))
        | (go_at_call 38
           refine (RNew_c most _).mono ?_
           rw [HNw.out]
           rintro e w2 ⟨rfl, hb2⟩
           have y0 : w2.cell? ⟨w.heap.size, 0, none⟩ = some (.int .i64 most) := by first | exact bkeep hb2 x0 | exact bkeep hb2 (akeepR x0 _)
           try (have hZ2 := hZ.below hb2; have hz := hZ2.two; obtain ⟨z0, z1, f0, f1⟩ := hz)
           try (have hZ2 := (Blk.new w1 54 #[.string ⟨#[]⟩, .int .i64 0]).below hb2; have hz := hZ2.two; obtain ⟨z0, z1, f0, f1⟩ := hz)))
    all_goals go_wp2_with fail
    all_goals go_meet
    · have hlt := (Hst.out.below hb2).lt
      have hp' : W.heap.size ≤ p := hp
      have hh' : W.heap.size ≤ h := hh
      have hs2 := hb2.size
      exact ⟨p, h, w2.heap.size, rfl, rfl, (Hst.out.below hb2).alloc _, Blk.new _ _ _, ((hB0.drew.only ho1 (fun h => h)).below hb2).alloc _, by omega⟩
    · have hlt := Hst.out.lt
      have hp' : W.heap.size ≤ p := hp
      have hh' : W.heap.size ≤ h := hh
      exact ⟨p, h, w1.heap.size, rfl, rfl, ((Hst.out.alloc _).below hb2).two (by omega) (by omega) (by have := Hst.out.ho.size; exact this) _ _, hZ2.two_set _ _,
        ((((hB0.drew.only ho1 (fun h => h)).alloc _).below hb2).far (p := ⟨w1.heap.size, 0, none⟩) (by show w.heap.size ≠ w1.heap.size; omega) _).far (p := ⟨w1.heap.size, 1, none⟩) (by show w.heap.size ≠ w1.heap.size; omega) _, by omega⟩
    · have hlt := Hst.out.lt
      have hp' : W.heap.size + 1 ≤ p := by simpa using hp
      have hh' : W.heap.size + 1 ≤ h := by simpa using hh
      exact ⟨p, h, W.heap.size, rfl, rfl, (Hst.out.below hb2).two (by omega) (by omega) (by omega) _ _, hZ2.two_set _ _,
        ((((hB0.alloc _).drew.only ho1 (fun h => h)).below hb2).far (p := ⟨W.heap.size, 0, none⟩) (by show w.heap.size ≠ W.heap.size; omega) _).far (p := ⟨W.heap.size, 1, none⟩) (by show w.heap.size ≠ W.heap.size; omega) _, by omega⟩
  case rest =>
    obtain ⟨p, h, g, rfl, rfl, hst⟩ := hcut
    have hbb := hst.b
    rw [Hcs.out] at hbb
    obtain ⟨_, k1, k2, k3⟩ := hbb.four
    obtain ⟨x0, x1, _, _⟩ := hst.x.two
    have Hst := hide hst
    clear k0 hltW hneA hneB hB0 hwW hbb hst
    go_wp2_with fail
    refine (told_s at_ nn Hst.out.r).mono ?_
    rintro e w3 ⟨rfl, hb3⟩
    have Hst3 := hide (Hst.out.below hb3)
    clear hb3 x0 x1 k1 k2 k3 Hst
    go_wp2_with fail
    go_loopw [5] (fun x wr => ∃ (k : Nat) (S : ByteArray), k ≤ n ∧ k ≤ 24 ∧ x = .int .i64 k ∧ PSt w wr p h N g cs S S) (fun x _ => n - (intOf x).toNat)
    case atStart => exact ⟨0, ⟨#[]⟩, Nat.zero_le _, by omega, rfl, Hst3.out⟩
    case round =>
      clear Hst3
      obtain ⟨k, S, hk, hk24, rfl, hst⟩ := hrel
      have hbb := hst.b
      rw [Hcs.out] at hbb
      obtain ⟨_, k1, _, _⟩ := hbb.four
      clear hbb
      have Hs := hide hst
      by_cases hlt : k < n
      · by_cases hlt24 : k < 24
        · obtain ⟨b, o, rfl, hbl, g0, g1, g2, hsz⟩ := Hc.out k hlt
          replace g0 := (hst.r.ho.cell (p := ⟨b, o + k * 3, none⟩) hbl (fun h => h)).trans g0
          replace g1 := (hst.r.ho.cell (p := ⟨b, o + k * 3 + 1, none⟩) hbl (fun h => h)).trans g1
          replace g2 := (hst.r.ho.cell (p := ⟨b, o + k * 3 + 2, none⟩) hbl (fun h => h)).trans g2
          obtain ⟨⟨ak, sx, an⟩, hact⟩ : ∃ a, a = actSAt l k := ⟨_, rfl⟩
          rw [← hact] at g0 g1 g2 hsz
          simp only at g0 g1 g2 hsz
          clear hact
          obtain ⟨s', hs'⟩ : ∃ s', s' = cutS sx 20 := ⟨_, rfl⟩
          have hsl : s'.size ≤ maxLen := by rw [hs', cutS_size]; unfold maxLen; omega
          have HS' := hide hs'
          clear hs'
          obtain ⟨W1, hW1⟩ : ∃ W1, W1 = wr.alloc (.cells #[.int .i64 ak, .string s', .int .i64 an] 69) := ⟨_, rfl⟩
          have hst1 : PSt w W1 p h N g cs S S := by rw [hW1]; exact hst.alloc _
          have hab : Blk W1 wr.heap.size 69 #[.int .i64 ak, .string s', .int .i64 an] := by rw [hW1]; exact Blk.new _ _ _
          have hag : wr.heap.size ≠ g ∧ wr.heap.size ≠ p ∧ wr.heap.size ≠ h := by have := hst.r.lt; have := hst.x.lt; omega
          have HW1 := hide hW1
          clear hW1 hst
          go_upto_block 2 with (go_at_call 32; refine (cutS_c sx 20 _ (by omega)).mono ?_; rw [← HS'.out]; rintro e w2 ⟨rfl, rfl⟩)
          rw [← HW1.out]
          clear g0 g1 g2 k1 Hs
          go_cut [7] (fun _ wx => ∃ S : ByteArray, PSt w wx p h N g cs S S)
          case first =>
            have hfit := hst1.r.fit.1
            obtain ⟨x0, x1, _, _⟩ := hst1.x.two
            obtain ⟨⟨a0, a1, a2⟩, _⟩ := hab.three
            have Hst1 := hide hst1
            have Hab := hide hab
            have Hag := hide hag
            clear hst1 hab hag
            by_cases hk0 : ak = 0
            · have hkb : (ak == 0) = true := by simp [hk0]
              clear hk0
              go_wp2_with fail
              refine (RPut_c N S _ hN4 hfit s' hsl).mono ?_
              rintro e w2 ⟨rfl, hb2⟩
              have hx2 := Hst1.out.x.below hb2
              obtain ⟨z0, z1, f0, f1⟩ := hx2.two
              have h2 := (Hst1.out.below hb2).store (rputS N S s')
              have y1 := (((Hab.out.below hb2).far (p := ⟨g, 0, none⟩) Hag.out.1 (.string (rputS N S s'))).far (p := ⟨g, 1, none⟩) Hag.out.1 (.int .i64 N)).three.1.2.1
              have H2 := hide h2
              have hne : ¬ wr.heap.size = g := Hag.out.1
              have hne' : ¬ g = wr.heap.size := fun e => Hag.out.1 e.symm
              clear hb2 hx2 h2 x0 x1 a0 a1 a2
              go_wp2_with fail
              refine (Put_s s' hsl H2.out.r).mono ?_
              rintro e w4 ⟨rfl, h4, ho4⟩
              have H4 := hide (H2.out.ring h4 ho4)
              clear h4 ho4 z0 z1 f0 f1 y1
              go_wp2_with fail
              go_meet
              exact ⟨_, H4.out⟩
            · have hkb : (ak == 0) = false := by simp [hk0]
              clear hk0
              by_cases hk1 : ak = 1
              · have hkb1 : (ak == 1) = true := by simp [hk1]
                clear hk1
                go_wp2_with fail
                refine (RTake_c N S _ hN4 hfit an).mono ?_
                rintro e w2 ⟨rfl, hb2⟩
                have hx2 := Hst1.out.x.below hb2
                obtain ⟨z0, z1, f0, f1⟩ := hx2.two
                have h2 := (Hst1.out.below hb2).store (S.extract (tk an S) S.size)
                have y2 := (((Hab.out.below hb2).far (p := ⟨g, 0, none⟩) Hag.out.1 (.string (S.extract (tk an S) S.size))).far (p := ⟨g, 1, none⟩) Hag.out.1 (.int .i64 N)).three.1.2.2
                have H2 := hide h2
                have hne : ¬ wr.heap.size = g := Hag.out.1
                have hne' : ¬ g = wr.heap.size := fun e => Hag.out.1 e.symm
                clear hb2 hx2 h2 x0 x1 a0 a1 a2
                go_wp2_with fail
                refine (Take_s an H2.out.r).mono ?_
                rintro e w4 ⟨rfl, h4, ho4⟩
                have H4 := hide (H2.out.ring h4 ho4)
                clear h4 ho4 z0 z1 f0 f1 y2
                go_wp2_with fail
                go_meet
                exact ⟨_, H4.out⟩
              · have hkb1 : (ak == 1) = false := by simp [hk1]
                clear hk1
                by_cases hk2 : ak = 2
                · have hkb2 : (ak == 2) = true := by simp [hk2]
                  clear hk2
                  go_wp2_with fail
                  refine (RTake_c N S _ hN4 hfit an).mono ?_
                  rintro e w2 ⟨rfl, hb2⟩
                  have hx2 := Hst1.out.x.below hb2
                  obtain ⟨z0, z1, f0, f1⟩ := hx2.two
                  have h2 := (Hst1.out.below hb2).store (S.extract (tk an S) S.size)
                  have y2 := (((Hab.out.below hb2).far (p := ⟨g, 0, none⟩) Hag.out.1 (.string (S.extract (tk an S) S.size))).far (p := ⟨g, 1, none⟩) Hag.out.1 (.int .i64 N)).three.1.2.2
                  have H2 := hide h2
                  have hne : ¬ wr.heap.size = g := Hag.out.1
                  have hne' : ¬ g = wr.heap.size := fun e => Hag.out.1 e.symm
                  clear hb2 hx2 h2 x0 x1 a0 a1 a2
                  go_wp2_with fail
                  refine (Drop_s an H2.out.r).mono ?_
                  rintro e w4 ⟨rfl, h4, ho4⟩
                  have H4 := hide (H2.out.ring h4 ho4)
                  clear h4 ho4 z0 z1 f0 f1 y2
                  have hsz2 : (S.extract 0 (tk an S)).size = tk an S := ba_sub_size S 0 (tk an S) (Nat.zero_le _) (tk_le an S)
                  have hmn : min (tk an S) S.size = tk an S := Nat.min_eq_left (tk_le an S)
                  go_wp2_with fail
                  go_meet
                  exact ⟨_, H4.out⟩
                · have hkb2 : (ak == 2) = false := by simp [hk2]
                  clear hk2
                  go_wp2_with fail
                  go_meet
                  exact ⟨_, Hst1.out⟩
          case rest =>
            obtain ⟨S2, hst⟩ := hcut
            have hbb := hst.b
            rw [Hcs.out] at hbb
            obtain ⟨_, _, k2, k3⟩ := hbb.four
            obtain ⟨x0, x1, _, _⟩ := hst.x.two
            have Hst := hide hst
            clear hst1 hab hag hbb hst
            go_wp2_with fail
            refine (told_s at_ nn Hst.out.r).mono ?_
            rintro e w3 ⟨rfl, hb3⟩
            have Hst3 := hide (Hst.out.below hb3)
            clear hb3 x0 x1 k2 k3 Hst
            go_wp2_with fail
            go_roundw
            case rel => exact ⟨k + 1, S2, by omega, by omega, by go_num, Hst3.out⟩
            case measure => simp [intOf]; omega
        · have hd : decide ((k : Int) < 24) = false := by simp; omega
          clear hst
          go_wp2_with (go_at_call 41; refine (ring_lives _).mono ?_; rintro e w7 ⟨rfl, ho7⟩)
          go_ret
          exact ⟨rfl, Hs.out.r.ho.trans ho7⟩
      · have hd : decide ((k : Int) < n) = false := by simp; omega
        have hd2 : decide (k < n) = false := by simp; omega
        clear hst
        go_wp2_with (go_at_call 41; refine (ring_lives _).mono ?_; rintro e w7 ⟨rfl, ho7⟩)
        go_ret
        exact ⟨rfl, Hs.out.r.ho.trans ho7⟩
end Go.Proofs.Ytmkbhejbbhikcaa
