/- The walk of TurnsFair. Conditions: those of the theorem. -/
import Derived.Test.YtmkbhejbbhikcaaTurnsPlain
import Derived.Test.YtmkbhejbbhikcaaActs
import Derived.Test.YtmkbhejbbhikcaaPursePlain
import Derived.Test.YtmkbhejbbhikcaaRefP
import Derived.Deep.DeepCutAuto
import Derived.Deep.CutBlock
namespace Go.Proofs.Ytmkbhejbbhikcaa
open Go.RowKit
set_option linter.unusedVariables false

/-- the turns' world while they wake -/
structure TWak (w wx : World) (p : TP) (n k : Nat) (hb : Nat) : Prop where
  at_ : ∃ s, TurnsAt wx p n s ∧ s.who = -1 ∧ s.done = 0 ∧ s.L = firsts k
  fs : ∀ i, p.all i → w.heap.size ≤ i
  ho : Only NoBlk w wx
  hd : Blk wx hb 3 (nums (zeros 6))
  hb0 : w.heap.size ≤ hb
  hbp : ¬ p.all hb
/-- .. and between two turns -/
structure TFair (w wx : World) (p : TP) (n k : Nat) (hb : Nat) (had : List Int) : Prop where
  at_ : ∃ s, TurnsAt wx p n s ∧ s.who = -1 ∧ s.done = k ∧ FairAt s.L had n
  fs : ∀ i, p.all i → w.heap.size ≤ i
  ho : Only NoBlk w wx
  hd : Blk wx hb 3 (nums had)
  hb0 : w.heap.size ≤ hb
  hbp : ¬ p.all hb

theorem end_on {s : TS} {n : Nat} (h : 0 ≤ s.who) (again : Bool) : (s.end_ n again).who = -1 ∧ (s.end_ n again).done = s.done ∧ ((s.end_ n again).L = s.L ∨ (s.end_ n again).L = pushL n s.L s.who) := by
  unfold TS.end_
  rw [if_neg (by omega)]
  cases again
  · exact ⟨rfl, rfl, Or.inl rfl⟩
  · exact ⟨rfl, rfl, Or.inr rfl⟩
theorem end_yes {s : TS} {n : Nat} (h : 0 ≤ s.who) : (s.end_ n true).L = pushL n s.L s.who := by
  unfold TS.end_
  rw [if_neg (by omega)]
  rfl
set_option maxRecDepth 100000 in
set_option maxHeartbeats 1600000 in
theorem TurnsFair_walk (A : Option Addr) (c : Nat) (l : List Act3) (most : Int) (hi0 : 0 ≤ most) (hi1 : most ≤ 255) (w : World) (hr : Rd w NoBlk A (flat enc3 l)) (hn0 : l.length ≤ maxLen) :
    Calls Try.prog 15 #[.slice A l.length c, .int .u8 most] w fun e w' => e = .returned (.bool true) ∧ Only NoBlk w w' := by
  have hn : l.length ≤ 9223372036854775807 := hn0
  have hcell : ∀ k, k < l.length → ∃ b o, A = some ⟨b, o, none⟩ ∧ b < w.heap.size ∧ w.cell? ⟨b, o + k * 3, none⟩ = some (.int .i64 (actAt l k).k) ∧ w.cell? ⟨b, o + k * 3 + 1, none⟩ = some (.int .i64 (actAt l k).i) ∧ w.cell? ⟨b, o + k * 3 + 2, none⟩ = some (.int .i64 (actAt l k).n) := by
    intro k hk
    have hfl := flat_len enc3 3 enc3_len l
    obtain ⟨b, o, hA, _, hb, hc⟩ := hr.at_ (j := k * 3) (by omega)
    have h1 := acts_at l k hk
    exact ⟨b, o, hA, hb, by rw [hc _ (by omega)]; exact h1.1, by rw [Nat.add_assoc, hc _ (by omega)]; exact h1.2.1, by rw [Nat.add_assoc, hc _ (by omega)]; exact h1.2.2⟩
  obtain ⟨len, hnl⟩ : ∃ n, n = l.length := ⟨_, rfl⟩
  rw [← hnl] at hcell hn ⊢
  obtain ⟨nn, hN⟩ : ∃ nn : Nat, (nn : Int) = 1 + most % 6 := ⟨(1 + most % 6).toNat, by omega⟩
  have hN1 : 1 ≤ nn := by omega
  have hN6 : nn ≤ 6 := by omega
  have V := hide (show (clip (nn : Int) 1 1024).toNat = nn by unfold clip; omega)
  have hm6 := mk_ints 6 (by omega) (by omega)
  have e6 : (6 : Int).toNat = 6 := rfl
  have HN := hide hN
  have Hc := hide hcell
  clear hN hcell hr hnl hn0
  go_enter Try.func15, Try.ntmps15
  go_upto_region 2 with fail
  rw [← HN.out]
  have hneq : w.drew.heap.size = w.heap.size := rfl
  go_cut [6, 7] (fun v4 v5 wx => ∃ (p : TP) (hb : Nat), v4 = .pointer (some ⟨p.t, 0, none⟩) ∧ v5 = .slice (some ⟨hb, 0, none⟩) 6 6 ∧ TWak w wx p nn 0 hb)
  case first =>
    go_region_held3 (fun w' => True) (go_keep)
      (first
        | (go_at_call 65
           refine (TNew_c nn 3 _).mono ?_
           rintro e w1 ⟨p, rfl, h1, ho1, hk1⟩
           rw [V.out] at h1
           have R1 := hide (And.intro h1 (And.intro ho1 hk1))
           clear h1 ho1 hk1))
    all_goals go_wp2_with fail
    all_goals go_meet
    · obtain ⟨h1, ho1, hk1⟩ := R1.out
      have hlt := h1.lt
      exact ⟨p, w1.heap.size, rfl, rfl, ⟨_, h1.only0 ((Only.refl NoBlk _).alloc _), rfl, rfl, rfl⟩, hk1, (((Only.refl NoBlk w).drew).trans ho1).alloc _, Blk.new _ _ _, ho1.size, fun hx => by have := hlt _ hx; omega⟩
    · obtain ⟨h1, ho1, hk1⟩ := R1.out
      have hB : Blk (w.alloc (.cells (nums (zeros 6)) 3)).drew w.heap.size 3 (nums (zeros 6)) := Blk.new w _ _
      exact ⟨p, w.heap.size, rfl, rfl, ⟨_, h1, rfl, rfl, rfl⟩, fun i hi => Nat.le_trans (by simp) (hk1 i hi), (((Only.refl NoBlk w).alloc _).drew).trans ho1, hB.only ho1 (fun h => h), Nat.le_refl _, fun hx => by have := hk1 _ hx; simp at this; omega⟩
  case rest =>
  obtain ⟨p, hb, rfl, rfl, hst⟩ := hcut
  have Hst := hide hst
  clear hst
  go_wp2_with fail
  go_loopw [8] (fun x wr => ∃ k : Nat, k ≤ nn ∧ x = .int .i64 k ∧ TWak w wr p nn k hb) (fun x _ => nn - (intOf x).toNat)
  case atStart => exact ⟨0, Nat.zero_le _, rfl, Hst.out⟩
  case round =>
    clear Hst
    obtain ⟨k, hk, rfl, hst⟩ := hrel
    have Hs := hide hst
    clear hst
    by_cases hlt : k < nn
    · obtain ⟨s, hs, hw, hd, hL⟩ := Hs.out.at_
      have Hw := hide (And.intro hw (And.intro hd hL))
      clear hw hd hL
      go_wp2_with fail
      refine (Wake_c k hs).mono ?_
      rintro e w2 ⟨rfl, h2, ho2⟩
      rw [TS.wake_free Hw.out.1, Hw.out.2.2, firsts_push nn k hlt] at h2
      have hst : TWak w w2 p nn (k + 1) hb :=
        ⟨⟨_, h2, Hw.out.1, Hw.out.2.1, rfl⟩, Hs.out.fs, Hs.out.ho.fresh ho2 (fun i _ hi => Or.inr (Hs.out.fs i hi)), Hs.out.hd.only ho2 Hs.out.hbp, Hs.out.hb0, Hs.out.hbp⟩
      have Hst := hide hst
      clear h2 ho2 hst
      go_wp2
      go_roundw
      case rel => exact ⟨k + 1, by omega, by go_num, Hst.out⟩
      case measure => simp [intOf]; omega
    · have hd : decide ((k : Int) < (nn : Int)) = false := by simp; omega
      have hd' : decide (k < nn) = false := by simp; omega
      have hd2 : nn ≤ k := by omega
      have hke : k = nn := by omega
      have hst0 : TFair w wr p nn 0 hb (zeros 6) := by
        obtain ⟨s, hs, hw, hd, hL⟩ := Hs.out.at_
        exact ⟨⟨s, hs, hw, hd, by rw [hL, hke]; exact firsts_fair nn hN1 hN6⟩, Hs.out.fs, Hs.out.ho, Hs.out.hd, Hs.out.hb0, Hs.out.hbp⟩
      have Hst := hide hst0
      clear hst0 hke hlt
      go_wp2_with fail
      go_loopw [7, 9] (fun vh x wx => ∃ (k hb : Nat) (had : List Int), k ≤ len ∧ k ≤ 40 ∧ x = .int .i64 k ∧ vh = .slice (some ⟨hb, 0, none⟩) 6 6 ∧ TFair w wx p nn k hb had) (fun _ x _ => len - (intOf x).toNat)
      case atStart => exact ⟨0, hb, _, Nat.zero_le _, by omega, rfl, rfl, Hst.out⟩
      case round =>
        clear Hst
        obtain ⟨k, hb, had, hk, hk40, rfl, rfl, hst⟩ := hrel
        have Hs := hide hst
        clear hst
        by_cases hboth : k < len ∧ k < 40
        · obtain ⟨hlt, hlt40⟩ := hboth
          obtain ⟨s, hs, hw, hd, hF⟩ := Hs.out.at_
          obtain ⟨x, r, hL⟩ : ∃ x r, s.L = x :: r := by
            obtain ⟨A, B, e, _⟩ := hF.cut
            cases A with
            | nil => exact ⟨_, _, e⟩
            | cons a A => exact ⟨_, _, e⟩
          rw [hL] at hF
          have hxr := hF.rng x (by simp)
          have hb1 : decide (x < 0) = false := by simp; omega
          have hb2 : decide ((nn : Int) ≤ x) = false := by simp; omega
          have hdn : s.done < 1000000 := by omega
          have Hq := hide (And.intro hw (And.intro hd hF))
          have HL := hide hL
          have Hxr := hide hxr
          obtain ⟨b, o, rfl, hbl, g0, g1, g2⟩ := Hc.out k hlt
          clear hw hd hF hL hxr
          go_wp2_with fail
          refine (Begin_c hs hdn).mono ?_
          rintro e w2 ⟨he, h2, ho2⟩
          rw [(TS.begin_cons Hq.out.1 HL.out).2] at he
          rw [(TS.begin_cons Hq.out.1 HL.out).1] at h2
          subst he
          have hox := Hs.out.ho.fresh ho2 (fun i _ hi => Or.inr (Hs.out.fs i hi))
          have hB := Hs.out.hd.only ho2 Hs.out.hbp
          replace g0 := (hox.cell (p := ⟨b, o + k * 3, none⟩) hbl (fun h => h)).trans g0
          replace g1 := (hox.cell (p := ⟨b, o + k * 3 + 1, none⟩) hbl (fun h => h)).trans g1
          replace g2 := (hox.cell (p := ⟨b, o + k * 3 + 2, none⟩) hbl (fun h => h)).trans g2
          obtain ⟨⟨ak, ai, an⟩, hact⟩ : ∃ a, a = actAt l k := ⟨_, rfl⟩
          rw [← hact] at g0 g1 g2
          simp only at g0 g1 g2
          clear hact
          have Ho := hide hox
          have HB := hide hB
          have H2 := hide h2
          clear h2 ho2 hox hB
          by_cases hx0 : x = 0
          · subst hx0
            have B0 : Blk (w2.alloc (.cells (nums (zeros 6)) 3)) w2.heap.size 3 (nums (zeros 6)) := Blk.new _ _ _
            have z0 : (w2.alloc (.cells (nums (zeros 6)) 3)).cell? ⟨w2.heap.size, 0, none⟩ = some (.int .i64 0) := by rw [B0.cell]; rfl
            have f0 := B0.frozen 0
            have hsz := Ho.out.size
            have hneb : ¬ b = w2.heap.size := by omega
            have hneb' : ¬ w2.heap.size = b := by omega
            have ga0 : (w2.alloc (.cells ((nums (zeros 6)).setIfInBounds 0 (.int .i64 1)) 3)).cell? ⟨b, o + k * 3, none⟩ = some (.int .i64 ak) := (((Only.refl NoBlk w2).alloc (.cells ((nums (zeros 6)).setIfInBounds 0 (.int .i64 1)) 3)).cell (p := ⟨b, o + k * 3, none⟩) (Nat.lt_of_lt_of_le hbl hsz) (fun h => h)).trans g0
            have ga1 : (w2.alloc (.cells ((nums (zeros 6)).setIfInBounds 0 (.int .i64 1)) 3)).cell? ⟨b, o + k * 3 + 1, none⟩ = some (.int .i64 ai) := (((Only.refl NoBlk w2).alloc (.cells ((nums (zeros 6)).setIfInBounds 0 (.int .i64 1)) 3)).cell (p := ⟨b, o + k * 3 + 1, none⟩) (Nat.lt_of_lt_of_le hbl hsz) (fun h => h)).trans g1
            have ga2 : (w2.alloc (.cells ((nums (zeros 6)).setIfInBounds 0 (.int .i64 1)) 3)).cell? ⟨b, o + k * 3 + 2, none⟩ = some (.int .i64 an) := (((Only.refl NoBlk w2).alloc (.cells ((nums (zeros 6)).setIfInBounds 0 (.int .i64 1)) 3)).cell (p := ⟨b, o + k * 3 + 2, none⟩) (Nat.lt_of_lt_of_le hbl hsz) (fun h => h)).trans g2
            go_wp2_with fail
            refine (End_c true (H2.out.only0 (((Only.refl NoBlk w2).alloc _).alloc _))).mono ?_
            rintro e w3 ⟨rfl, h3, ho3⟩
            have hlt2 := H2.out.lt
            have hq1 : ¬ p.all (w2.heap.size + 1) := fun h => by have := hlt2 _ h; omega
            have hq2 : ¬ p.all w2.heap.size := fun h => by have := hlt2 _ h; omega
            have hBox : Blk ((w2.alloc (.cells ((nums (zeros 6)).setIfInBounds 0 (.int .i64 1)) 3)).alloc (.cells #[.int .i64 ak, .int .i64 ai, .int .i64 an] 96)) (w2.heap.size + 1) 96 #[.int .i64 ak, .int .i64 ai, .int .i64 an] := Blk.new' (by simp)
            have hHad := ((Blk.new w2 3 ((nums (zeros 6)).setIfInBounds 0 (.int .i64 1))).alloc (.cells #[.int .i64 ak, .int .i64 ai, .int .i64 an] 96)).only ho3 hq2
            have q1 : w3.cell? ⟨w2.heap.size + 1, 1, none⟩ = some (.int .i64 ai) := by rw [(hBox.only ho3 hq1).cell]; rfl
            have ho3' : Only NoBlk w w3 := ((Ho.out.alloc _).alloc _).fresh ho3 (fun i _ hi => Or.inr (Hs.out.fs i hi))
            have R3 := hide (And.intro h3 ho3')
            have RH := hide hHad
            clear h3 ho3 ho3' hHad hBox B0
            go_wp2_with (first
              | (go_at_call 19; refine (within_c _ _ _ _).mono ?_; rintro e w4 ⟨rfl, rfl⟩)
              | (go_at_call 66; refine (Wake_c _ R3.out.1).mono ?_; rintro e w5 ⟨rfl, h5, ho5⟩; have R5 := hide (And.intro h5 ho5); clear h5 ho5))
            go_roundw
            case rel =>
              obtain ⟨h5, ho5⟩ := R5.out
              have E := end_on (s := ⟨r, s.m.give 0, 0, s.done + 1⟩) (n := nn) (by show (0:Int) ≤ 0; omega) true
              have EL := end_yes (s := ⟨r, s.m.give 0, 0, s.done + 1⟩) (n := nn) (by show (0:Int) ≤ 0; omega)
              rw [TS.wake_free E.1] at h5
              refine ⟨k + 1, w2.heap.size, [1, 0, 0, 0, 0, 0], by omega, by omega, by go_num, rfl, ⟨_, h5, E.1, ?_, ?_⟩, Hs.out.fs, R3.out.2.fresh ho5 (fun i _ hi => Or.inr (Hs.out.fs i hi)), RH.out.only ho5 hq2, hsz, hq2⟩
              · show (TS.end_ _ nn true).done = _
                rw [E.2.1]
                show s.done + 1 = _
                rw [Hq.out.2.1]; omega
              · show FairAt (pushL nn (TS.end_ _ nn true).L _) _ nn
                rw [EL]
                exact (Hq.out.2.2.zero).push _
            case measure => simp [intOf]; omega
          · have hb3 : (x == 0) = false := by simp [hx0]
            have hb4 : (x != 0) = true := by simp [hx0]
            have ht := Hq.out.2.2.turn hx0
            have hx5 : x.toNat < 6 := by have := Hxr.out; omega
            have hx6 : x < 6 := by have := Hxr.out; omega
            have hxp : 0 ≤ x := Hxr.out.1
            have z0 : w2.cell? ⟨hb, x.toNat, none⟩ = some (.int .i64 0) := by
              rw [HB.out.cell, nums_at _ _ (by rw [Hq.out.2.2.hl]; exact hx5), ht.1]
            have f0 := HB.out.frozen x.toNat
            have Ht := hide ht.2
            have hhb := Hs.out.hb0
            have hneb : ¬ b = hb := by omega
            have hneb' : ¬ hb = b := by omega
            clear ht
            go_wp2_with fail
            refine (End_c _ (H2.out.only (((Only.refl (· = hb) w2).setCell (Or.inl rfl) _).alloc _) (fun i hi e => Hs.out.hbp (by rw [← e]; exact hi)))).mono ?_
            rintro e w3 ⟨rfl, h3, ho3⟩
            have hlt2 := H2.out.lt
            have hsz := Ho.out.size
            have hq2 : ¬ p.all w2.heap.size := fun h => by have := hlt2 _ h; omega
            have hBox : Blk ((w2.setCell ⟨hb, x.toNat, none⟩ (.int .i64 1)).alloc (.cells #[.int .i64 ak, .int .i64 ai, .int .i64 an] 96)) w2.heap.size 96 #[.int .i64 ak, .int .i64 ai, .int .i64 an] := Blk.new' (by simp)
            have hHad := ((HB.out.set_ x.toNat (.int .i64 1)).alloc (.cells #[.int .i64 ak, .int .i64 ai, .int .i64 an] 96)).only ho3 Hs.out.hbp
            rw [nums_set] at hHad
            have q1 : w3.cell? ⟨w2.heap.size, 1, none⟩ = some (.int .i64 ai) := by rw [(hBox.only ho3 hq2).cell]; rfl
            have ho3' : Only NoBlk w w3 := ((Ho.out.setCell (p := ⟨hb, x.toNat, none⟩) (Or.inr hhb) _).alloc _).fresh ho3 (fun i _ hi => Or.inr (Hs.out.fs i hi))
            have R3 := hide (And.intro h3 ho3')
            have RH := hide hHad
            clear h3 ho3 ho3' hHad hBox
            go_wp2_with (first
              | (go_at_call 19; refine (within_c _ _ _ _).mono ?_; rintro e w4 ⟨rfl, rfl⟩)
              | (go_at_call 66; refine (Wake_c _ R3.out.1).mono ?_; rintro e w5 ⟨rfl, h5, ho5⟩; have R5 := hide (And.intro h5 ho5); clear h5 ho5))
            go_roundw
            case rel =>
              obtain ⟨h5, ho5⟩ := R5.out
              have E := end_on (s := ⟨r, s.m.give x, x, s.done + 1⟩) (n := nn) hxp (ak.tmod 2 == 0)
              rw [TS.wake_free E.1] at h5
              refine ⟨k + 1, hb, had.set x.toNat 1, by omega, by omega, by go_num, rfl, ⟨_, h5, E.1, ?_, ?_⟩, Hs.out.fs, R3.out.2.fresh ho5 (fun i _ hi => Or.inr (Hs.out.fs i hi)), RH.out.only ho5 Hs.out.hbp, hhb, Hs.out.hbp⟩
              · show (TS.end_ _ nn (ak.tmod 2 == 0)).done = _
                rw [E.2.1]
                show s.done + 1 = _
                rw [Hq.out.2.1]; omega
              · show FairAt (pushL nn (TS.end_ _ nn (ak.tmod 2 == 0)).L _) _ nn
                rcases E.2.2 with e | e
                · rw [e]; exact Ht.out.push _
                · rw [e]; exact (Ht.out.push _).push _
            case measure => simp [intOf]; omega
        · have Hend := hide Hs.out.ho
          clear Hs
          by_cases hlt : k < len
          · have he : k = 40 := by omega
            subst he
            go_wp2_with (first
              | (go_at_call 69; refine (turns_lives _).mono ?_; rintro e w4 ⟨rfl, ho4⟩))
            go_ret
            exact ⟨rfl, Hend.out.trans ho4⟩
          · have hd1 : decide ((k : Int) < (len : Int)) = false := by simp; omega
            have hd2 : decide (k < len) = false := by simp; omega
            have hd3 : len ≤ k := by omega
            clear hboth hlt
            go_wp2_with (first
              | (go_at_call 69; refine (turns_lives _).mono ?_; rintro e w4 ⟨rfl, ho4⟩))
            go_ret
            exact ⟨rfl, Hend.out.trans ho4⟩
end Go.Proofs.Ytmkbhejbbhikcaa
