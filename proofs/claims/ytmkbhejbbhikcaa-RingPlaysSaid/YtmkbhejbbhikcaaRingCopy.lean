/- A copy of a ring. Conditions: those of each theorem. -/
import Derived.Test.YtmkbhejbbhikcaaRingSt
import Derived.Test.YtmkbhejbbhikcaaInts
namespace Go.Proofs.Ytmkbhejbbhikcaa
open Go.RowKit
set_option linter.unusedVariables false
theorem own_bytes {w : World} {base N : Nat} {v : Value} {X : List UInt8} (h : w.ownsRow base 5 1 v N (bys X)) (hN : 1 ≤ N) : ∃ g C Y, v = .slice (some ⟨g, 0, none⟩) N C ∧ base ≤ g ∧ N ≤ C ∧ Blk w g 5 (bys X ++ Y).toArray := by
  rcases h.2 with ⟨_, hn⟩ | ⟨g, C, cur, hv, hb, hh, hnc, _, hsz, htk⟩
  · omega
  · refine ⟨g, C, cur.toList.drop (N * 1), hv, hb, hnc, ?_⟩
    unfold Blk
    rw [← htk, List.take_append_drop]
    simpa using hh
/-- what a copy is -/
def CopyPost (w : World) (N f : Nat) (X : List UInt8) (S : ByteArray) (e : Ending) (w' : World) : Prop :=
  ∃ p2 h2 C2 Y2, e = .returned (.pointer (some ⟨p2, 0, none⟩)) ∧ RingAt w' p2 h2 N C2 f X Y2 S ∧ w.heap.size ≤ p2 ∧ w.heap.size ≤ h2 ∧ Below w.heap.size w w'
section
variable {p h N C f : Nat} {X : List UInt8} {Y : List Value} {S : ByteArray} {w : World}
set_option maxHeartbeats 800000 in
theorem Copy_c (hr : RingAt w p h N C f X Y S) :
    Calls Try.prog 36 #[.pointer (some ⟨p, 0, none⟩)] w (CopyPost w N f X S) := by
  obtain ⟨⟨c0, c1, c2⟩, f1, f2⟩ := hr.cells
  have hn1 := hr.rep.n1
  have hn2 := hr.rep.n2
  obtain ⟨i0, hi, hz0, hz1, hz2⟩ := info_parts Try.infoU8
  have hrd : Rd w.drew NoBlk (some ⟨h, 0, none⟩) (bys X) := Or.inr ⟨h, 0, rfl, fun h => h, hr.lt.2, fun j hj => by
    have := hr.row.cell (0 + j)
    rw [bys_len] at hj
    rw [show w.drew.cell? ⟨h, 0 + j, none⟩ = w.cell? ⟨h, 0 + j, none⟩ from rfl, this, List.getElem?_toArray, Nat.zero_add, List.getElem?_append_left (by rw [bys_len]; exact hj)]⟩
  have hone := bys_one X
  have hxl : (bys X).length = N * 1 := by rw [bys_len, hr.rep.len]; omega
  have hown0 : w.drew.ownsRow w.heap.size 5 1 (.slice none 0 0) 0 [] := ⟨rfl, Or.inl ⟨rfl, rfl⟩⟩
  have d1 : w.drew.cell? ⟨p, 1, none⟩ = some (.int .i64 f) := c1
  have d2 : w.drew.cell? ⟨p, 2, none⟩ = some (.int .i64 S.size) := c2
  have H := hide hr
  have Hrd := hide hrd
  have Hone := hide hone
  have Hxl := hide hxl
  clear hr hrd hone hxl
  go_enter Try.func36, Try.ntmps36
  go_wp2
  go_region_law (refine step_append_rd w.drew rfl (.const (.slice none 0 0)) (.tmp 8) _ rfl w.heap.size 5 i0 _ 1 1 Try.underlying62 hi hz0 hz1 hz2 rfl (by omega) (.slice none 0 0) 0 [] rfl hown0 NoBlk (some ⟨h, 0, none⟩) N C (bys X) rfl Hrd.out Hxl.out Hone.out (by simp only [maxLen]; omega) (by omega) (Nat.le_refl _) ?_; intro v2 w2 hown2 hgr _; have b2 : Below w.heap.size w.drew w2 := (Below.refl _ _).grown hgr (Nat.le_refl _) (fun k hk => by simp [Value.ownBlock] at hk); simp only [Nat.zero_add, List.nil_append] at hown2; have hform := own_bytes hown2 hn1; obtain ⟨g, C2, Y2, rfl, hg, hC2, hB2⟩ := hform; have HB2 := hide hB2; have e1 := bkeep b2 d1; have e2 := bkeep b2 d2; clear hown2 hgr hB2)
  all_goals go_wp2_with fail
  all_goals go_ret
  all_goals
    exact ⟨w2.heap.size, g, C2, Y2, rfl, ⟨Blk.new w2 _ _, HB2.out.alloc _, hC2, by have := HB2.out.lt; omega, H.out.rep⟩, by have := b2.size; exact this, hg, (below_trans (below_drew w) b2).alloc (by have := b2.size; exact this) _⟩
end
theorem Copy_s {w0 w : World} {p h N : Nat} {S : ByteArray} (hs : RSt w0 w p h N S) :
    Calls Try.prog 36 #[.pointer (some ⟨p, 0, none⟩)] w fun e w' => ∃ p2 h2, e = .returned (.pointer (some ⟨p2, 0, none⟩)) ∧ RSt w0 w' p2 h2 N S ∧ w.heap.size ≤ p2 ∧ w.heap.size ≤ h2 ∧ Below w.heap.size w w' := by
  obtain ⟨C, f, X, Y, hr⟩ := hs.at_
  refine (Copy_c hr).mono fun e w' ⟨p2, h2, C2, Y2, he, h1, hp, hh, hb⟩ => ⟨p2, h2, he, ⟨⟨C2, f, X, Y2, h1⟩, ⟨Nat.le_trans hs.ho.size hp, Nat.le_trans hs.ho.size hh⟩, hs.ho.trans (Only.of_below hb NoBlk)⟩, hp, hh, hb⟩
theorem Blk.two {w : World} {g : Nat} {t : TypeId} {a b : Value} (h : Blk w g t #[a, b]) :
    w.cell? ⟨g, 0, none⟩ = some a ∧ w.cell? ⟨g, 1, none⟩ = some b ∧ w.frozen? ⟨g, 0, none⟩ = false ∧ w.frozen? ⟨g, 1, none⟩ = false :=
  ⟨by rw [h.cell]; rfl, by rw [h.cell]; rfl, h.frozen 0, h.frozen 1⟩
theorem Blk.two_set {w : World} {g : Nat} {t : TypeId} {a b : Value} (h : Blk w g t #[a, b]) (x y : Value) : Blk ((w.setCell ⟨g, 0, none⟩ x).setCell ⟨g, 1, none⟩ y) g t #[x, y] :=
  (h.set_ 0 x).set_ 1 y
/-- a text of the reference, stored anew -/
theorem RSt.two {w wx : World} {p h N g : Nat} {S : ByteArray} (hs : RSt w wx p h N S) (hg : ¬ (p = g)) (hg2 : ¬ (h = g)) (hw : w.heap.size ≤ g) (x y : Value) : RSt w ((wx.setCell ⟨g, 0, none⟩ x).setCell ⟨g, 1, none⟩ y) p h N S :=
  hs.only (T := (· = g)) (((Only.refl (· = g) wx).setCell (p := ⟨g, 0, none⟩) (Or.inl rfl) x).setCell (p := ⟨g, 1, none⟩) (Or.inl rfl) y) hg hg2 (fun i hi => by omega)
theorem RSt.alloc {w wx : World} {p h N : Nat} {S : ByteArray} (hs : RSt w wx p h N S) (o : Obj) : RSt w (wx.alloc o) p h N S := hs.below (below_alloc _ _)
set_option maxRecDepth 100000 in
set_option maxHeartbeats 1600000 in
theorem RingCopies_walk (a b : ByteArray) (n : Int) (ha : a.size ≤ maxLen) (hb : b.size ≤ maxLen) (w : World) :
    Calls Try.prog 7 #[.string a, .string b, .int .i64 n] w fun e w' => e = .returned (.bool true) ∧ Only NoBlk w w' := by
  have V := hide (show (clip (12 : Int) 1 4096).toNat = 12 by decide)
  obtain ⟨a', ha'⟩ : ∃ a', a' = cutS a 20 := ⟨_, rfl⟩
  obtain ⟨b', hb'⟩ : ∃ b', b' = cutS b 20 := ⟨_, rfl⟩
  have hal : a'.size ≤ maxLen := by rw [ha', cutS_size]; omega
  have hbl : b'.size ≤ maxLen := by rw [hb', cutS_size]; omega
  have Ha := hide ha'
  have Hb := hide hb'
  clear ha' hb'
  obtain ⟨S1, hS1⟩ : ∃ S, S = rputS 12 ⟨#[]⟩ a' := ⟨_, rfl⟩
  obtain ⟨S2, hS2⟩ : ∃ S, S = S1.extract (tk 3 S1) S1.size := ⟨_, rfl⟩
  obtain ⟨S3, hS3⟩ : ∃ S, S = S2.extract (tk n S2) S2.size := ⟨_, rfl⟩
  obtain ⟨S4, hS4⟩ : ∃ S, S = rputS 12 S3 b' := ⟨_, rfl⟩
  have H1 := hide hS1
  have H2 := hide hS2
  have H3 := hide hS3
  have H4 := hide hS4
  clear hS1 hS2 hS3 hS4
  go_enter Try.func7, Try.ntmps7
  go_wp2_with fail
  refine (cutS_c a 20 _ (by omega)).mono ?_
  rw [← Ha.out]
  rintro e _ ⟨rfl, rfl⟩
  go_wp2_with fail
  refine (cutS_c b 20 _ (by omega)).mono ?_
  rw [← Hb.out]
  rintro e _ ⟨rfl, rfl⟩
  go_wp2_with fail
  refine (New_s w 12 w (Only.refl _ _)).mono ?_
  rintro e w1 ⟨p, h, rfl, hst, _, _, _⟩
  rw [V.out] at hst
  have R1 := hide hst
  clear hst
  go_wp2_with fail
  refine (Put_s a' hal R1.out).mono ?_
  rw [← H1.out]
  rintro e w2 ⟨rfl, hst, _⟩
  have R2 := hide hst
  clear hst
  go_wp2_with fail
  refine (Take_s 3 R2.out).mono ?_
  rw [← H2.out]
  rintro e w3 ⟨rfl, hst, _⟩
  have R3 := hide hst
  clear hst
  go_wp2_with fail
  refine (Copy_s R3.out).mono ?_
  rintro e w4 ⟨p2, h2, rfl, hst, hp2, hh2, hb4⟩
  have C4 := hide hst
  have R4 := hide (R3.out.below hb4)
  have hne : ¬ (p = p2 ∨ p = h2) ∧ ¬ (h = p2 ∨ h = h2) ∧ ¬ (p2 = p ∨ p2 = h) ∧ ¬ (h2 = p ∨ h2 = h) := by have := R3.out.lt; omega
  have Hne := hide hne
  clear hst hp2 hh2 hb4 hne
  go_wp2_with fail
  refine (Peek_s 0 12 R4.out).mono ?_
  rintro e w5 ⟨he, hb5⟩
  have hpk := pk_all (N := 12) R4.out.fit.1
  rw [show ((12 : Nat) : Int) = 12 from rfl] at hpk
  rw [hpk] at he
  subst he
  have R5 := hide (R4.out.below hb5)
  have C5 := hide (C4.out.below hb5)
  clear hb5 hpk
  go_wp2_with fail
  refine (Take_s n C5.out).mono ?_
  rw [← H3.out]
  rintro e w6 ⟨rfl, hst, ho6⟩
  have C6 := hide hst
  have R6 := hide (R5.out.only ho6 Hne.out.1 Hne.out.2.1 (fun i hi => by have := C5.out.fs; omega))
  clear hst ho6
  go_wp2_with fail
  refine (Put_s b' hbl C6.out).mono ?_
  rw [← H4.out]
  rintro e w7 ⟨rfl, hst, ho7⟩
  have C7 := hide hst
  have R7 := hide (R6.out.only ho7 Hne.out.1 Hne.out.2.1 (fun i hi => by have := C5.out.fs; omega))
  clear hst ho7
  go_wp2_with fail
  refine (Peek_s 0 12 C7.out).mono ?_
  rintro e w8 ⟨he, hb8⟩
  have hpk := pk_all (N := 12) C7.out.fit.1
  rw [show ((12 : Nat) : Int) = 12 from rfl] at hpk
  rw [hpk] at he
  have HP := hide hpk
  subst he
  have R8 := hide (R7.out.below hb8)
  have C8 := hide (C7.out.below hb8)
  clear hb8 hpk
  go_wp2_with fail
  refine (Take_s 2 R8.out).mono ?_
  rintro e w9 ⟨rfl, hst, ho9⟩
  have R9 := hide hst
  have C9 := hide (C8.out.only ho9 Hne.out.2.2.1 Hne.out.2.2.2 (fun i hi => by have := R8.out.fs; omega))
  clear hst ho9
  go_wp2_with fail
  refine (Put_s _ (by decide) R9.out).mono ?_
  rintro e w10 ⟨rfl, hst, ho10⟩
  have C10 := hide (C9.out.only ho10 Hne.out.2.2.1 Hne.out.2.2.2 (fun i hi => by have := R8.out.fs; omega))
  clear hst ho10
  go_wp2_with fail
  refine (RNew_c 12 _).mono ?_
  rw [show within (12 : Int) 1 4096 = 12 by decide]
  rintro e w11 ⟨rfl, hb11⟩
  have C11 := hide ((C10.out.below hb11).alloc (.cells #[.string ⟨#[]⟩, .int .i64 12] 54))
  have B11 : Blk (w11.alloc (.cells #[.string ⟨#[]⟩, .int .i64 12] 54)) w11.heap.size 54 #[.string ⟨#[]⟩, .int .i64 12] := Blk.new _ _ _
  obtain ⟨g, hg⟩ : ∃ g, g = w11.heap.size := ⟨_, rfl⟩
  have hgp : ¬ p2 = g ∧ ¬ h2 = g ∧ w.heap.size ≤ g := by have := (C10.out.below hb11).lt; have := (C10.out.below hb11).ho.size; omega
  rw [← hg] at B11
  have HG := hide hg
  have Hgp := hide hgp
  have HB := hide B11
  clear hb11 B11 hg hgp
  go_wp2_with fail
  refine (RPut_c 12 ⟨#[]⟩ _ (by omega) (by decide) a' hal).mono ?_
  rw [← H1.out, ← HG.out]
  rintro e w12 ⟨rfl, hb12⟩
  have C12 := hide ((C11.out.below hb12).two Hgp.out.1 Hgp.out.2.1 Hgp.out.2.2 (.string S1) (.int .i64 12))
  have B12 := HB.out.below hb12
  obtain ⟨z0, z1, f0, f1⟩ := B12.two
  have HB2 := hide (B12.two_set (.string S1) (.int .i64 12))
  clear hb12 B12
  go_wp2_with fail
  have hs1 : S1.size ≤ 12 := R2.out.fit.1
  refine (RTake_c 12 S1 _ (by omega) hs1 3).mono ?_
  rw [← H2.out]
  rintro e w13 ⟨rfl, hb13⟩
  have C13 := hide ((C12.out.below hb13).two Hgp.out.1 Hgp.out.2.1 Hgp.out.2.2 (.string S2) (.int .i64 12))
  have B13 := HB2.out.below hb13
  obtain ⟨z0, z1, f0, f1⟩ := B13.two
  have HB3 := hide (B13.two_set (.string S2) (.int .i64 12))
  clear hb13 B13
  go_wp2_with fail
  have hs2 : S2.size ≤ 12 := R3.out.fit.1
  refine (RTake_c 12 S2 _ (by omega) hs2 n).mono ?_
  rw [← H3.out]
  rintro e w14 ⟨rfl, hb14⟩
  have C14 := hide ((C13.out.below hb14).alloc (.cells #[.string S3, .int .i64 12] 54))
  have B14 := HB3.out.below hb14
  have B14b : Blk (w14.alloc (.cells #[.string S3, .int .i64 12] 54)) w14.heap.size 54 #[.string S3, .int .i64 12] := Blk.new _ _ _
  obtain ⟨y0, y1, _, _⟩ := B14.two
  have HA := hide (B14.alloc (.cells #[.string S3, .int .i64 12] 54))
  obtain ⟨k, hk⟩ : ∃ k, k = w14.heap.size := ⟨_, rfl⟩
  have hkp : ¬ p2 = k ∧ ¬ h2 = k ∧ w.heap.size ≤ k ∧ ¬ g = k := by have := (C13.out.below hb14).lt; have := (C13.out.below hb14).ho.size; have := B14.lt; omega
  rw [← hk] at B14b
  have HK := hide hk
  have Hkp := hide hkp
  have HBk := hide B14b
  clear hb14 B14 B14b hk hkp
  go_wp2_with fail
  have hs3 : S3.size ≤ 12 := C6.out.fit.1
  refine (RPut_c 12 S3 _ (by omega) hs3 b' hbl).mono ?_
  rw [← H4.out, ← HK.out]
  rintro e w15 ⟨rfl, hb15⟩
  have C15 := hide ((C14.out.below hb15).two Hkp.out.1 Hkp.out.2.1 Hkp.out.2.2.1 (.string S4) (.int .i64 12))
  have B15 := HBk.out.below hb15
  obtain ⟨x0, x1, u0, u1⟩ := B15.two
  have A15 := HA.out.below hb15
  obtain ⟨v0, v1, _, _⟩ := A15.two
  have hgk := Hkp.out.2.2.2
  clear hb15 B15 A15
  go_wp2_with fail
  refine (Peek_s 0 12 C15.out).mono ?_
  rw [HP.out]
  rintro e w16 ⟨rfl, hb16⟩
  have C16 := hide (C15.out.below hb16)
  clear hb16
  go_wp2_with fail
  refine (ring_lives _).mono ?_
  rintro e w17 ⟨rfl, ho17⟩
  go_wp2_with fail
  go_ret
  exact ⟨rfl, C16.out.ho.trans ho17⟩
end Go.Proofs.Ytmkbhejbbhikcaa
