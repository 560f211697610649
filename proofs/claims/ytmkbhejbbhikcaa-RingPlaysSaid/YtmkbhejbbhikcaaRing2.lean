/- What the methods of a ring that change it do. Conditions: those of each theorem. -/
import Derived.Test.YtmkbhejbbhikcaaRing
namespace Go.Proofs.Ytmkbhejbbhikcaa
open Go.RowKit
set_option linter.unusedVariables false

set_option maxRecDepth 100000 in
theorem New_r (most : Int) (w : World) : Calls Try.prog 33 #[.int .i64 most] w fun e w' => e = .returned (.pointer (some ⟨w.heap.size + 1, 0, none⟩)) ∧
    RingAt w' (w.heap.size + 1) w.heap.size (clip most 1 4096).toNat (clip most 1 4096).toNat 0 (rz (clip most 1 4096).toNat) [] ⟨#[]⟩ ∧ Only NoBlk w w' ∧ w'.heap.size = w.heap.size + 2 := by
  have hm := mk_bytes (min (max most 1) 4096) (by omega) (by omega)
  have h1 : 1 ≤ (clip most 1 4096).toNat := by unfold clip; omega
  have h2 : (clip most 1 4096).toNat ≤ 4096 := by unfold clip; omega
  have fin : RingAt ((w.alloc (.cells (bys (rz (clip most 1 4096).toNat)).toArray 5)).alloc (.cells #[.slice (some ⟨w.heap.size, 0, none⟩) (clip most 1 4096).toNat (clip most 1 4096).toNat, .int .i64 0, .int .i64 0] 115)) (w.heap.size + 1) w.heap.size (clip most 1 4096).toNat (clip most 1 4096).toNat 0 (rz (clip most 1 4096).toNat) [] ⟨#[]⟩ :=
    ⟨Blk.new' (by simp), by rw [List.append_nil]; exact (Blk.new w _ _).alloc _, Nat.le_refl _, by omega, RRep.new h1 h2⟩
  have ho : ∀ o1 o2, Only NoBlk w ((w.alloc o1).alloc o2) := fun o1 o2 => ((Only.refl _ w).alloc _).alloc _
  have Fin := hide fin
  have Ho := hide ho
  clear fin ho h1 h2
  go_enter Try.func33, Try.ntmps33
  go_wp2
  go_ret
  exact ⟨rfl, Fin.out, Ho.out _ _, by simp⟩
section
variable {p h N C f : Nat} {X : List UInt8} {Y : List Value} {S : ByteArray} {w : World}
theorem drop_c (n : Nat) (hn : n ≤ S.size) (hr : RingAt w p h N C f X Y S) :
    Calls Try.prog 88 #[.pointer (some ⟨p, 0, none⟩), .int .i64 n] w fun e w' => e = .returned (.tuple #[]) ∧ RingAt w' p h N C (rfirst N f n S) X Y (S.extract n S.size) ∧ Only (· = p) w w' := by
  obtain ⟨⟨c0, c1, c2⟩, f1, f2⟩ := hr.cells
  have hn2 := hr.rep.n2
  have hfit := hr.rep.fit
  have H := hide hr
  have HS := hide (ba_sub_size S n S.size hn (Nat.le_refl _))
  have hsub : ((S.size - n : Nat) : Int) = S.size - n := by omega
  have HB := hide hsub
  clear hr hsub
  by_cases hz : S.size - n = 0
  · have hb : ((S.size : Int) - n == 0) = true := by simp; omega
    have hE : rfirst N f n S = 0 := by unfold rfirst; rw [if_pos hz]
    have HE := hide hE
    clear hz hE
    go_enter Try.func88, Try.ntmps88
    go_wp2_with (go_at_call 86; refine (place_c n (by omega) H.out).mono ?_; rintro e w' ⟨rfl, m, rfl⟩)
    go_end0
    have B := ((H.out.own.drewN m).set_ 1 (.int .i64 (plc N f n))).set_ 2 (.int .i64 ((S.size : Int) - n))
    have k := (((Only.refl (· = p) w).drewN m).setCell (p := ⟨p, 1, none⟩) (Or.inl rfl) (.int .i64 (plc N f n))).setCell (p := ⟨p, 2, none⟩) (Or.inl rfl) (.int .i64 ((S.size : Int) - n))
    have B2 := B.set_ 1 (.int .i64 0)
    have k2 := k.setCell (p := ⟨p, 1, none⟩) (Or.inl rfl) (.int .i64 0)
    refine ⟨rfl, ⟨?_, H.out.row.only k2 (fun e => H.out.ne e.symm), H.out.cap, H.out.ne, H.out.rep.drop n hn⟩, k2⟩
    rw [HE.out, HS.out, HB.out]
    exact B2
  · have hb : ((S.size : Int) - n == 0) = false := by simp; omega
    have hE : rfirst N f n S = plc N f n := by unfold rfirst; rw [if_neg hz]
    have HE := hide hE
    clear hz hE
    go_enter Try.func88, Try.ntmps88
    go_wp2_with (go_at_call 86; refine (place_c n (by omega) H.out).mono ?_; rintro e w' ⟨rfl, m, rfl⟩)
    go_end0
    have B := ((H.out.own.drewN m).set_ 1 (.int .i64 (plc N f n))).set_ 2 (.int .i64 ((S.size : Int) - n))
    have k := (((Only.refl (· = p) w).drewN m).setCell (p := ⟨p, 1, none⟩) (Or.inl rfl) (.int .i64 (plc N f n))).setCell (p := ⟨p, 2, none⟩) (Or.inl rfl) (.int .i64 ((S.size : Int) - n))
    refine ⟨rfl, ⟨?_, H.out.row.only k (fun e => H.out.ne e.symm), H.out.cap, H.out.ne, H.out.rep.drop n hn⟩, k⟩
    rw [HE.out, HS.out, HB.out]
    exact B
theorem Put_c (s : ByteArray) (hs : s.size ≤ maxLen) (hr : RingAt w p h N C f X Y S) :
    Calls Try.prog 34 #[.pointer (some ⟨p, 0, none⟩), .string s] w fun e w' => e = .returned (.int .i64 (rput N S s)) ∧ RingAt w' p h N C f (rputX N f X S s) Y (rputS N S s) ∧ Only (fun k => k = p ∨ k = h) w w' := by
  unfold maxLen at hs
  obtain ⟨⟨c0, c1, c2⟩, f1, f2⟩ := hr.cells
  have hn2 := hr.rep.n2
  have hfit := hr.rep.fit
  have hnl := rput_le N S s
  have hsz := hr.rep.put s
  have Hz := hide hsz
  have H := hide hr
  have hp := plc_lt hr.rep.flt hfit
  obtain ⟨n, hn⟩ : ∃ n, n = rput N S s := ⟨_, rfl⟩
  obtain ⟨q, hq⟩ : ∃ q, q = plc N f S.size := ⟨_, rfl⟩
  have hmin : min (s.size : Int) ((N : Int) - S.size) = n := by rw [hn]; unfold rput; omega
  have hn3 : (n : Int) ≤ s.size := by rw [hn]; omega
  have hnN : S.size + n ≤ N := by rw [hn]; unfold rput; omega
  rw [← hn] at hnl ⊢
  rw [← hq] at hp
  have Hn := hide hn
  have Hq := hide hq
  clear hr hsz hn hq
  go_enter Try.func34, Try.ntmps34
  go_wp2
  have h1 : IntKind.i64.wrap ((N : Int) - S.size) = N - S.size := IntWalk.i64_in _ (by omega)
  go_quiet (fail)
  go_wp2_with (go_at_call 86; refine (place_c S.size hfit (H.out.drewN _)).mono ?_; rintro e w' ⟨rfl, m, rfl⟩)
  rw [← Hq.out]
  have R0 := H.out.drewN (nq + m)
  have Row := hide R0.row
  obtain ⟨⟨d0, d1, d2⟩, g1, g2⟩ := R0.cells
  clear c0 c1 c2 f1 f2
  obtain ⟨w1, hw1⟩ : ∃ w1, w1 = w.drewN (nq + m) := ⟨_, rfl⟩
  rw [← hw1] at Row d0 d1 d2 g1 g2 R0 ⊢
  have Hw1 := hide hw1
  clear hw1 R0
  have hqN : q ≤ N := by omega
  have hcap := H.out.cap
  have hNq : ¬ C = q := by omega
  obtain ⟨k, hk⟩ : ∃ k, k = min n (N - q) := ⟨_, rfl⟩
  have hkn : k ≤ n := by omega
  have hkq : q + k ≤ N := by omega
  have hXl := hide H.out.rep.len
  obtain ⟨X1, hX1⟩ : ∃ X1, X1 = splice X q (s.data.toList.take k) := ⟨_, rfl⟩
  have Hk := hide hk
  have HX1 := hide hX1
  have Hsl : Hid (splice X q ((s.extract 0 n).data.toList.take k) = X1) := by
    have e : (s.extract 0 n).data.toList.take k = s.data.toList.take k := by
      rw [ba_sub, List.drop_zero, List.take_take]; congr 1; omega
    show _ = _
    rw [e, hX1]
  have Hmk : Hid (Nat.min (s.extract 0 n).size (N - q) = k) := by
    show _ = _
    rw [ba_sub_size s 0 n (by omega) hnl, hk]; rfl
  clear hk hX1
  go_region_law (refine step_copy_str rfl (.tmp 34) (.tmp 37) _ _ rfl 5 Try.underlying62 (by kernel_rfl) h q (N - q) _ rfl _ rfl X 5 Y Row.out k Hmk.out (by rw [hXl.out]; exact hkq) X1 Hsl.out ?_; intro w2 hB2 ho2; have Row2 := hide hB2; have Ho2 := hide ho2; clear hB2 ho2)
  have hph : ¬ p = h := H.out.ne
  replace d0 := okeep (p := ⟨p, 0, none⟩) Ho2.out hph d0
  replace d2 := okeep (p := ⟨p, 2, none⟩) Ho2.out hph d2
  have hX1l : X1.length = N := by rw [HX1.out, length_splice _ _ _ (by rw [hXl.out, List.length_take, ba_size]; omega), hXl.out]
  have HX1l := hide hX1l
  obtain ⟨X2, hX2⟩ : ∃ X2, X2 = splice X1 0 ((s.data.toList.drop k).take (n - k)) := ⟨_, rfl⟩
  have HX2 := hide hX2
  have Hsl2 : Hid (splice X1 0 ((s.extract k n).data.toList.take (n - k)) = X2) := by
    have e : (s.extract k n).data.toList.take (n - k) = (s.data.toList.drop k).take (n - k) := by
      rw [ba_sub, List.take_take]; congr 1; omega
    show _ = _
    rw [e, hX2]
  have Hmk2 : Hid (Nat.min (s.extract k n).size N = n - k) := by
    show _ = _
    rw [ba_sub_size s k n hkn hnl]
    exact Nat.min_eq_left (by omega)
  clear hX1l hX2
  have hks : k ≤ s.size := by omega
  go_wp2_with fail
  go_region_law (refine step_copy_str rfl (.tmp 42) (.tmp 46) _ _ rfl 5 Try.underlying62 (by kernel_rfl) h 0 N _ rfl _ rfl X1 5 Y Row2.out (n - k) Hmk2.out (by rw [HX1l.out]; omega) X2 Hsl2.out ?_; intro w3 hB3 ho3; have Row3 := hide hB3; have Ho3 := hide ho3; clear hB3 ho3)
  replace d2 := okeep (p := ⟨p, 2, none⟩) Ho3.out hph d2
  have hB0 : Blk w3 p 115 #[.slice (some ⟨h, 0, none⟩) N C, .int .i64 f, .int .i64 S.size] := by
    have h0 := H.out.own.drewN (nq + m)
    rw [← Hw1.out] at h0
    exact ((h0.drew.only Ho2.out hph).drew).only Ho3.out hph
  have HB0 := hide hB0
  have g2' := hB0.frozen 2
  clear hB0
  go_wp2_with fail
  go_ret
  have ho : Only (fun k => k = p ∨ k = h) w w3 := by
    have k1 : Only (fun k => k = p ∨ k = h) w w1 := by rw [Hw1.out]; exact (Only.refl _ w).drewN _
    exact (k1.drew.trans (Ho2.out.mono fun _ _ e => Or.inr e)).drew.trans (Ho3.out.mono fun _ _ e => Or.inr e)
  refine ⟨rfl, ⟨?_, ?_, hcap, hph, Hz.out⟩, ho.setCell (Or.inl (Or.inl rfl)) _⟩
  · have B := HB0.out.set_ 2 (.int .i64 ((S.size : Int) + n))
    rw [rputS_size, ← Hn.out, Int.natCast_add]
    exact B
  · rw [rputX_eq N f X S s n q k Hn.out Hq.out Hk.out, ← HX1.out, ← HX2.out]
    exact Row3.out.far (fun e => hph e.symm) _
theorem ba_none (S : ByteArray) (a : Nat) : S.extract a a = ⟨#[]⟩ := by
  apply ba_ext
  rw [ba_sub, Nat.sub_self, List.take_zero]
/-- a part of the ring's room as a text -/
theorem RingAt.conv (hr : RingAt w p h N C f X Y S) (o m a b cap : Nat) (hm : (S.extract a b).size = m) (hX : ∀ j, j < m → X[o + j]? = (S.extract a b).data.toList[j]?) (q : Nat) :
    (convert 62 9 (.slice (some ⟨h, o, none⟩) m cap)).run Try.prog (w.drewN q) = .ok (.string (S.extract a b)) (w.drewN q) := by
  have hl : (S.extract a b).data.toList.length = m := by rw [ba_size, hm]
  have h1 := run_convert_bytes_back (P := Try.prog) (w.drewN q) 62 9 5 ⟨h, o, none⟩ cap (S.extract a b).data.toList Try.underlying62 Try.underlying5 Try.underlying9 (fun j hj => by
    have hx := hX j (by omega)
    rw [List.getElem?_eq_getElem hj] at hx
    have hjX : o + j < X.length := (List.getElem?_eq_some_iff.1 hx).1
    rw [Addr.add_lit, (hr.drewN q).row.cell]
    have e : (bys X ++ Y).toArray[o + j]? = (bys X)[o + j]? := by
      rw [List.getElem?_toArray, List.getElem?_append_left (by rw [bys_len]; exact hjX)]
    rw [e, bys_at X _ hjX]
    rw [List.getElem?_eq_getElem hjX] at hx
    injection hx with hx
    rw [hx])
  rw [hl] at h1
  exact h1
theorem peek_c (a n : Nat) (ha : a + n ≤ S.size) (hr : RingAt w p h N C f X Y S) :
    Calls Try.prog 87 #[.pointer (some ⟨p, 0, none⟩), .int .i64 a, .int .i64 n] w fun e w' => e = .returned (.string (S.extract a (a + n))) ∧ ∃ m, w' = w.drewN m := by
  obtain ⟨⟨c0, c1, c2⟩, f1, f2⟩ := hr.cells
  have hn2 := hr.rep.n2
  have hfit := hr.rep.fit
  have H := hide hr
  have hp := plc_lt hr.rep.flt (show a ≤ N by omega)
  by_cases hz : n = 0
  · subst hz
    have E := hide (ba_none S a)
    clear hr
    go_enter Try.func87, Try.ntmps87
    go_wp2
    go_ret
    refine ⟨?_, 0, rfl⟩
    rw [Nat.add_zero, E.out]
    rfl
  · have hzb : ((n : Int) == 0) = false := by simp; omega
    have hzb2 : (n == 0) = false := by simp; omega
    by_cases h1 : plc N f a + n ≤ N
    · have hc := hr.conv (plc N f a) n a (a + n) (C - plc N f a) (by rw [ba_sub_size S a (a + n) (by omega) ha]; omega) (hr.rep.one a n ha h1)
      obtain ⟨q, hq⟩ : ∃ q, q = plc N f a := ⟨_, rfl⟩
      rw [← hq] at hp h1 hc
      have Hq := hide hq
      have hqN : q ≤ N := by omega
      have hcap := hr.cap
      have hNq : ¬ C = q := by omega
      have hqC : q + n ≤ N → q + n ≤ C := fun h => by omega
      have hNq1 : q ≤ q + n := by omega
      clear hr hz hq
      go_enter Try.func87, Try.ntmps87
      go_wp2_with (go_at_call 86; refine (place_c a (by omega) H.out).mono ?_; rw [← Hq.out]; rintro e w' ⟨rfl, m, rfl⟩)
      go_ret
      exact ⟨rfl, m, rfl⟩
    · have hcA := hr.conv (plc N f a) (N - plc N f a) a (a + (N - plc N f a)) (C - plc N f a) (by rw [ba_sub_size S a _ (by omega) (by omega)]; omega) (hr.rep.two a n ha (by omega)).1
      have hcB := hr.conv 0 (plc N f a + n - N) (a + (N - plc N f a)) (a + n) C (by rw [ba_sub_size S _ _ (by omega) ha]; omega) (fun j hj => by rw [Nat.zero_add]; exact (hr.rep.two a n ha (by omega)).2.1 j hj)
      have hE := (hr.rep.two a n ha (by omega)).2.2
      obtain ⟨q, hq⟩ : ∃ q, q = plc N f a := ⟨_, rfl⟩
      rw [← hq] at hp h1 hcA hcB hE
      have Hq := hide hq
      have HE := hide hE
      have hqN : q ≤ N := by omega
      have hcap := hr.cap
      have hNq : ¬ C = q := by omega
      have hqC : q + n ≤ N → q + n ≤ C := fun h => by omega
      have hd1 : decide ((q : Int) + n ≤ N) = false := by simp; omega
      have hd2 : decide (q + n ≤ N) = false := by simp; omega
      clear hr hz hq hE h1
      go_enter Try.func87, Try.ntmps87
      go_wp2_with (go_at_call 86; refine (place_c a (by omega) H.out).mono ?_; rw [← Hq.out]; rintro e w' ⟨rfl, m, rfl⟩)
      have s1 : IntKind.i64.wrap ((q : Int) + n) = q + n := IntWalk.i64_in _ (by omega)
      have s2 : (0 : Int) ≤ q + n := by omega
      have s3 : IntKind.i64.wrap ((q : Int) + n - N) = q + n - N := IntWalk.i64_in _ (by omega)
      have s4 : (0 : Int) ≤ q + n - N := by simp at hd1; omega
      have s5 : ((q : Int) + n - N).toNat = q + n - N := by omega
      have s6 : (q : Int) + n - N ≤ C := by omega
      go_quiet (fail)
      go_wp2
      go_ret
      refine ⟨?_, m + nq, World.drewN_drewN _ _ _⟩
      show Ending.returned (.string (S.extract a (a + max (N - q) n))) = _
      rw [show max (N - q) n = n by have := of_decide_eq_false hd2; omega]
/-- how many are taken -/
def tk (n : Int) (S : ByteArray) : Nat := (min (max n 0) (S.size : Int)).toNat
omit p h N C f X Y S w in
theorem tk_le (n : Int) (S : ByteArray) : tk n S ≤ S.size := by unfold tk; omega
theorem Take_c (n : Int) (hr : RingAt w p h N C f X Y S) :
    Calls Try.prog 35 #[.pointer (some ⟨p, 0, none⟩), .int .i64 n] w fun e w' => e = .returned (.string (S.extract 0 (tk n S))) ∧ RingAt w' p h N C (rfirst N f (tk n S) S) X Y (S.extract (tk n S) S.size) ∧ Only (· = p) w w' := by
  obtain ⟨⟨c0, c1, c2⟩, f1, f2⟩ := hr.cells
  have hle := tk_le n S
  have hE : min (max n 0) (S.size : Int) = tk n S := by unfold tk; omega
  have H := hide hr
  clear hr
  go_enter Try.func35, Try.ntmps35
  go_wp2_with (first
    | (go_at_call 87; refine (peek_c 0 (tk n S) (by omega) H.out).mono ?_; rw [Nat.zero_add]; rintro e w' ⟨rfl, m, rfl⟩)
    | (go_at_call 88; refine (drop_c (tk n S) (by omega) (H.out.drewN m)).mono ?_; rintro e w' ⟨rfl, h1, ho1⟩; have R := hide (And.intro h1 ho1); clear h1 ho1))
  go_ret
  exact ⟨rfl, R.out.1, ((Only.refl _ w).drewN m).trans R.out.2⟩
theorem Drop_c (n : Int) (hr : RingAt w p h N C f X Y S) :
    Calls Try.prog 46 #[.pointer (some ⟨p, 0, none⟩), .int .i64 n] w fun e w' => e = .returned (.int .i64 (tk n S)) ∧ RingAt w' p h N C (rfirst N f (tk n S) S) X Y (S.extract (tk n S) S.size) ∧ Only (· = p) w w' := by
  obtain ⟨⟨c0, c1, c2⟩, f1, f2⟩ := hr.cells
  have hle := tk_le n S
  have hE : min (max n 0) (S.size : Int) = tk n S := by unfold tk; omega
  have H := hide hr
  clear hr
  go_enter Try.func46, Try.ntmps46
  go_wp2_with (first
    | (go_at_call 88; refine (drop_c (tk n S) (by omega) H.out).mono ?_; rintro e w' ⟨rfl, h1, ho1⟩; have R := hide (And.intro h1 ho1); clear h1 ho1))
  go_ret
  exact ⟨rfl, R.out.1, R.out.2⟩
def pk (a n : Int) (S : ByteArray) : ByteArray := if a < 0 ∨ n < 0 ∨ (S.size : Int) ≤ a then ⟨#[]⟩ else S.extract a.toNat (a.toNat + (min n ((S.size : Int) - a)).toNat)
theorem Peek_c (a n : Int) (hr : RingAt w p h N C f X Y S) :
    Calls Try.prog 37 #[.pointer (some ⟨p, 0, none⟩), .int .i64 a, .int .i64 n] w fun e w' => e = .returned (.string (pk a n S)) ∧ ∃ m, w' = w.drewN m := by
  obtain ⟨⟨c0, c1, c2⟩, f1, f2⟩ := hr.cells
  have hn2 := hr.rep.n2
  have hfit := hr.rep.fit
  unfold pk
  by_cases h0 : a < 0
  · rw [if_pos (Or.inl h0)]
    clear hr
    go_enter Try.func37, Try.ntmps37
    go_wp2
    go_ret
    exact ⟨rfl, 0, rfl⟩
  · have d0 : decide (a < 0) = false := by simp; omega
    by_cases h1 : n < 0
    · rw [if_pos (Or.inr (Or.inl h1))]
      clear hr
      go_enter Try.func37, Try.ntmps37
      go_wp2
      go_ret
      exact ⟨rfl, 0, rfl⟩
    · have d1 : decide (n < 0) = false := by simp; omega
      by_cases h2 : (S.size : Int) ≤ a
      · rw [if_pos (Or.inr (Or.inr h2))]
        clear hr
        go_enter Try.func37, Try.ntmps37
        go_wp2
        go_ret
        exact ⟨rfl, 0, rfl⟩
      · rw [if_neg (by omega)]
        obtain ⟨i, rfl⟩ := Int.eq_ofNat_of_zero_le (show 0 ≤ a by omega)
        obtain ⟨m, hm⟩ : ∃ m, m = (min n ((S.size : Int) - i)).toNat := ⟨_, rfl⟩
        have hE : min n ((S.size : Int) - i) = m := by omega
        have d2 : decide ((S.size : Int) ≤ i) = false := by simp; omega
        have d3 : decide (S.size ≤ i) = false := by simp; omega
        have hle : i + m ≤ S.size := by omega
        rw [← hm, Int.toNat_natCast]
        have H := hide hr
        clear hr hm
        go_enter Try.func37, Try.ntmps37
        go_wp2_with (first
          | (go_at_call 87; refine (peek_c i m hle H.out).mono ?_; rintro e w' ⟨rfl, k, rfl⟩))
        go_ret
        exact ⟨rfl, k, rfl⟩
end
theorem Put_nil (s : ByteArray) (w : World) : Calls Try.prog 34 #[.pointer none, .string s] w fun e w' => e = .returned (.int .i64 0) ∧ w = w' := by
  go_enter Try.func34, Try.ntmps34
  go_wp2
  go_ret
  exact ⟨rfl, rfl⟩
theorem Take_nil (n : Int) (w : World) : Calls Try.prog 35 #[.pointer none, .int .i64 n] w fun e w' => e = .returned (.string ⟨#[]⟩) ∧ w = w' := by
  go_enter Try.func35, Try.ntmps35
  go_wp2
  go_ret
  exact ⟨rfl, rfl⟩
theorem Peek_nil (a n : Int) (w : World) : Calls Try.prog 37 #[.pointer none, .int .i64 a, .int .i64 n] w fun e w' => e = .returned (.string ⟨#[]⟩) ∧ w = w' := by
  go_enter Try.func37, Try.ntmps37
  go_wp2
  go_ret
  exact ⟨rfl, rfl⟩
theorem At_nil (a : Int) (w : World) : Calls Try.prog 55 #[.pointer none, .int .i64 a] w fun e w' => e = .returned (.tuple #[.int .u8 0, .bool false]) ∧ w = w' := by
  go_enter Try.func55, Try.ntmps55
  go_wp2
  go_ret2
  exact ⟨rfl, rfl⟩
theorem Drop_nil (n : Int) (w : World) : Calls Try.prog 46 #[.pointer none, .int .i64 n] w fun e w' => e = .returned (.int .i64 0) ∧ w = w' := by
  go_enter Try.func46, Try.ntmps46
  go_wp2
  go_ret
  exact ⟨rfl, rfl⟩
theorem RLen_nil (w : World) : Calls Try.prog 42 #[.pointer none] w fun e w' => e = .returned (.int .i64 0) ∧ w = w' := by
  go_enter Try.func42, Try.ntmps42
  go_wp2
  go_ret
  exact ⟨rfl, rfl⟩
theorem RRoom_nil (w : World) : Calls Try.prog 43 #[.pointer none] w fun e w' => e = .returned (.int .i64 0) ∧ w = w' := by
  go_enter Try.func43, Try.ntmps43
  go_wp2
  go_ret
  exact ⟨rfl, rfl⟩
theorem RMost_nil (w : World) : Calls Try.prog 44 #[.pointer none] w fun e w' => e = .returned (.int .i64 0) ∧ w = w' := by
  go_enter Try.func44, Try.ntmps44
  go_wp2
  go_ret
  exact ⟨rfl, rfl⟩
theorem Copy_nil (w : World) : Calls Try.prog 36 #[.pointer none] w fun e w' => e = .returned (.pointer none) ∧ w = w' := by
  go_enter Try.func36, Try.ntmps36
  go_wp2
  go_ret
  exact ⟨rfl, rfl⟩
end Go.Proofs.Ytmkbhejbbhikcaa
