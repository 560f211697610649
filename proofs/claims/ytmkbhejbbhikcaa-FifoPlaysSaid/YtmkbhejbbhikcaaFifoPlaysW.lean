/- The walk of FifoPlays. Conditions: those of the theorem. -/
import Derived.Test.YtmkbhejbbhikcaaSame
import Derived.Test.YtmkbhejbbhikcaaFifo6
import Derived.Test.YtmkbhejbbhikcaaPursePlain
import Derived.Test.YtmkbhejbbhikcaaOpen
import Derived.Deep.RegionHeld3
import Derived.Deep.DrawnRows
import Derived.Deep.DeepCutAuto
import Derived.Deep.CutBlock
import Derived.Deep.RegionLaw
namespace Go.Proofs.Ytmkbhejbbhikcaa
open Go.RowKit
set_option linter.unusedVariables false
attribute [local go_sem ↓] Go.wp_at_zero Go.wp_at_succ

structure Act2 where
  k : Int
  i : Int
def enc2 (a : Act2) : List Value := [.int .i64 a.k, .int .i64 a.i]
theorem enc2_len (a : Act2) : (enc2 a).length = 2 := rfl
def act2At (l : List Act2) (k : Nat) : Act2 := l.getD k ⟨0, 0⟩
theorem acts2_at (l : List Act2) (k : Nat) (h : k < l.length) : (flat enc2 l)[k * 2]? = some (.int .i64 (act2At l k).k) ∧ (flat enc2 l)[k * 2 + 1]? = some (.int .i64 (act2At l k).i) := by
  have hk : l[k]? = some (act2At l k) := by simp [act2At, List.getD, h]
  exact ⟨flat_at enc2 2 enc2_len l k 0 _ hk (by omega), flat_at enc2 2 enc2_len l k 1 _ hk (by omega)⟩

/-- all that stands while FifoPlays goes on -/
structure FSt (w wx : World) (b nb pb ib N : Nat) (L : List Int) (A : Option Addr) (c : Nat) : Prop where
  at_ : FifoAt wx b nb pb ib N L
  rd : Rd wx (FS b nb pb ib) A (ints L)
  ho : Only NoBlk w wx
  cap : L.length ≤ c
section
variable {w wx w' : World} {b nb pb ib N : Nat} {L L' : List Int} {A A' : Option Addr} {c c' : Nat}
theorem FSt.below (h : FSt w wx b nb pb ib N L A c) (k : Below wx.heap.size wx w') : FSt w w' b nb pb ib N L A c := ⟨h.at_.below k, h.rd.below k, h.ho.trans (Only.of_below k NoBlk), h.cap⟩
theorem FSt.only0 (h : FSt w wx b nb pb ib N L A c) (k : Only NoBlk wx w') : FSt w w' b nb pb ib N L A c := ⟨h.at_.only0 k, h.rd.only k (fun _ h => h.elim), h.ho.trans k, h.cap⟩
theorem FSt.drew (h : FSt w wx b nb pb ib N L A c) : FSt w wx.drew b nb pb ib N L A c := ⟨h.at_.drew, h.rd.drew, h.ho.drew, h.cap⟩
/-- the reference's list turned, the row did -/
theorem FSt.turned (h : FSt w wx b nb pb ib N L A c) (hat : FifoAt w' b nb pb ib N L') (k : Only (FS b nb pb ib) wx w') (hk : ∀ i, FS b nb pb ib i → w.heap.size ≤ i) (hr : Rd wx (FS b nb pb ib) A' (ints L')) (hc : L'.length ≤ c') : FSt w w' b nb pb ib N L' A' c' :=
  ⟨hat, hr.only k (fun _ h => h), h.ho.fresh k (fun i _ hi => Or.inr (hk i hi)), hc⟩
end
theorem comes_eq (N : Nat) (L : List Int) (id : Int) : comesI (N : Int) L id = comes N L id := rfl
theorem push_eq (N : Nat) (L : List Int) (id : Int) : pushI (N : Int) L id = pushL N L id := rfl

theorem rd_tail {w : World} {M : Nat → Prop} {b o : Nat} {x : Int} {r : List Int} (h : Rd w M (some ⟨b, o, none⟩) (ints (x :: r))) : Rd w M (some ⟨b, o + 1, none⟩) (ints r) := by
  rcases h with h | ⟨b', o', hA, hm, hb, hc⟩
  · simp [ints] at h
  · injection hA with hA
    injection hA with e1 e2 _
    subst e1 e2
    refine Or.inr ⟨b, o + 1, rfl, hm, hb, fun j hj => ?_⟩
    have := hc (j + 1) (by simpa [ints] using hj)
    rw [show o + 1 + j = o + (j + 1) by omega, this]
    simp [ints]
theorem rd_empty {w : World} {M : Nat → Prop} {A : Option Addr} {r : List Int} (h : r.length = 0) : Rd w M A (ints r) := by
  have : r = [] := List.eq_nil_of_length_eq_zero h
  subst this; exact Rd.nil
theorem erase_filter (L : List Int) (id : Int) (h : L.Nodup) : cutI L id = L.erase id := by
  unfold cutI
  rw [h.erase_eq_filter]
  congr 1
  funext x
  by_cases e : x = id <;> simp [e]

set_option maxRecDepth 100000 in
set_option maxHeartbeats 1600000 in
theorem FifoPlays_walk (most ask : Int) (A : Option Addr) (c : Nat) (l : List Act2) (w : World) (hr : Rd w NoBlk A (flat enc2 l)) (hn0 : l.length ≤ maxLen) :
    Calls Try.prog 12 #[.int .i64 most, .slice A l.length c, .int .i64 ask] w fun e w' => e = .returned (.bool true) ∧ Only NoBlk w w' := by
  have hn : l.length ≤ 9223372036854775807 := hn0
  obtain ⟨n, hnl⟩ : ∃ n, n = l.length := ⟨_, rfl⟩
  rw [← hnl] at hn ⊢
  obtain ⟨N, hN⟩ : ∃ N, N = (clip most 1 1024).toNat := ⟨_, rfl⟩
  have hNI : (N : Int) = within most 1 1024 := by rw [hN, within_clip _ _ _ (by omega)]; unfold clip; omega
  have Hr := hide hr
  have Hn := hide hnl
  have HN := hide hN
  have HNI := hide hNI
  clear hr hnl hn0 hN hNI
  go_enter Try.func12, Try.ntmps12
  go_wp2_with fail
  refine (FNew_c most _).mono ?_
  rintro e w1 ⟨b, nb, pb, ib, rfl, h1, ho1, hk⟩
  rw [← HN.out] at h1
  have Hk := hide hk
  clear hk
  go_wp2_with fail
  refine (within_c most 1 1024 _).mono ?_
  rintro e w2 ⟨rfl, rfl⟩
  rw [← HNI.out]
  have hst0 : FSt w (w1.alloc (.cells #[] 3)) b nb pb ib N [] (some ⟨w1.heap.size, 0, none⟩) 0 := ⟨h1.only0 ((Only.refl NoBlk _).alloc _), Rd.nil, ho1.alloc _, Nat.le_refl _⟩
  have H0 := hide hst0
  clear h1 ho1 hst0
  go_wp2_with fail
  refine (Most_f H0.out.at_).mono ?_
  rintro e w2 ⟨rfl, rfl⟩
  go_wp2_with fail
  refine (told_c ask _ 0 [] _ H0.out.at_ H0.out.rd).mono ?_
  rintro e w2 ⟨rfl, ho2⟩
  have hst1 := H0.out.only0 ho2
  clear ho2
  go_wp2_with fail
  go_loopw [8, 10] (fun v x wr => ∃ (k : Nat) (L : List Int) (A : Option Addr) (c : Nat), k ≤ n ∧ k ≤ 40 ∧ x = .int .i64 k ∧ v = .slice A L.length c ∧ FSt w wr b nb pb ib N L A c) (fun _ x _ => n - (intOf x).toNat)
  case atStart => exact ⟨0, [], _, 0, Nat.zero_le _, by omega, rfl, rfl, hst1⟩
  case round =>
    clear hst1 H0
    obtain ⟨k, L, A1, c1, hk, hk40, rfl, rfl, hst⟩ := hrel
    have Hst := hide hst
    by_cases hlt : k < n
    · by_cases hlt40 : k < 40
      · have hfl := flat_len enc2 2 enc2_len l
        obtain ⟨b1, o1, rfl, _, hb, hc⟩ := Hr.out.at_ (j := k * 2) (by have := Hn.out; omega)
        have h1 := acts2_at l k (by rw [← Hn.out]; exact hlt)
        have g0 : wr.cell? ⟨b1, o1 + k * 2, none⟩ = some (.int .i64 (act2At l k).k) := (hst.ho.cell (p := ⟨b1, o1 + k * 2, none⟩) hb (fun h => h)).trans (by rw [hc _ (by have := Hn.out; omega)]; exact h1.1)
        have g1 : wr.cell? ⟨b1, o1 + k * 2 + 1, none⟩ = some (.int .i64 (act2At l k).i) := (hst.ho.cell (p := ⟨b1, o1 + k * 2 + 1, none⟩) hb (fun h => h)).trans (by rw [Nat.add_assoc, hc _ (by have := Hn.out; omega)]; exact h1.2)
        clear hc h1 hfl hst
        obtain ⟨⟨ak, ai⟩, hact⟩ : ∃ a, a = act2At l k := ⟨_, rfl⟩
        rw [← hact] at g0 g1
        simp only at g0 g1
        clear hact
        obtain ⟨W1, hW1⟩ : ∃ W1, W1 = wr.alloc (.cells #[.int .i64 ak, .int .i64 ai] 86) := ⟨_, rfl⟩
        have hst1 : FSt w W1 b nb pb ib N L A1 c1 := by rw [hW1]; exact Hst.out.only0 ((Only.refl NoBlk _).alloc _)
        have hab : Blk W1 wr.heap.size 86 #[.int .i64 ak, .int .i64 ai] := by rw [hW1]; exact Blk.new _ _ _
        have hne1 : ∀ i, FS b nb pb ib i → i ≠ wr.heap.size := fun i hi => by have := Hst.out.at_.lt i hi; omega
        have HW1 := hide hW1
        have Hst1 := hide hst1
        have Hne := hide hne1
        clear hW1 Hst hst1 hne1
        go_upto_block 2 with fail
        rw [← HW1.out]
        clear g0 g1
        have a0 : W1.cell? ⟨wr.heap.size, 0, none⟩ = some (.int .i64 ak) := by rw [hab.cell]; rfl
        have a1 : W1.cell? ⟨wr.heap.size, 1, none⟩ = some (.int .i64 ai) := by rw [hab.cell]; rfl
        have Hab := hide hab
        clear hab
        go_cut [8] (fun v8 wx => ∃ L A c, v8 = .slice A L.length c ∧ FSt w wx b nb pb ib N L A c)
        case first =>
          by_cases hk0 : ak = 0
          · have hkb : (ak == 0) = true := by simp [hk0]
            clear hk0
            go_wp2_with fail
            refine (PushI_c (FS b nb pb ib) ai A1 c1 L W1 Hst1.out.rd (by have := Hst1.out.at_.few; omega) N Hst1.out.cap Hst1.out.at_.lt).mono ?_
            rintro e w2 ⟨A2, c2, rfl, hR2, hb2, hcap2⟩
            rw [comes_eq, push_eq]
            rw [push_eq] at hR2 hcap2
            have a1' := bkeep hb2 a1
            go_wp2_with fail
            refine (Push_c ai (Hst1.out.at_.below hb2)).mono ?_
            rintro e w3 ⟨rfl, h3, ho3⟩
            have hst3 := (Hst1.out.below hb2).turned h3 ho3 (fun i hi => Nat.le_trans (Nat.le_refl _) (Hk.out i hi)) hR2 hcap2
            go_wp2_with fail
            go_meet
            exact ⟨_, A2, c2, rfl, hst3⟩
          · have hkb : (ak == 0) = false := by simp [hk0]
            clear hk0
            by_cases hk1 : ak = 1
            · have hkb1 : (ak == 1) = true := by simp [hk1]
              clear hk1
              cases L with
              | nil =>
                go_wp2_with fail
                refine (Pop_c Hst1.out.at_).mono ?_
                rintro e w2 ⟨he, h2, ho2⟩
                have he' : e = .returned (.tuple #[.int .i64 0, .bool false]) := he
                clear he
                subst he'
                have hst3 := Hst1.out.turned h2 ho2 Hk.out Hst1.out.rd Hst1.out.cap
                clear h2
                go_wp2_with fail
                go_meet
                exact ⟨_, A1, c1, rfl, hst3⟩
              | cons x r =>
                obtain ⟨b2, o2, hA, _, hcx⟩ := rd_ints Hst1.out.rd 0 (by simp)
                have hcx' : W1.cell? ⟨b2, o2, none⟩ = some (.int .i64 x) := hcx
                subst hA
                have hnb2 : ¬ FS b nb pb ib b2 := by
                  rcases Hst1.out.rd with hh | ⟨b', o', hA, hm, _⟩
                  · simp [ints] at hh
                  · injection hA with hA
                    injection hA with e1 e2 _
                    subst e1
                    exact hm
                have hcap := Hst1.out.cap
                obtain ⟨m, hm⟩ : ∃ m, m = (x :: r).length := ⟨_, rfl⟩
                have hm1 : m = r.length + 1 := by rw [hm]; simp
                rw [← hm] at hcap
                rw [← hm]
                have m0 : (0 : Int) < (m : Int) := by omega
                have m1 : (1 : Int) ≤ (m : Int) := by omega
                have Hm1 := hide hm1
                have Hnb2 := hide hnb2
                clear hm hm1 hcx hnb2
                go_wp2_with fail
                refine (Pop_c Hst1.out.at_).mono ?_
                rintro e w2 ⟨he, h2, ho2⟩
                have he' : e = .returned (.tuple #[.int .i64 x, .bool true]) := he
                clear he
                subst he'
                have hcx2 := okeep ho2 Hnb2.out hcx'
                have H2 := hide h2
                have Ho2 := hide ho2
                clear h2 ho2 hcx'
                by_cases hc1 : c1 = 1
                · have hm' : m = 1 := by omega
                  have Hc1 := hide hc1
                  subst hc1
                  have Hr0 := hide (show r.length = 0 by have := Hm1.out; omega)
                  obtain rfl := hm'
                  go_wp2_with fail
                  go_meet
                  have hr2 : Rd W1 (FS b nb pb ib) (some ⟨b2, o2, none⟩) (ints r) := rd_empty Hr0.out
                  exact ⟨r, some ⟨b2, o2, none⟩, 0, by rw [Hr0.out], Hst1.out.turned H2.out Ho2.out Hk.out hr2 (by rw [Hr0.out]; exact Nat.le_refl _)⟩
                · have hcb : ¬ c1 = 1 := hc1
                  go_wp2_with fail
                  go_meet
                  have e : m - 1 = r.length := by have := Hm1.out; omega
                  exact ⟨r, some ⟨b2, o2 + 1, none⟩, c1 - 1, by rw [e], Hst1.out.turned H2.out Ho2.out Hk.out (rd_tail Hst1.out.rd) (by omega)⟩
            · have hkb1 : (ak == 1) = false := by simp [hk1]
              clear hk1
              by_cases hk2 : ak = 2
              · have hkb2 : (ak == 2) = true := by simp [hk2]
                clear hk2
                cases L with
                | nil =>
                  go_wp2_with fail
                  refine (Turn_c Hst1.out.at_).mono ?_
                  rintro e w2 ⟨he, h2, ho2⟩
                  have he' : e = .returned (.bool false) := he
                  clear he
                  subst he'
                  have hst3 := Hst1.out.turned h2 ho2 Hk.out Hst1.out.rd Hst1.out.cap
                  clear h2 ho2
                  go_wp2_with fail
                  go_meet
                  exact ⟨_, A1, c1, rfl, hst3⟩
                | cons x r =>
                  obtain ⟨b2, o2, hA, _, hcx⟩ := rd_ints Hst1.out.rd 0 (by simp)
                  have hcx' : W1.cell? ⟨b2, o2, none⟩ = some (.int .i64 x) := hcx
                  subst hA
                  have hnb2 : ¬ FS b nb pb ib b2 := by
                    rcases Hst1.out.rd with hh | ⟨b', o', hA, hm, _⟩
                    · simp [ints] at hh
                    · injection hA with hA
                      injection hA with e1 e2 _
                      subst e1
                      exact hm
                  have hcap := Hst1.out.cap
                  have hfew := Hst1.out.at_.few
                  obtain ⟨m, hm⟩ : ∃ m, m = (x :: r).length := ⟨_, rfl⟩
                  have hm1 : m = r.length + 1 := by rw [hm]; simp
                  rw [← hm] at hcap hfew
                  rw [← hm]
                  have m0 : (0 : Int) < (m : Int) := by omega
                  have m1 : (1 : Int) ≤ (m : Int) := by omega
                  have m2 : m ≤ 1024 := by omega
                  have m3 : 0 < m := by omega
                  have m4 : decide (0 < m) = true := by simpa using m3
                  have m5 : decide ((0 : Int) < (m : Int)) = true := by simpa using m3
                  have Hm1 := hide hm1
                  have Hnb2 := hide hnb2
                  clear hm hm1 hcx hnb2 hfew
                  go_wp2_with fail
                  refine (Turn_c Hst1.out.at_).mono ?_
                  rintro e w2 ⟨he, h2, ho2⟩
                  have he' : e = .returned (.bool true) := he
                  clear he
                  subst he'
                  have hcx2 := okeep ho2 Hnb2.out hcx'
                  have H2 := hide h2
                  have Ho2 := hide ho2
                  have Hrd2 := hide (Hst1.out.rd.only ho2 (fun _ h => h))
                  obtain ⟨i0, hi, hz0, hz1, hz2⟩ := info_parts Try.infoInt
                  clear h2 ho2 hcx'
                  have hb2lt : b2 < w2.heap.size := World.block_lt_of_cell? _ _ hcx2
                  have hone := hide (ints_one r)
                  have hlen := hide (show (ints r).length = (m - 1) * 1 by rw [ints_len]; have := Hm1.out; omega)
                  by_cases hc1 : c1 = 1
                  · have hm' : m = 1 := by omega
                    have hr0 : r.length = 0 := by have := Hm1.out; omega
                    have hr3 : Hid (Rd w2 (FS b nb pb ib) (some ⟨b2, o2, none⟩) (ints r)) := hide (rd_empty hr0)
                    replace hlen : Hid ((ints r).length = 0 * 1) := hide (by rw [ints_len, hr0])
                    clear hr0
                    subst hc1
                    subst hm'
                    go_wp2_with fail
                    go_region_held3 (fun w' => w'.cell? ⟨b2, o2, none⟩ = some (.int .i64 x)) (go_keep)
                      (first
                        | (refine step_append_rd _ (by rfl) (.tmp 107) (.tmp 109) _ (by rfl) w2.heap.size 3 i0 (.int .i64 0) 1 8 Try.underlying73 hi hz0 hz1 hz2 rfl (by omega) (.slice (some ⟨w2.heap.size, 0, none⟩) 0 0) 0 [] (by rfl) ((own_empty (Nat.le_refl _)).drew) (FS b nb pb ib) (some ⟨b2, o2, none⟩) 0 0 (ints r) (by rfl) ((hr3.out.alloc _).drew) hlen.out hone.out (by simp only [maxLen]; omega) (by omega) (by simp) ?_
                           intro v1 w3 hown1 hg1 hat1
                           simp only [Nat.zero_add, List.nil_append] at hown1
                           have hb3 : Below w2.heap.size w2 w3 := (((Below.refl _ _).alloc (Nat.le_refl _) _).drew).grown hg1 (by simp) (fun k hk => own_ge (own_empty (w := w2) (e := 3) (size := 1) (Nat.le_refl _)) k hk)
                           have k3 := (hb3.cell (p := ⟨b2, o2, none⟩) hb2lt).trans hcx2
                           have hg1' := hide hg1
                           clear hg1)
                        | (refine step_append_rd _ (by rfl) (.tmp 107) (.tmp 109) _ (by rfl) w2.heap.size 3 i0 (.int .i64 0) 1 8 Try.underlying73 hi hz0 hz1 hz2 rfl (by omega) (.slice (some ⟨w2.heap.size, 0, none⟩) 0 0) 0 [] (by rfl) (((own_empty (Nat.le_refl _)).alloc _).drew) (FS b nb pb ib) (some ⟨b2, o2, none⟩) 0 0 (ints r) (by rfl) (((hr3.out.alloc _).alloc _).drew) hlen.out hone.out (by simp only [maxLen]; omega) (by omega) (by simp; omega) ?_
                           intro v1 w3 hown1 hg1 hat1
                           simp only [Nat.zero_add, List.nil_append] at hown1
                           have hb3 : Below w2.heap.size w2 w3 := ((((Below.refl _ _).alloc (Nat.le_refl _) _).alloc (by simp) _).drew).grown hg1 (by simp; omega) (fun k hk => own_ge (own_empty (w := w2) (e := 3) (size := 1) (Nat.le_refl _)) k hk)
                           have k3 := (hb3.cell (p := ⟨b2, o2, none⟩) hb2lt).trans hcx2
                           have hX0 : Blk ((w2.alloc (.cells #[] 3)).alloc (.cells #[.int .i64 x] 3)).drew (w2.heap.size + 1) 3 #[.int .i64 x] := Blk.new' (by simp)
                           have hX3 : Blk w3 (w2.heap.size + 1) 3 #[.int .i64 x] := (hg1.block _ hX0.lt (by simp [Value.ownBlock])).trans hX0
                           have hg1' := hide hg1
                           clear hg1 hX0)
                        | (refine step_append_rd _ (by rfl) (.tmp 107) (.tmp 109) _ (by rfl) w2.heap.size 3 i0 (.int .i64 0) 1 8 Try.underlying73 hi hz0 hz1 hz2 rfl (by omega) (.slice (some ⟨w2.heap.size + 1, 0, none⟩) 0 0) 0 [] (by rfl) ((own_empty' (w := w2.alloc (.cells #[.int .i64 x] 3)) (by simp) (by simp)).drew) (FS b nb pb ib) (some ⟨b2, o2, none⟩) 0 0 (ints r) (by rfl) (((hr3.out.alloc _).alloc _).drew) hlen.out hone.out (by simp only [maxLen]; omega) (by omega) (by simp; omega) ?_
                           intro v1 w3 hown1 hg1 hat1
                           simp only [Nat.zero_add, List.nil_append] at hown1
                           have hb3 : Below w2.heap.size w2 w3 := ((((Below.refl _ _).alloc (Nat.le_refl _) _).alloc (by simp) _).drew).grown hg1 (by simp; omega) (fun k hk => by simp [Value.ownBlock] at hk; omega)
                           have k3 := (hb3.cell (p := ⟨b2, o2, none⟩) hb2lt).trans hcx2
                           have hX0 : Blk ((w2.alloc (.cells #[.int .i64 x] 3)).alloc (.cells #[] 3)).drew w2.heap.size 3 #[.int .i64 x] := (Blk.new w2 _ _).alloc _
                           have hX3 : Blk w3 w2.heap.size 3 #[.int .i64 x] := (hg1.block _ hX0.lt (by simp [Value.ownBlock])).trans hX0
                           have hg1' := hide hg1
                           clear hg1 hX0)
                        | (refine step_append_rd _ (by rfl) (.tmp 110) (.tmp 114) _ (by rfl) w2.heap.size 3 i0 (.int .i64 0) 1 8 Try.underlying73 hi hz0 hz1 hz2 rfl (by omega) v1 0 (ints r) (by rfl) (hown1.alloc _) NoBlk (some ⟨w3.heap.size, 0, none⟩) 1 1 [.int .i64 x] (by rfl) (rd_blk (Blk.new w3 _ _) (fun h => h)) rfl (ints_one [x]) (by simp only [maxLen]; omega) (by omega) (by have := hb3.size; simp; omega) ?_
                           intro v2 w4 hown2 hg2 hat2
                           have hb4 : Below w2.heap.size w2 w4 := below_append hb3 hown1 hb3.size (Nat.le_refl _) hg2
                           have k4 := (hb4.cell (p := ⟨b2, o2, none⟩) hb2lt).trans hcx2
                           clear hg2)
                        | (refine step_append_rd _ (by rfl) (.tmp 110) (.tmp 114) _ (by rfl) w2.heap.size 3 i0 (.int .i64 0) 1 8 Try.underlying73 hi hz0 hz1 hz2 rfl (by omega) v1 0 (ints r) (by rfl) hown1 NoBlk (some ⟨_, 0, none⟩) 1 1 [.int .i64 x] (by rfl) (rd_blk hX3 (fun h => h)) rfl (ints_one [x]) (by simp only [maxLen]; omega) (by omega) hb3.size ?_
                           intro v2 w4 hown2 hg2 hat2
                           have hb4 : Below w2.heap.size w2 w4 := hb3.grown hg2 hb3.size (fun k hk => own_ge hown1 k hk)
                           have k4 := (hb4.cell (p := ⟨b2, o2, none⟩) hb2lt).trans hcx2
                           clear hg2))
                    all_goals
                      obtain ⟨A2, cc2, rfl, hcap2⟩ := own_cap hown2
                      have hml : 0 + 1 = (r ++ [x]).length := by rw [List.length_append]; have := Hm1.out; simp only [List.length_cons, List.length_nil]; omega
                      have hR5 : Rd w4 (FS b nb pb ib) A2 (ints (r ++ [x])) := by rw [ints_append]; exact Rd.of_own hown2 H2.out.lt
                      have hst3 : FSt w w4 b nb pb ib N (r ++ [x]) A2 cc2 := ⟨FifoAt.below H2.out hb4, hR5, (Hst1.out.ho.fresh Ho2.out (fun i _ hi => Or.inr (Hk.out i hi))).trans (Only.of_below hb4 NoBlk), by rw [← hml]; exact hcap2⟩
                      have Hml := hide hml
                      clear hml hown2 hown1 hb4 hb3
                      go_wp2_with fail
                      go_meet
                      exact ⟨r ++ [x], A2, cc2, by rw [← Hml.out], hst3⟩
                  · have hr3 := hide (rd_tail Hrd2.out)
                    go_wp2_with fail
                    go_region_held3 (fun w' => w'.cell? ⟨b2, o2, none⟩ = some (.int .i64 x)) (go_keep)
                      (first
                        | (refine step_append_rd _ (by rfl) (.tmp 107) (.tmp 109) _ (by rfl) w2.heap.size 3 i0 (.int .i64 0) 1 8 Try.underlying73 hi hz0 hz1 hz2 rfl (by omega) (.slice (some ⟨w2.heap.size, 0, none⟩) 0 0) 0 [] (by rfl) ((own_empty (Nat.le_refl _)).drew) (FS b nb pb ib) (some ⟨b2, o2 + 1, none⟩) (m - 1) (c1 - 1) (ints r) (by rfl) ((hr3.out.alloc _).drew) hlen.out hone.out (by simp only [maxLen]; omega) (by omega) (by simp) ?_
                           intro v1 w3 hown1 hg1 hat1
                           simp only [Nat.zero_add, List.nil_append] at hown1
                           have hb3 : Below w2.heap.size w2 w3 := (((Below.refl _ _).alloc (Nat.le_refl _) _).drew).grown hg1 (by simp) (fun k hk => own_ge (own_empty (w := w2) (e := 3) (size := 1) (Nat.le_refl _)) k hk)
                           have k3 := (hb3.cell (p := ⟨b2, o2, none⟩) hb2lt).trans hcx2
                           have hg1' := hide hg1
                           clear hg1)
                        | (refine step_append_rd _ (by rfl) (.tmp 107) (.tmp 109) _ (by rfl) w2.heap.size 3 i0 (.int .i64 0) 1 8 Try.underlying73 hi hz0 hz1 hz2 rfl (by omega) (.slice (some ⟨w2.heap.size, 0, none⟩) 0 0) 0 [] (by rfl) (((own_empty (Nat.le_refl _)).alloc _).drew) (FS b nb pb ib) (some ⟨b2, o2 + 1, none⟩) (m - 1) (c1 - 1) (ints r) (by rfl) (((hr3.out.alloc _).alloc _).drew) hlen.out hone.out (by simp only [maxLen]; omega) (by omega) (by simp; omega) ?_
                           intro v1 w3 hown1 hg1 hat1
                           simp only [Nat.zero_add, List.nil_append] at hown1
                           have hb3 : Below w2.heap.size w2 w3 := ((((Below.refl _ _).alloc (Nat.le_refl _) _).alloc (by simp) _).drew).grown hg1 (by simp; omega) (fun k hk => own_ge (own_empty (w := w2) (e := 3) (size := 1) (Nat.le_refl _)) k hk)
                           have k3 := (hb3.cell (p := ⟨b2, o2, none⟩) hb2lt).trans hcx2
                           have hX0 : Blk ((w2.alloc (.cells #[] 3)).alloc (.cells #[.int .i64 x] 3)).drew (w2.heap.size + 1) 3 #[.int .i64 x] := Blk.new' (by simp)
                           have hX3 : Blk w3 (w2.heap.size + 1) 3 #[.int .i64 x] := (hg1.block _ hX0.lt (by simp [Value.ownBlock])).trans hX0
                           have hg1' := hide hg1
                           clear hg1 hX0)
                        | (refine step_append_rd _ (by rfl) (.tmp 107) (.tmp 109) _ (by rfl) w2.heap.size 3 i0 (.int .i64 0) 1 8 Try.underlying73 hi hz0 hz1 hz2 rfl (by omega) (.slice (some ⟨w2.heap.size + 1, 0, none⟩) 0 0) 0 [] (by rfl) ((own_empty' (w := w2.alloc (.cells #[.int .i64 x] 3)) (by simp) (by simp)).drew) (FS b nb pb ib) (some ⟨b2, o2 + 1, none⟩) (m - 1) (c1 - 1) (ints r) (by rfl) (((hr3.out.alloc _).alloc _).drew) hlen.out hone.out (by simp only [maxLen]; omega) (by omega) (by simp; omega) ?_
                           intro v1 w3 hown1 hg1 hat1
                           simp only [Nat.zero_add, List.nil_append] at hown1
                           have hb3 : Below w2.heap.size w2 w3 := ((((Below.refl _ _).alloc (Nat.le_refl _) _).alloc (by simp) _).drew).grown hg1 (by simp; omega) (fun k hk => by simp [Value.ownBlock] at hk; omega)
                           have k3 := (hb3.cell (p := ⟨b2, o2, none⟩) hb2lt).trans hcx2
                           have hX0 : Blk ((w2.alloc (.cells #[.int .i64 x] 3)).alloc (.cells #[] 3)).drew w2.heap.size 3 #[.int .i64 x] := (Blk.new w2 _ _).alloc _
                           have hX3 : Blk w3 w2.heap.size 3 #[.int .i64 x] := (hg1.block _ hX0.lt (by simp [Value.ownBlock])).trans hX0
                           have hg1' := hide hg1
                           clear hg1 hX0)
                        | (refine step_append_rd _ (by rfl) (.tmp 110) (.tmp 114) _ (by rfl) w2.heap.size 3 i0 (.int .i64 0) 1 8 Try.underlying73 hi hz0 hz1 hz2 rfl (by omega) v1 (m - 1) (ints r) (by rfl) (hown1.alloc _) NoBlk (some ⟨w3.heap.size, 0, none⟩) 1 1 [.int .i64 x] (by rfl) (rd_blk (Blk.new w3 _ _) (fun h => h)) rfl (ints_one [x]) (by simp only [maxLen]; omega) (by omega) (by have := hb3.size; simp; omega) ?_
                           intro v2 w4 hown2 hg2 hat2
                           have hb4 : Below w2.heap.size w2 w4 := below_append hb3 hown1 hb3.size (Nat.le_refl _) hg2
                           have k4 := (hb4.cell (p := ⟨b2, o2, none⟩) hb2lt).trans hcx2
                           clear hg2)
                        | (refine step_append_rd _ (by rfl) (.tmp 110) (.tmp 114) _ (by rfl) w2.heap.size 3 i0 (.int .i64 0) 1 8 Try.underlying73 hi hz0 hz1 hz2 rfl (by omega) v1 (m - 1) (ints r) (by rfl) hown1 NoBlk (some ⟨_, 0, none⟩) 1 1 [.int .i64 x] (by rfl) (rd_blk hX3 (fun h => h)) rfl (ints_one [x]) (by simp only [maxLen]; omega) (by omega) hb3.size ?_
                           intro v2 w4 hown2 hg2 hat2
                           have hb4 : Below w2.heap.size w2 w4 := hb3.grown hg2 hb3.size (fun k hk => own_ge hown1 k hk)
                           have k4 := (hb4.cell (p := ⟨b2, o2, none⟩) hb2lt).trans hcx2
                           clear hg2))
                    all_goals
                      obtain ⟨A2, cc2, rfl, hcap2⟩ := own_cap hown2
                      have hml : m - 1 + 1 = (r ++ [x]).length := by rw [List.length_append]; have := Hm1.out; simp only [List.length_cons, List.length_nil]; omega
                      have hR5 : Rd w4 (FS b nb pb ib) A2 (ints (r ++ [x])) := by rw [ints_append]; exact Rd.of_own hown2 H2.out.lt
                      have hst3 : FSt w w4 b nb pb ib N (r ++ [x]) A2 cc2 := ⟨FifoAt.below H2.out hb4, hR5, (Hst1.out.ho.fresh Ho2.out (fun i _ hi => Or.inr (Hk.out i hi))).trans (Only.of_below hb4 NoBlk), by rw [← hml]; exact hcap2⟩
                      have Hml := hide hml
                      clear hml hown2 hown1 hb4 hb3
                      go_wp2_with fail
                      go_meet
                      exact ⟨r ++ [x], A2, cc2, by rw [← Hml.out], hst3⟩
              · have hkb2 : (ak == 2) = false := by simp [hk2]
                clear hk2
                by_cases hk3 : ak = 3
                · have hkb3 : (ak == 3) = true := by simp [hk3]
                  clear hk3
                  have hL1 : L.length ≤ 100000 := by have := Hst1.out.at_.few; omega
                  have Hf := hide (show decide (0 ≤ findI L ai) = decide (ai ∈ L) by
                    by_cases hi : ai ∈ L
                    · rw [decide_eq_true hi, decide_eq_true (findI_hi hi)]
                    · rw [decide_eq_false hi, findI_lo hi]; rfl)
                  have hW1d : W1.drew.cell? ⟨wr.heap.size, 1, none⟩ = some (.int .i64 ai) := a1
                  have hnab := Hne.out
                  have Hnab := hide (fun (h : FS b nb pb ib wr.heap.size) => hnab _ h rfl)
                  clear hnab
                  go_wp2_with fail
                  go_region_held3 (fun w' => w'.cell? ⟨wr.heap.size, 1, none⟩ = some (.int .i64 ai)) (go_keep)
                    (first
                      | (go_at_call 51
                         refine (Cut_c ai Hst1.out.at_.drew).mono ?_
                         rintro e w4 ⟨he, hp4, ho4⟩
                         rw [← Hf.out] at he
                         subst he
                         have u3_ := okeep ho4 Hnab.out a1
                         have Hp4 := hide hp4
                         have Ho4 := hide ho4
                         clear hp4 ho4)
                      | (go_at_call 60
                         refine (Find_c (FS b nb pb ib) ai A1 c1 L _ (Hst1.out.rd.drew.only Ho4.out (fun _ h => h)) hL1).mono ?_
                         rintro e w5 ⟨rfl, rfl⟩))
                  go_wp2_with fail
                  refine (CutI_c (FS b nb pb ib) ai A1 c1 L _ (Hst1.out.rd.drew.only Ho4.out (fun _ h => h)) hL1 Hp4.out.lt).mono ?_
                  rintro e w6 ⟨A2, c2, rfl, hR2, hb2, hcap2⟩
                  have Her := hide (erase_filter L ai Hst1.out.at_.nodup.1)
                  have hst3 : FSt w w6 b nb pb ib N (cutI L ai) A2 c2 := ⟨by rw [Her.out]; exact Hp4.out.below hb2, hR2, (Hst1.out.ho.drew.fresh Ho4.out (fun i _ hi => Or.inr (Hk.out i hi))).trans (Only.of_below hb2 NoBlk), hcap2⟩
                  clear hb2
                  go_wp2_with fail
                  go_meet
                  exact ⟨_, A2, c2, rfl, hst3⟩
                · have hkb3 : (ak == 3) = false := by simp [hk3]
                  clear hk3
                  go_wp2_with fail
                  go_meet
                  exact ⟨L, A1, c1, rfl, Hst1.out⟩
        case rest =>
          obtain ⟨L, A1, c1, rfl, hst⟩ := hcut
          have Hst := hide hst
          clear hst
          go_wp2_with fail
          refine (told_c ask A1 c1 L _ Hst.out.at_ Hst.out.rd).mono ?_
          rintro e w2 ⟨rfl, ho2⟩
          have hst2 := Hst.out.only0 ho2
          clear ho2
          go_wp2_with fail
          go_roundw
          case rel => exact ⟨k + 1, L, A1, c1, by omega, by omega, by go_num, rfl, hst2⟩
          case measure => simp [intOf]; omega
      · have hd_ : decide ((k : Int) < 40) = false := by simp; omega
        clear hst
        go_wp2_with fail
        refine (fifo_lives _).mono ?_
        rintro e w3 ⟨rfl, ho3⟩
        go_wp2_with fail
        go_ret
        exact ⟨rfl, Hst.out.ho.trans ho3⟩
    · have hd_ : decide ((k : Int) < n) = false := by simp; omega
      clear hst
      go_wp2_with fail
      refine (fifo_lives _).mono ?_
      rintro e w3 ⟨rfl, ho3⟩
      go_wp2_with fail
      go_ret
      exact ⟨rfl, Hst.out.ho.trans ho3⟩
end Go.Proofs.Ytmkbhejbbhikcaa
