/- Parts of a chain of lemmas: Grace19, Grace20, Grace21. Conditions: those of each theorem. -/
import Derived.Test.YthnjebpbokmemaaGraceC
import Derived.Test.YthnjebpbokmemaaTellsP
import Derived.Test.YthnjebpbokmemaaIds31b
namespace Go.Proofs.Ythnjebpbokmemaa
open Go.RowKit
set_option linter.unusedVariables false

def stpAt (l : List Stp) (k : Nat) : Stp := l.getD k st0
/-- not over ahead of a tick -/
def lateB (b : Int) (f : LifeM) : Bool := decide (f.status = 0) || decide (f.steps.length = 0) || decide (b ≤ (stpAt f.steps (f.steps.length - 1)).tick)
def lateL (b : Int) (l : List Ev) (ids : List Int) : List Int := ids.filter fun id => lateB b (lifeO (lifeGo id 0 l))
def lateS (s : SetM) (l : List Ev) (each : Int) : List Int := if boundB s l each = true then lateL (boundT s l each) l (idsL (l.take (idxK 7 l).toNat)) else []
theorem late_succ (b : Int) (l : List Ev) (L : List Int) (k : Nat) (h : k < L.length) : lateL b l (L.take (k + 1)) = lateL b l (L.take k) ++ (if lateB b (lifeO (lifeGo (nth L k) 0 l)) = true then [nth L k] else []) := by
  have e : nth L k = L[k] := nth_of_lt h
  unfold lateL
  rw [List.take_succ_eq_append_getElem h, List.filter_append, e]
  by_cases hp : lateB b (lifeO (lifeGo L[k] 0 l)) = true <;> simp [hp]
theorem late_len (b : Int) (l : List Ev) (L : List Int) : (lateL b l L).length ≤ L.length := List.length_filter_le _ _
theorem stp_last {w : World} {M : Nat → Prop} {A : Option Addr} {L : List Stp} (hr : Rd w M A (flat encStp L)) (m : Nat) (hm : m = L.length) (hp : m ≠ 0) : ∃ b o, A = some ⟨b, o, none⟩ ∧ b < w.heap.size ∧ w.cell? ⟨b, o + (m - 1) * 6, none⟩ = some (.int .i64 (stpAt L (m - 1)).tick) := by
  subst hm
  have e : L[L.length - 1]? = some (stpAt L (L.length - 1)) := by
    simp [stpAt, List.getD, show L.length - 1 < L.length by omega]
  obtain ⟨b, o, hA, _, hb, hc⟩ := flat_cells encStp_len hr (L.length - 1) _ e (by omega)
  exact ⟨b, o, hA, hb, hc 0 (by omega)⟩
theorem rd_subL {w : World} {b o : Nat} {l : List Ev} (h : Rd w NoBlk (some ⟨b, o, none⟩) (flat encEv l)) (at_ m : Nat) (hm : at_ + m ≤ l.length) (hp : 0 < m) : Rd w NoBlk (some ⟨b, o + at_ * 12, none⟩) (flat encEv ((l.drop at_).take m)) := by
  have hl := flat_len encEv 12 encEv_len l
  rcases h with h | ⟨b', o', hA, hmm, hb, hc⟩
  · rw [h] at hl; simp at hl; omega
  · injection hA with hA
    injection hA with h1 h2 _
    subst h1; subst h2
    have hl2 := flat_len encEv 12 encEv_len ((l.drop at_).take m)
    have hlm : ((l.drop at_).take m).length = m := by rw [List.length_take, List.length_drop]; omega
    refine Or.inr ⟨b, o + at_ * 12, rfl, hmm, hb, fun j hj => ?_⟩
    rw [hl2, hlm] at hj
    have hlt : at_ * 12 + j < (flat encEv l).length := by rw [hl]; omega
    have h3 := hc (at_ * 12 + j) hlt
    rw [← Nat.add_assoc] at h3
    rw [h3]
    have hq : j = j / 12 * 12 + j % 12 := by omega
    have hd : j / 12 < m := by omega
    have e1 : l[at_ + j / 12]? = some (evAt l (at_ + j / 12)) := evAt_some (by omega)
    have e2 : ((l.drop at_).take m)[j / 12]? = some (evAt l (at_ + j / 12)) := by rw [List.getElem?_take, if_pos hd, List.getElem?_drop]; exact e1
    have f1 := flat_at encEv 12 encEv_len l (at_ + j / 12) (j % 12) _ e1 (by omega)
    have f2 := flat_at encEv 12 encEv_len ((l.drop at_).take m) (j / 12) (j % 12) _ e2 (by omega)
    have g1 : (at_ + j / 12) * 12 + j % 12 = at_ * 12 + j := by omega
    rw [g1] at f1
    rw [← hq] at f2
    rw [f1, f2]
theorem rd_pre {w : World} {A : Option Addr} {l : List Ev} (h : Rd w NoBlk A (flat encEv l)) (m : Nat) (hm : m ≤ l.length) : Rd w NoBlk A (flat encEv (l.take m)) := by
  by_cases hp : 0 < m
  · obtain ⟨b, o, hA, _⟩ := h.at_ (j := 0) (by rw [flat_len encEv 12 encEv_len]; omega)
    subst hA
    have := rd_subL h 0 m (by omega) hp
    simpa using this
  · have : m = 0 := by omega
    subst this
    exact Rd.nil
theorem rd_not {w : World} {g : Nat} {t : TypeId} {A : Option Addr} {xs : List Value} (hb : Blk w g t #[]) (h : Rd w NoBlk A xs) : Rd w (· = g) A xs := by
  rcases h with h | ⟨b, o, hA, hm, hlt, hc⟩
  · exact Or.inl h
  · by_cases hx : xs.length = 0
    · exact Or.inl (List.eq_nil_of_length_eq_zero hx)
    · refine Or.inr ⟨b, o, hA, fun e => ?_, hlt, hc⟩
      subst e
      have h0 := hc 0 (by omega)
      rw [hb.cell, List.getElem?_eq_getElem (by omega)] at h0
      simp at h0
theorem nn_lt {k n : Nat} (h : k < n) : decide ((k : Int) < (n : Int)) = true := by simp; exact h
set_option maxRecDepth 100000 in
set_option maxHeartbeats 6400000 in
theorem late_c (s : SetM) (A : Option Addr) (c : Nat) (l : List Ev) (each : Int) (w : World) (hr : Rd w NoBlk A (flat encEv l)) (hn : l.length ≤ 10000) (hx : ∀ x ∈ l, x.s.size ≤ 100) (hlc : l.length ≤ c) (ht : beginT l ≤ 9223372036854775807) (he : each ≤ 9223372036854775807) :
    Calls Try.prog 25 #[.agg (setV s), .slice A l.length c, .int .i64 each] w fun e w' => Below w.heap.size w w' ∧ ∃ A1 c1, e = .returned (.slice A1 (lateS s l each).length c1) ∧ Rd w' NoBlk A1 (flat encI (lateS s l each)) := by
  obtain ⟨i0, hi, hz0, hz1, hz2⟩ := info_parts Try.infoI3
  obtain ⟨W, hW⟩ : ∃ W, W = w.alloc (.cells (setV s) 54) := ⟨_, rfl⟩
  have hL : Below w.heap.size w W := by rw [hW]; exact below_alloc _ _
  have hb : Blk W w.heap.size 54 (setV s) := by rw [hW]; exact Blk.new _ _ _
  have hrW := hr.below hL
  have hbd := bound_c NoBlk s A c l each W hrW (by omega) ht he
  have HBd := hide hbd
  have HW := hide hW
  have HL := hide hL
  have HR := hide hrW
  have HX := hide hx
  unfold lateS
  obtain ⟨bt, hbt⟩ : ∃ bt, bt = boundT s l each := ⟨_, rfl⟩
  rw [← hbt] at HBd ⊢
  clear hbd hW hL hrW hr hx hb hbt ht he
  cases hbb : boundB s l each with
  | false =>
    rw [hbb] at HBd
    rw [if_neg (by decide)]
    clear hbb
    go_enter Try.func25, Try.ntmps25
    go_wp2_with fail
    change Calls _ _ _ (w.alloc (.cells (setV s) 54)) _
    rw [← HW.out]
    refine HBd.out.mono ?_
    rintro e w1 ⟨rfl, hb1⟩
    go_wp2_with fail
    go_ret
    exact ⟨HL.out.trans (hb1.mono HL.out.size), none, 0, rfl, Rd.nil⟩
  | true =>
    have hi0 := (boundB_iff.1 hbb).1
    rw [hbb] at HBd
    rw [if_pos rfl]
    clear hbb
    rcases idxK_or 7 l with ⟨hi7, _⟩ | ⟨k7, hk7, hi7, _⟩
    · omega
    · rw [hi7, Int.toNat_natCast]
      clear hi0
      have HF := hide (fun (w' : World) (hb : Below W.heap.size W w') => first_c NoBlk A c l 7 w' (HR.out.below hb) (by unfold maxLen; omega))
      rw [hi7] at HF
      clear hi7
      have hidn := ids_uniq (l.take k7)
      have hids := fun (w' : World) (hb : Below W.heap.size W w') => Ids_c NoBlk A c (l.take k7) w' (rd_pre (HR.out.below hb) k7 (by omega)) (by rw [List.length_take]; omega) (fun k h => h.elim)
      rw [show Lib.compact ((openedL (l.take k7)).mergeSort fun x y => decide (x ≤ y)) = idsL (l.take k7) from hidn.symm] at hids
      clear hidn
      have hlk : (l.take k7).length = k7 := by rw [List.length_take]; omega
      have hile := ids_le (l.take k7)
      rw [hlk] at hids hile
      clear hlk
      obtain ⟨L, hLL⟩ : ∃ L, L = idsL (l.take k7) := ⟨_, rfl⟩
      rw [← hLL] at hids hile ⊢
      clear hLL
      obtain ⟨N, hN⟩ : ∃ N, N = L.length := ⟨_, rfl⟩
      rw [← hN] at hids hile
      have HIds := hide hids
      have HOf := hide (fun (id : Int) (w' : World) (hb : Below W.heap.size W w') => Of_c NoBlk A c l id w' (HR.out.below hb) hn HX.out hlc (fun k h => h.elim))
      have HN := hide hN
      obtain ⟨n, hnl⟩ : ∃ n, n = l.length := ⟨_, rfl⟩
      rw [← hnl] at HBd HF HOf hn hlc hk7 ⊢
      have Hnl := hide hnl
      clear hids hN hnl
      have k1 : (0 : Int) ≤ (k7 : Int) := by omega
      have k2 : (k7 : Int) ≤ (c : Int) := by omega
      have k3 : ((k7 : Int)).toNat = k7 := Int.toNat_natCast _
      go_enter Try.func25, Try.ntmps25
      go_wp2_with fail
      change Calls _ _ _ (w.alloc (.cells (setV s) 54)) _
      rw [← HW.out]
      refine HBd.out.mono ?_
      rintro e w1 ⟨rfl, hb1⟩
      have HB1 := hide hb1
      clear hb1
      go_wp2_with fail
      refine (HF.out _ HB1.out).mono ?_
      rintro e w2 ⟨rfl, hb2⟩
      have HB2 := hide (HB1.out.trans (hb2.mono HB1.out.size))
      clear hb2
      go_wp2_with fail
      refine (HIds.out _ HB2.out).mono ?_
      rintro e w3 ⟨hb3, A3, c3, rfl, hr3⟩
      have HR3 := hide hr3
      have HB3 := hide (HB2.out.trans (hb3.mono HB2.out.size))
      clear hb3 hr3
      go_wp2_with fail
      go_loopw [7, 30] (fun v i wr => ∃ k m : Nat, k ≤ N ∧ m ≤ k ∧ i = .int .i64 k ∧ Hid ((lateL bt l (L.take k)).length = m) ∧ wr.ownsRow w3.heap.size 3 1 v m (flat encI (lateL bt l (L.take k))) ∧ Hid (Below w3.heap.size w3 wr)) (fun _ i _ => N - (intOf i).toNat)
      case atStart => exact ⟨0, 0, Nat.zero_le _, Nat.zero_le _, rfl, hide rfl, ⟨rfl, Or.inl ⟨rfl, rfl⟩⟩, hide (Below.refl _ _)⟩
      case round =>
        obtain ⟨k, m, hk, hm, rfl, hml, hown, hbel⟩ := hrel
        by_cases hlt : k < N
        · obtain ⟨b, o, rfl, hbl, g0⟩ := encI_cell (HR3.out.below hbel.out) k (by rw [← HN.out]; exact hlt)
          have HS := hide (late_succ bt l L k (by rw [← HN.out]; exact hlt))
          obtain ⟨id, hid⟩ : ∃ id, id = nth L k := ⟨_, rfl⟩
          rw [← hid] at g0 HS
          clear hid
          have hbW := hide (HB3.out.trans (hbel.out.mono HB3.out.size))
          have hof := HOf.out id wr hbW.out
          obtain ⟨f, hf⟩ : ∃ f, f = lifeO (lifeGo id 0 l) := ⟨_, rfl⟩
          rw [← hf] at HS
          have HOo := hide hof
          have Hf := hide hf
          clear hof hf
          have j1 : (0 : Int) ≤ (k : Int) := by omega
          have j2 : (k : Int) < (N : Int) := by omega
          have j3 := nn_lt hlt
          obtain ⟨ms, hms⟩ : ∃ ms, ms = f.steps.length := ⟨_, rfl⟩
          obtain ⟨tk, htk⟩ : ∃ tk, tk = (stpAt f.steps (ms - 1)).tick := ⟨_, rfl⟩
          have hlb : lateB bt f = (decide (f.status = 0) || decide (ms = 0) || decide (bt ≤ tk)) := by rw [htk, hms]; rfl
          have hsm := lifeO_small (id := id) HX.out (by rw [← Hnl.out]; exact hn)
          rw [← Hf.out, ← hms] at hsm
          have hsm2 := hsm.2
          have Hlb := hide hlb
          have Hms := hide hms.symm
          have Htk := hide htk
          clear hms htk hlb hsm
          have x1 : IntKind.i64.wrap ((ms : Int) - 1) = (ms : Int) - 1 := IntWalk.i64_in _ (by omega)
          have x2 : ((ms : Int) - 1).toNat = ms - 1 := by omega
          cases q1 : (f.status == 0) with
          | true =>
            have HT := hide (show lateB bt f = true by rw [Hlb.out]; have h0 : f.status = 0 := (by simpa using q1); simp [h0])
            go_wp2_with fail
            refine HOo.out.mono ?_
            intro e w4 hret
            obtain ⟨hb4, A4, c4, B4, d4, rfl, ri4, rs4⟩ := ret_one hret
            rw [← Hf.out] at ri4 rs4 ⊢
            have hm4 : Hid (f.steps.length = ms) := Hms
            rw [hm4.out]
            obtain ⟨who, hwho⟩ : ∃ who, who = whoL id (lifeGo id 0 l) := ⟨_, rfl⟩
            rw [← hwho]
            obtain ⟨ok, hok⟩ : ∃ ok, ok = (lifeGo id 0 l).isSome := ⟨_, rfl⟩
            rw [← hok]
            obtain ⟨il, hil⟩ : ∃ il, il = f.ins.length := ⟨_, rfl⟩
            rw [← hil]
            have hown4 := own_only hown (Only.of_below hb4 NoBlk) (fun _ _ h => h.elim)
            have HB4 := hide (hbel.out.trans (hb4.mono hbel.out.size))
            clear hret hwho hok hil ri4 rs4 hb4 hm4
            have hrd : Rd ((w4.alloc (.cells #[.int .i64 who, .int .i64 f.script, .int .i64 f.start, .slice A4 il c4, .slice B4 ms d4, .string f.read, .string f.taken, .bool f.eof, .int .i64 f.status] 32)).alloc (.cells (encI id).toArray 3)) NoBlk (some ⟨w4.heap.size + 1, 0, none⟩) (encI id) := rd_blkN (Blk.new' (by simp)) (fun h => h)
            have Hrd := hide hrd
            have Hone := hide (show ∀ u ∈ encI id, u.oneCell' = true by intro u hu; simp at hu; subst hu; rfl)
            clear hrd
            go_wp2_with (first
              | (at_builtin; refine wpList_append_rd _ rfl (.tmp 61) (.tmp 63) _ rfl w3.heap.size 3 i0 _ 1 8 Try.underlying46 hi hz0 hz1 hz2 rfl (by omega) _ m _ rfl ((hown4.alloc _).alloc _) NoBlk (some ⟨w4.heap.size + 1, 0, none⟩) 1 1 (encI id) rfl Hrd.out rfl Hone.out (by simp only [maxLen]; omega) (by omega) (by have := HB4.out.size; simp; omega) ?_; intro v2 w5 hown5 hgr hat; have Own5 := hide hown5; have Gr := hide hgr; have At5 := hide hat; clear hown5 hgr hat))
            go_roundw
            case rel =>
              refine ⟨k + 1, m + 1, by omega, by omega, by go_num, ?_, ?_, ?_⟩
              · rw [HS.out, if_pos HT.out, List.length_append, hml.out]; rfl
              · rw [HS.out, if_pos HT.out, flat_append]
                have := Own5.out
                simpa [flat] using this
              · exact hide (((HB4.out.alloc HB4.out.size _).alloc (by have := HB4.out.size; simp; omega) _).grown Gr.out (by have := HB4.out.size; simp; omega) (fun j hj => by have := own_ge hown4 j hj; omega))
            case measure => simp [intOf]; omega
          | false =>
            have q1' : ¬ f.status = 0 := by simpa using q1
            by_cases hms0 : ms = 0
            · have q2 : ((ms : Int) == 0) = true := by simp; omega
              have HT := hide (show lateB bt f = true by rw [Hlb.out]; simp [hms0])
              clear q1' hms0
              go_wp2_with fail
              refine HOo.out.mono ?_
              intro e w4 hret
              obtain ⟨hb4, A4, c4, B4, d4, rfl, ri4, rs4⟩ := ret_one hret
              rw [← Hf.out] at ri4 rs4 ⊢
              have hm4 : Hid (f.steps.length = ms) := Hms
              rw [hm4.out]
              obtain ⟨who, hwho⟩ : ∃ who, who = whoL id (lifeGo id 0 l) := ⟨_, rfl⟩
              rw [← hwho]
              obtain ⟨ok, hok⟩ : ∃ ok, ok = (lifeGo id 0 l).isSome := ⟨_, rfl⟩
              rw [← hok]
              obtain ⟨il, hil⟩ : ∃ il, il = f.ins.length := ⟨_, rfl⟩
              rw [← hil]
              have hown4 := own_only hown (Only.of_below hb4 NoBlk) (fun _ _ h => h.elim)
              have HB4 := hide (hbel.out.trans (hb4.mono hbel.out.size))
              clear hret hwho hok hil ri4 rs4 hb4 hm4
              have hrd : Rd ((w4.alloc (.cells #[.int .i64 who, .int .i64 f.script, .int .i64 f.start, .slice A4 il c4, .slice B4 ms d4, .string f.read, .string f.taken, .bool f.eof, .int .i64 f.status] 32)).alloc (.cells (encI id).toArray 3)) NoBlk (some ⟨w4.heap.size + 1, 0, none⟩) (encI id) := rd_blkN (Blk.new' (by simp)) (fun h => h)
              have Hrd := hide hrd
              have Hone := hide (show ∀ u ∈ encI id, u.oneCell' = true by intro u hu; simp at hu; subst hu; rfl)
              clear hrd
              go_wp2_with (first
                | (at_builtin; refine wpList_append_rd _ rfl (.tmp 61) (.tmp 63) _ rfl w3.heap.size 3 i0 _ 1 8 Try.underlying46 hi hz0 hz1 hz2 rfl (by omega) _ m _ rfl ((hown4.alloc _).alloc _) NoBlk (some ⟨w4.heap.size + 1, 0, none⟩) 1 1 (encI id) rfl Hrd.out rfl Hone.out (by simp only [maxLen]; omega) (by omega) (by have := HB4.out.size; simp; omega) ?_; intro v2 w5 hown5 hgr hat; have Own5 := hide hown5; have Gr := hide hgr; have At5 := hide hat; clear hown5 hgr hat))
              go_roundw
              case rel =>
                refine ⟨k + 1, m + 1, by omega, by omega, by go_num, ?_, ?_, ?_⟩
                · rw [HS.out, if_pos HT.out, List.length_append, hml.out]; rfl
                · rw [HS.out, if_pos HT.out, flat_append]
                  have := Own5.out
                  simpa [flat] using this
                · exact hide (((HB4.out.alloc HB4.out.size _).alloc (by have := HB4.out.size; simp; omega) _).grown Gr.out (by have := HB4.out.size; simp; omega) (fun j hj => by have := own_ge hown4 j hj; omega))
              case measure => simp [intOf]; omega
            · have q2 : ((ms : Int) == 0) = false := by simp; omega
              have x3 : (0 : Int) ≤ (ms : Int) - 1 := by omega
              have x4 : (ms : Int) - 1 < (ms : Int) := by omega
              have x5 : ms - 1 < ms := by omega
              cases q3 : decide (bt ≤ tk) with
              | true =>
                have HT := hide (show lateB bt f = true by rw [Hlb.out, q3]; simp)
                clear q1'
                go_wp2_with fail
                refine HOo.out.mono ?_
                intro e w4 hret
                obtain ⟨hb4, A4, c4, B4, d4, rfl, ri4, rs4⟩ := ret_one hret
                rw [← Hf.out] at ri4 rs4 ⊢
                have hm4 : Hid (f.steps.length = ms) := Hms
                rw [hm4.out]
                obtain ⟨who, hwho⟩ : ∃ who, who = whoL id (lifeGo id 0 l) := ⟨_, rfl⟩
                rw [← hwho]
                obtain ⟨ok, hok⟩ : ∃ ok, ok = (lifeGo id 0 l).isSome := ⟨_, rfl⟩
                rw [← hok]
                obtain ⟨il, hil⟩ : ∃ il, il = f.ins.length := ⟨_, rfl⟩
                rw [← hil]
                have hown4 := own_only hown (Only.of_below hb4 NoBlk) (fun _ _ h => h.elim)
                have HB4 := hide (hbel.out.trans (hb4.mono hbel.out.size))
                obtain ⟨b5, o5, rfl, hb5, gt⟩ := stp_last rs4 ms hm4.out.symm hms0
                have e1 : ¬ b5 = w4.heap.size := by omega
                rw [← Htk.out] at gt
                clear hret hwho hok hil ri4 rs4 hb4 hm4
                have hrd : Rd ((w4.alloc (.cells #[.int .i64 who, .int .i64 f.script, .int .i64 f.start, .slice A4 il c4, .slice (some ⟨b5, o5, none⟩) ms d4, .string f.read, .string f.taken, .bool f.eof, .int .i64 f.status] 32)).alloc (.cells (encI id).toArray 3)) NoBlk (some ⟨w4.heap.size + 1, 0, none⟩) (encI id) := rd_blkN (Blk.new' (by simp)) (fun h => h)
                have Hrd := hide hrd
                have Hone := hide (show ∀ u ∈ encI id, u.oneCell' = true by intro u hu; simp at hu; subst hu; rfl)
                clear hrd
                go_wp2_with (first
                  | (at_builtin; refine wpList_append_rd _ rfl (.tmp 61) (.tmp 63) _ rfl w3.heap.size 3 i0 _ 1 8 Try.underlying46 hi hz0 hz1 hz2 rfl (by omega) _ m _ rfl ((hown4.alloc _).alloc _) NoBlk (some ⟨w4.heap.size + 1, 0, none⟩) 1 1 (encI id) rfl Hrd.out rfl Hone.out (by simp only [maxLen]; omega) (by omega) (by have := HB4.out.size; simp; omega) ?_; intro v2 w5 hown5 hgr hat; have Own5 := hide hown5; have Gr := hide hgr; have At5 := hide hat; clear hown5 hgr hat))
                go_roundw
                case rel =>
                  refine ⟨k + 1, m + 1, by omega, by omega, by go_num, ?_, ?_, ?_⟩
                  · rw [HS.out, if_pos HT.out, List.length_append, hml.out]; rfl
                  · rw [HS.out, if_pos HT.out, flat_append]
                    have := Own5.out
                    simpa [flat] using this
                  · exact hide (((HB4.out.alloc HB4.out.size _).alloc (by have := HB4.out.size; simp; omega) _).grown Gr.out (by have := HB4.out.size; simp; omega) (fun j hj => by have := own_ge hown4 j hj; omega))
                case measure => simp [intOf]; omega
              | false =>
                have HT := hide (show ¬ lateB bt f = true by rw [Hlb.out, q3]; simp [q1', hms0])
                clear q1'
                go_wp2_with fail
                refine HOo.out.mono ?_
                intro e w4 hret
                obtain ⟨hb4, A4, c4, B4, d4, rfl, ri4, rs4⟩ := ret_one hret
                rw [← Hf.out] at ri4 rs4 ⊢
                have hm4 : Hid (f.steps.length = ms) := Hms
                rw [hm4.out]
                obtain ⟨who, hwho⟩ : ∃ who, who = whoL id (lifeGo id 0 l) := ⟨_, rfl⟩
                rw [← hwho]
                obtain ⟨ok, hok⟩ : ∃ ok, ok = (lifeGo id 0 l).isSome := ⟨_, rfl⟩
                rw [← hok]
                obtain ⟨il, hil⟩ : ∃ il, il = f.ins.length := ⟨_, rfl⟩
                rw [← hil]
                have hown4 := own_only hown (Only.of_below hb4 NoBlk) (fun _ _ h => h.elim)
                have HB4 := hide (hbel.out.trans (hb4.mono hbel.out.size))
                obtain ⟨b5, o5, rfl, hb5, gt⟩ := stp_last rs4 ms hm4.out.symm hms0
                have e1 : ¬ b5 = w4.heap.size := by omega
                rw [← Htk.out] at gt
                clear hret hwho hok hil ri4 rs4 hb4 hm4
                go_wp2_with fail
                go_roundw
                case rel =>
                  refine ⟨k + 1, m, by omega, by omega, by go_num, ?_, ?_, hide (HB4.out.alloc HB4.out.size _)⟩
                  · rw [HS.out, if_neg HT.out, List.append_nil]; exact hml
                  · rw [HS.out, if_neg HT.out, List.append_nil]; exact hown4.alloc _
                case measure => simp [intOf]; omega
        · have hke : k = N := by omega
          subst hke
          have hd : decide ((k : Int) < (k : Int)) = false := by simp
          have hd2 : decide (k < k) = false := by simp
          have ht : L.take k = L := List.take_of_length_le (by rw [← HN.out]; omega)
          rw [ht] at hml hown
          obtain ⟨A9, c9, rfl⟩ := own_form hown
          have hR := hide (Rd.of_own (M := NoBlk) hown (fun k h => h.elim))
          clear ht hlt hown
          go_wp2_with fail
          go_ret
          refine ⟨HL.out.trans ((HB3.out.trans (hbel.out.mono HB3.out.size)).mono HL.out.size), A9, c9, ?_, hR.out⟩
          rw [hml.out]
          rfl
end Go.Proofs.Ythnjebpbokmemaa
namespace Go.Proofs.Ythnjebpbokmemaa
open Go.RowKit
set_option linter.unusedVariables false

set_option maxRecDepth 100000 in
set_option maxHeartbeats 6400000 in
theorem refLate_c (s : SetM) (A : Option Addr) (c : Nat) (l : List Ev) (each : Int) (w : World) (hr : Rd w NoBlk A (flat encEv l)) (hn : l.length ≤ 10000) (hx : ∀ x ∈ l, x.s.size ≤ 100) (hlc : l.length ≤ c) (ht : beginT l ≤ 9223372036854775807) (he : each ≤ 9223372036854775807) :
    Calls Try.prog 26 #[.agg (setV s), .slice A l.length c, .int .i64 each] w fun e w' => Below w.heap.size w w' ∧ ∃ A1 c1, e = .returned (.slice A1 (lateS s l each).length c1) ∧ Rd w' NoBlk A1 (flat encI (lateS s l each)) := by
  obtain ⟨i0, hi, hz0, hz1, hz2⟩ := info_parts Try.infoI3
  obtain ⟨W, hW⟩ : ∃ W, W = (w.alloc (.cells (setV s) 54)).alloc (.cells #[] 3) := ⟨_, rfl⟩
  have hL : Below w.heap.size w W := by rw [hW]; exact ((Below.refl _ _).alloc (Nat.le_refl _) _).alloc (by simp) _
  have hb : Blk W w.heap.size 54 (setV s) := by rw [hW]; exact (Blk.new _ _ _).alloc _
  have hown0 : W.ownsRow w.heap.size 3 1 (.slice (some ⟨w.heap.size + 1, 0, none⟩) 0 0) 0 (flat encI []) := by rw [hW]; exact own_empty' (by simp) (by simp)
  have hrW := hr.below hL
  have hbd := refBound_c NoBlk s A c l each W hrW (by omega) ht he
  have HBd := hide hbd
  have HW := hide hW
  have HL := hide hL
  have HR := hide hrW
  have HX := hide hx
  have HO0 := hide hown0
  have HZ := hide (show Blk W (w.heap.size + 1) 3 #[] by rw [hW]; exact Blk.new' (by simp))
  have HRS := hide (rd_not HZ.out hrW)
  unfold lateS
  obtain ⟨bt, hbt⟩ : ∃ bt, bt = boundT s l each := ⟨_, rfl⟩
  rw [← hbt] at HBd ⊢
  clear hbd hW hL hrW hr hx hb hbt ht he hown0
  cases hbb : boundB s l each with
  | false =>
    rw [hbb] at HBd
    rw [if_neg (by decide)]
    clear hbb
    go_enter Try.func26, Try.ntmps26
    go_wp2_with fail
    rw [← HW.out]
    refine HBd.out.mono ?_
    rintro e w1 ⟨rfl, hb1⟩
    go_wp2_with fail
    go_ret
    exact ⟨HL.out.trans (hb1.mono HL.out.size), _, 0, rfl, Rd.nil⟩
  | true =>
    have hi0 := (boundB_iff.1 hbb).1
    rw [hbb] at HBd
    rw [if_pos rfl]
    clear hbb
    rcases idxK_or 7 l with ⟨hi7, _⟩ | ⟨k7, hk7, hi7, _⟩
    · omega
    · rw [hi7, Int.toNat_natCast]
      clear hi0
      have HF := hide (fun (w' : World) (hb : Below W.heap.size W w') => First_c NoBlk A c l 7 w' (HR.out.below hb) (by unfold maxLen; omega))
      rw [hi7] at HF
      clear hi7
      have hids := fun (w' : World) (hb : Below W.heap.size W w') => refIds_c A c (l.take k7) w' (rd_pre (HR.out.below hb) k7 (by omega)) (by rw [List.length_take]; omega)
      have hlk : (l.take k7).length = k7 := by rw [List.length_take]; omega
      have hile := ids_le (l.take k7)
      rw [hlk] at hids hile
      clear hlk
      obtain ⟨L, hLL⟩ : ∃ L, L = idsL (l.take k7) := ⟨_, rfl⟩
      rw [← hLL] at hids hile ⊢
      clear hLL
      obtain ⟨N, hN⟩ : ∃ N, N = L.length := ⟨_, rfl⟩
      rw [← hN] at hids hile
      have HIds := hide hids
      have HOf := hide (fun (id : Int) (w' : World) (hb : Only (· = w.heap.size + 1) W w') => refOf_c A c l id w' ((HRS.out.only hb (fun _ h => h)).mono (fun _ h => h.elim)) hn HX.out)
      have HN := hide hN
      obtain ⟨n, hnl⟩ : ∃ n, n = l.length := ⟨_, rfl⟩
      rw [← hnl] at HBd HF HOf hn hlc hk7 ⊢
      have Hnl := hide hnl
      clear hids hN hnl
      have k1 : (0 : Int) ≤ (k7 : Int) := by omega
      have k2 : (k7 : Int) ≤ (c : Int) := by omega
      have k3 : ((k7 : Int)).toNat = k7 := Int.toNat_natCast _
      go_enter Try.func26, Try.ntmps26
      go_wp2_with fail
      rw [← HW.out]
      refine HBd.out.mono ?_
      rintro e w1 ⟨rfl, hb1⟩
      have HB1 := hide hb1
      clear hb1
      go_wp2_with fail
      refine (HF.out _ HB1.out).mono ?_
      rintro e w2 ⟨rfl, hb2⟩
      have HB2 := hide (HB1.out.trans (hb2.mono HB1.out.size))
      clear hb2
      go_wp2_with fail
      refine (HIds.out _ HB2.out).mono ?_
      rintro e w3 ⟨hb3, A3, c3, rfl, hr3⟩
      have HR3 := hide hr3
      have HB3 := hide (HB2.out.trans (hb3.mono HB2.out.size))
      have HO3 := hide (own_only HO0.out (Only.of_below HB3.out NoBlk) (fun _ _ h => h.elim))
      have HR3S := hide (rd_not (HZ.out.below HB3.out) hr3)
      clear hb3 hr3
      go_wp2_with fail
      go_loopw [7, 11] (fun v i wr => ∃ k m : Nat, k ≤ N ∧ m ≤ k ∧ i = .int .i64 k ∧ Hid ((lateL bt l (L.take k)).length = m) ∧ wr.ownsRow w.heap.size 3 1 v m (flat encI (lateL bt l (L.take k))) ∧ Hid (∀ j, v.ownBlock = some j → j = w.heap.size + 1 ∨ w3.heap.size ≤ j) ∧ Hid (Only (· = w.heap.size + 1) w3 wr) ∧ Hid (Below w.heap.size w wr)) (fun _ i _ => N - (intOf i).toNat)
      case atStart => exact ⟨0, 0, Nat.zero_le _, Nat.zero_le _, rfl, hide rfl, HO3.out, hide (fun j hj => Or.inl (by simp [Value.ownBlock] at hj; omega)), hide (Only.refl _ _), hide (HL.out.trans (HB3.out.mono HL.out.size))⟩
      case round =>
        obtain ⟨k, m, hk, hm, rfl, hml, hown, hob, hon, hbel⟩ := hrel
        by_cases hlt : k < N
        · obtain ⟨b, o, rfl, hbl, g0⟩ := encI_cell (HR3S.out.only hon.out (fun _ h => h)) k (by rw [← HN.out]; exact hlt)
          have HS := hide (late_succ bt l L k (by rw [← HN.out]; exact hlt))
          obtain ⟨id, hid⟩ : ∃ id, id = nth L k := ⟨_, rfl⟩
          rw [← hid] at g0 HS
          clear hid
          have hbW := hide ((Only.of_below HB3.out _).trans hon.out)
          have hof := HOf.out id wr hbW.out
          obtain ⟨f, hf⟩ : ∃ f, f = lifeO (lifeGo id 0 l) := ⟨_, rfl⟩
          rw [← hf] at HS
          have HOo := hide hof
          have Hf := hide hf
          clear hof hf
          have j1 : (0 : Int) ≤ (k : Int) := by omega
          have j2 : (k : Int) < (N : Int) := by omega
          have j3 := nn_lt hlt
          obtain ⟨ms, hms⟩ : ∃ ms, ms = f.steps.length := ⟨_, rfl⟩
          obtain ⟨tk, htk⟩ : ∃ tk, tk = (stpAt f.steps (ms - 1)).tick := ⟨_, rfl⟩
          have hlb : lateB bt f = (decide (f.status = 0) || decide (ms = 0) || decide (bt ≤ tk)) := by rw [htk, hms]; rfl
          have hsm := lifeO_small (id := id) HX.out (by rw [← Hnl.out]; exact hn)
          rw [← Hf.out, ← hms] at hsm
          have hsm2 := hsm.2
          have Hlb := hide hlb
          have Hms := hide hms.symm
          have Htk := hide htk
          clear hms htk hlb hsm
          have x1 : IntKind.i64.wrap ((ms : Int) - 1) = (ms : Int) - 1 := IntWalk.i64_in _ (by omega)
          have x2 : ((ms : Int) - 1).toNat = ms - 1 := by omega
          cases q1 : (f.status == 0) with
          | true =>
            have HT := hide (show lateB bt f = true by rw [Hlb.out]; have h0 : f.status = 0 := (by simpa using q1); simp [h0])
            go_wp2_with fail
            refine HOo.out.mono ?_
            intro e w4 hret
            obtain ⟨hb4, A4, c4, B4, d4, C4, n4, c5, rfl, ri4, rs4⟩ := ret_one31 hret
            rw [← Hf.out] at ri4 rs4 ⊢
            have hm4 : Hid (f.steps.length = ms) := Hms
            rw [hm4.out]
            obtain ⟨who, hwho⟩ : ∃ who, who = whoL id (lifeGo id 0 l) := ⟨_, rfl⟩
            rw [← hwho]
            obtain ⟨ok, hok⟩ : ∃ ok, ok = (lifeGo id 0 l).isSome := ⟨_, rfl⟩
            rw [← hok]
            obtain ⟨il, hil⟩ : ∃ il, il = f.ins.length := ⟨_, rfl⟩
            rw [← hil]
            have hown4 := own_only hown (Only.of_below hb4 NoBlk) (fun _ _ h => h.elim)
            have HB4 := hide (hbel.out.trans (hb4.mono hbel.out.size))
            have gk := bkeep hb4 g0
            have hb4l : b < w4.heap.size := World.block_lt_of_cell? _ _ gk
            have e2 : ¬ b = w4.heap.size := by omega
            have HN4 := hide (hon.out.trans (Only.of_below hb4 _))
            clear hret hwho hok hil ri4 rs4 hb4 hm4
            have hrd : Rd ((w4.alloc (.cells #[.int .i64 who, .int .i64 f.script, .int .i64 f.start, .slice A4 il c4, .slice C4 n4 c5, .slice B4 ms d4, .string f.read, .string f.taken, .bool f.eof, .int .i64 f.status] 41)).alloc (.cells (encI id).toArray 3)) NoBlk (some ⟨w4.heap.size + 1, 0, none⟩) (encI id) := rd_blkN (Blk.new' (by simp)) (fun h => h)
            have Hrd := hide hrd
            have Hone := hide (show ∀ u ∈ encI id, u.oneCell' = true by intro u hu; simp at hu; subst hu; rfl)
            clear hrd
            go_wp2_with (first
              | (at_builtin; refine wpList_append_rd _ rfl (.tmp 67) (.tmp 72) _ rfl w.heap.size 3 i0 _ 1 8 Try.underlying46 hi hz0 hz1 hz2 rfl (by omega) _ m _ rfl ((hown4.alloc _).alloc _) NoBlk (some ⟨w4.heap.size + 1, 0, none⟩) 1 1 (encI id) rfl Hrd.out rfl Hone.out (by simp only [maxLen]; omega) (by omega) (by have := HB4.out.size; simp; omega) ?_; intro v2 w5 hown5 hgr hat; have Own5 := hide hown5; have Gr := hide hgr; have At5 := hide hat; clear hown5 hgr hat))
            go_roundw
            case rel =>
              refine ⟨k + 1, m + 1, by omega, by omega, by go_num, ?_, ?_, ?_, ?_, ?_⟩
              · rw [HS.out, if_pos HT.out, List.length_append, hml.out]; rfl
              · rw [HS.out, if_pos HT.out, flat_append]
                have := Own5.out
                simpa [flat] using this
              · refine hide (fun j hj => ?_)
                rcases At5.out with e | e
                · rw [e] at hj; exact hob.out j hj
                · rw [e] at hj
                  injection hj with hj
                  have := HN4.out.size
                  simp at hj
                  omega
              · exact hide (((HN4.out.alloc _).alloc _).grown Gr.out (fun j hj => hob.out j hj))
              · exact hide (((HB4.out.alloc HB4.out.size _).alloc (by have := HB4.out.size; simp; omega) _).grown Gr.out (by have := HB4.out.size; simp; omega) (fun j hj => by have := own_ge hown4 j hj; omega))
            case measure => simp [intOf]; omega
          | false =>
            have q1' : ¬ f.status = 0 := by simpa using q1
            by_cases hms0 : ms = 0
            · have q2 : ((ms : Int) == 0) = true := by simp; omega
              have HT := hide (show lateB bt f = true by rw [Hlb.out]; simp [hms0])
              clear q1' hms0
              go_wp2_with fail
              refine HOo.out.mono ?_
              intro e w4 hret
              obtain ⟨hb4, A4, c4, B4, d4, C4, n4, c5, rfl, ri4, rs4⟩ := ret_one31 hret
              rw [← Hf.out] at ri4 rs4 ⊢
              have hm4 : Hid (f.steps.length = ms) := Hms
              rw [hm4.out]
              obtain ⟨who, hwho⟩ : ∃ who, who = whoL id (lifeGo id 0 l) := ⟨_, rfl⟩
              rw [← hwho]
              obtain ⟨ok, hok⟩ : ∃ ok, ok = (lifeGo id 0 l).isSome := ⟨_, rfl⟩
              rw [← hok]
              obtain ⟨il, hil⟩ : ∃ il, il = f.ins.length := ⟨_, rfl⟩
              rw [← hil]
              have hown4 := own_only hown (Only.of_below hb4 NoBlk) (fun _ _ h => h.elim)
              have HB4 := hide (hbel.out.trans (hb4.mono hbel.out.size))
              have gk := bkeep hb4 g0
              have hb4l : b < w4.heap.size := World.block_lt_of_cell? _ _ gk
              have e2 : ¬ b = w4.heap.size := by omega
              have HN4 := hide (hon.out.trans (Only.of_below hb4 _))
              clear hret hwho hok hil ri4 rs4 hb4 hm4
              have hrd : Rd ((w4.alloc (.cells #[.int .i64 who, .int .i64 f.script, .int .i64 f.start, .slice A4 il c4, .slice C4 n4 c5, .slice B4 ms d4, .string f.read, .string f.taken, .bool f.eof, .int .i64 f.status] 41)).alloc (.cells (encI id).toArray 3)) NoBlk (some ⟨w4.heap.size + 1, 0, none⟩) (encI id) := rd_blkN (Blk.new' (by simp)) (fun h => h)
              have Hrd := hide hrd
              have Hone := hide (show ∀ u ∈ encI id, u.oneCell' = true by intro u hu; simp at hu; subst hu; rfl)
              clear hrd
              go_wp2_with (first
                | (at_builtin; refine wpList_append_rd _ rfl (.tmp 67) (.tmp 72) _ rfl w.heap.size 3 i0 _ 1 8 Try.underlying46 hi hz0 hz1 hz2 rfl (by omega) _ m _ rfl ((hown4.alloc _).alloc _) NoBlk (some ⟨w4.heap.size + 1, 0, none⟩) 1 1 (encI id) rfl Hrd.out rfl Hone.out (by simp only [maxLen]; omega) (by omega) (by have := HB4.out.size; simp; omega) ?_; intro v2 w5 hown5 hgr hat; have Own5 := hide hown5; have Gr := hide hgr; have At5 := hide hat; clear hown5 hgr hat))
              go_roundw
              case rel =>
                refine ⟨k + 1, m + 1, by omega, by omega, by go_num, ?_, ?_, ?_, ?_, ?_⟩
                · rw [HS.out, if_pos HT.out, List.length_append, hml.out]; rfl
                · rw [HS.out, if_pos HT.out, flat_append]
                  have := Own5.out
                  simpa [flat] using this
                · refine hide (fun j hj => ?_)
                  rcases At5.out with e | e
                  · rw [e] at hj; exact hob.out j hj
                  · rw [e] at hj
                    injection hj with hj
                    have := HN4.out.size
                    simp at hj
                    omega
                · exact hide (((HN4.out.alloc _).alloc _).grown Gr.out (fun j hj => hob.out j hj))
                · exact hide (((HB4.out.alloc HB4.out.size _).alloc (by have := HB4.out.size; simp; omega) _).grown Gr.out (by have := HB4.out.size; simp; omega) (fun j hj => by have := own_ge hown4 j hj; omega))
              case measure => simp [intOf]; omega
            · have q2 : ((ms : Int) == 0) = false := by simp; omega
              have x3 : (0 : Int) ≤ (ms : Int) - 1 := by omega
              have x4 : (ms : Int) - 1 < (ms : Int) := by omega
              have x5 : ms - 1 < ms := by omega
              cases q3 : decide (bt ≤ tk) with
              | true =>
                have HT := hide (show lateB bt f = true by rw [Hlb.out, q3]; simp)
                clear q1'
                go_wp2_with fail
                refine HOo.out.mono ?_
                intro e w4 hret
                obtain ⟨hb4, A4, c4, B4, d4, C4, n4, c5, rfl, ri4, rs4⟩ := ret_one31 hret
                rw [← Hf.out] at ri4 rs4 ⊢
                have hm4 : Hid (f.steps.length = ms) := Hms
                rw [hm4.out]
                obtain ⟨who, hwho⟩ : ∃ who, who = whoL id (lifeGo id 0 l) := ⟨_, rfl⟩
                rw [← hwho]
                obtain ⟨ok, hok⟩ : ∃ ok, ok = (lifeGo id 0 l).isSome := ⟨_, rfl⟩
                rw [← hok]
                obtain ⟨il, hil⟩ : ∃ il, il = f.ins.length := ⟨_, rfl⟩
                rw [← hil]
                have hown4 := own_only hown (Only.of_below hb4 NoBlk) (fun _ _ h => h.elim)
                have HB4 := hide (hbel.out.trans (hb4.mono hbel.out.size))
                have gk := bkeep hb4 g0
                have hb4l : b < w4.heap.size := World.block_lt_of_cell? _ _ gk
                have e2 : ¬ b = w4.heap.size := by omega
                have HN4 := hide (hon.out.trans (Only.of_below hb4 _))
                obtain ⟨b5, o5, rfl, hb5, gt⟩ := stp_last rs4 ms hm4.out.symm hms0
                have e1 : ¬ b5 = w4.heap.size := by omega
                rw [← Htk.out] at gt
                clear hret hwho hok hil ri4 rs4 hb4 hm4
                have hrd : Rd ((w4.alloc (.cells #[.int .i64 who, .int .i64 f.script, .int .i64 f.start, .slice A4 il c4, .slice C4 n4 c5, .slice (some ⟨b5, o5, none⟩) ms d4, .string f.read, .string f.taken, .bool f.eof, .int .i64 f.status] 41)).alloc (.cells (encI id).toArray 3)) NoBlk (some ⟨w4.heap.size + 1, 0, none⟩) (encI id) := rd_blkN (Blk.new' (by simp)) (fun h => h)
                have Hrd := hide hrd
                have Hone := hide (show ∀ u ∈ encI id, u.oneCell' = true by intro u hu; simp at hu; subst hu; rfl)
                clear hrd
                go_wp2_with (first
                  | (at_builtin; refine wpList_append_rd _ rfl (.tmp 67) (.tmp 72) _ rfl w.heap.size 3 i0 _ 1 8 Try.underlying46 hi hz0 hz1 hz2 rfl (by omega) _ m _ rfl ((hown4.alloc _).alloc _) NoBlk (some ⟨w4.heap.size + 1, 0, none⟩) 1 1 (encI id) rfl Hrd.out rfl Hone.out (by simp only [maxLen]; omega) (by omega) (by have := HB4.out.size; simp; omega) ?_; intro v2 w5 hown5 hgr hat; have Own5 := hide hown5; have Gr := hide hgr; have At5 := hide hat; clear hown5 hgr hat))
                go_roundw
                case rel =>
                  refine ⟨k + 1, m + 1, by omega, by omega, by go_num, ?_, ?_, ?_, ?_, ?_⟩
                  · rw [HS.out, if_pos HT.out, List.length_append, hml.out]; rfl
                  · rw [HS.out, if_pos HT.out, flat_append]
                    have := Own5.out
                    simpa [flat] using this
                  · refine hide (fun j hj => ?_)
                    rcases At5.out with e | e
                    · rw [e] at hj; exact hob.out j hj
                    · rw [e] at hj
                      injection hj with hj
                      have := HN4.out.size
                      simp at hj
                      omega
                  · exact hide (((HN4.out.alloc _).alloc _).grown Gr.out (fun j hj => hob.out j hj))
                  · exact hide (((HB4.out.alloc HB4.out.size _).alloc (by have := HB4.out.size; simp; omega) _).grown Gr.out (by have := HB4.out.size; simp; omega) (fun j hj => by have := own_ge hown4 j hj; omega))
                case measure => simp [intOf]; omega
              | false =>
                have HT := hide (show ¬ lateB bt f = true by rw [Hlb.out, q3]; simp [q1', hms0])
                clear q1'
                go_wp2_with fail
                refine HOo.out.mono ?_
                intro e w4 hret
                obtain ⟨hb4, A4, c4, B4, d4, C4, n4, c5, rfl, ri4, rs4⟩ := ret_one31 hret
                rw [← Hf.out] at ri4 rs4 ⊢
                have hm4 : Hid (f.steps.length = ms) := Hms
                rw [hm4.out]
                obtain ⟨who, hwho⟩ : ∃ who, who = whoL id (lifeGo id 0 l) := ⟨_, rfl⟩
                rw [← hwho]
                obtain ⟨ok, hok⟩ : ∃ ok, ok = (lifeGo id 0 l).isSome := ⟨_, rfl⟩
                rw [← hok]
                obtain ⟨il, hil⟩ : ∃ il, il = f.ins.length := ⟨_, rfl⟩
                rw [← hil]
                have hown4 := own_only hown (Only.of_below hb4 NoBlk) (fun _ _ h => h.elim)
                have HB4 := hide (hbel.out.trans (hb4.mono hbel.out.size))
                have gk := bkeep hb4 g0
                have hb4l : b < w4.heap.size := World.block_lt_of_cell? _ _ gk
                have e2 : ¬ b = w4.heap.size := by omega
                have HN4 := hide (hon.out.trans (Only.of_below hb4 _))
                obtain ⟨b5, o5, rfl, hb5, gt⟩ := stp_last rs4 ms hm4.out.symm hms0
                have e1 : ¬ b5 = w4.heap.size := by omega
                rw [← Htk.out] at gt
                clear hret hwho hok hil ri4 rs4 hb4 hm4
                go_wp2_with fail
                go_roundw
                case rel =>
                  refine ⟨k + 1, m, by omega, by omega, by go_num, ?_, ?_, hob, hide (HN4.out.alloc _), hide (HB4.out.alloc HB4.out.size _)⟩
                  · rw [HS.out, if_neg HT.out, List.append_nil]; exact hml
                  · rw [HS.out, if_neg HT.out, List.append_nil]; exact hown4.alloc _
                case measure => simp [intOf]; omega
        · have hke : k = N := by omega
          subst hke
          have hd : decide ((k : Int) < (k : Int)) = false := by simp
          have hd2 : decide (k < k) = false := by simp
          have ht : L.take k = L := List.take_of_length_le (by rw [← HN.out]; omega)
          rw [ht] at hml hown
          obtain ⟨A9, c9, rfl⟩ := own_form hown
          have hR := hide (Rd.of_own (M := NoBlk) hown (fun k h => h.elim))
          clear ht hlt hown
          go_wp2_with fail
          go_ret
          refine ⟨hbel.out, A9, c9, ?_, hR.out⟩
          rw [hml.out]
          rfl
end Go.Proofs.Ythnjebpbokmemaa
namespace Go.Proofs.Ythnjebpbokmemaa
open Go.RowKit
set_option linter.unusedVariables false

def anyR (l : List Ev) : Bool := l.any (isK 1)
/-- at this place it stopped in time -/
def stopAt (b : Int) (l : List Ev) (i : Nat) : Bool := decide ((evAt l i).k = 9) && (anyR (l.take i) && decide (clockOf 0 (l.take i) < b))
def stopsB (b : Int) (l : List Ev) : Bool := (List.range l.length).any (stopAt b l)
def stopsS (s : SetM) (l : List Ev) (each : Int) : Bool := if boundB s l each = true then stopsB (boundT s l each) l else true
theorem any_succ (l : List Ev) (k : Nat) (h : k < l.length) : anyR (l.take (k + 1)) = (anyR (l.take k) || decide ((evAt l k).k = 1)) := by
  have e : evAt l k = l[k] := by simp [evAt, List.getD, h]
  unfold anyR
  rw [List.take_succ_eq_append_getElem h, List.any_append, e]
  simp [isK]
theorem stops_yes {b : Int} {l : List Ev} (k : Nat) (hk : k < l.length) (h : stopAt b l k = true) : stopsB b l = true := by
  unfold stopsB
  rw [List.any_eq_true]
  exact ⟨k, List.mem_range.2 hk, h⟩
theorem stops_no {b : Int} {l : List Ev} (h : ∀ i, i < l.length → stopAt b l i = false) : stopsB b l = false := by
  unfold stopsB
  rw [List.any_eq_false]
  intro i hi
  rw [h i (List.mem_range.1 hi)]
  decide
theorem low_succ {p : Nat → Bool} {k : Nat} (h : ∀ i, i < k → p i = false) (hk : p k = false) : ∀ i, i < k + 1 → p i = false := by
  intro i hi
  by_cases e : i = k
  · subst e; exact hk
  · exact h i (by omega)
set_option maxRecDepth 100000 in
set_option maxHeartbeats 3200000 in
theorem stops_c (s : SetM) (A : Option Addr) (c : Nat) (l : List Ev) (each : Int) (w : World) (hr : Rd w NoBlk A (flat encEv l)) (hn : l.length ≤ 10000) (ht : beginT l ≤ 9223372036854775807) (he : each ≤ 9223372036854775807) :
    Calls Try.prog 27 #[.agg (setV s), .slice A l.length c, .int .i64 each] w fun e w' => e = .returned (.bool (stopsS s l each)) ∧ Below w.heap.size w w' := by
  obtain ⟨W, hW⟩ : ∃ W, W = w.alloc (.cells (setV s) 54) := ⟨_, rfl⟩
  have hL : Below w.heap.size w W := by rw [hW]; exact below_alloc _ _
  have hrW := hr.below hL
  have HBd := hide (bound_c NoBlk s A c l each W hrW (by omega) ht he)
  have HW := hide hW
  have HL := hide hL
  have HE := hide (fun (k : Nat) (hk : k < l.length) => ev_cells hrW k hk)
  unfold stopsS
  obtain ⟨bt, hbt⟩ : ∃ bt, bt = boundT s l each := ⟨_, rfl⟩
  rw [← hbt] at HBd ⊢
  clear hW hL hrW hr hbt ht he
  cases hbb : boundB s l each with
  | false =>
    rw [hbb] at HBd
    rw [if_neg (by decide)]
    clear hbb
    go_enter Try.func27, Try.ntmps27
    go_wp2_with fail
    change Calls _ _ _ (w.alloc (.cells (setV s) 54)) _
    rw [← HW.out]
    refine HBd.out.mono ?_
    rintro e w1 ⟨rfl, hb1⟩
    go_wp2_with fail
    go_ret
    exact ⟨rfl, HL.out.trans (hb1.mono HL.out.size)⟩
  | true =>
    rw [hbb] at HBd
    rw [if_pos rfl]
    clear hbb
    obtain ⟨n, hnl⟩ : ∃ n, n = l.length := ⟨_, rfl⟩
    rw [← hnl] at HBd hn ⊢
    have Hn := hide hnl
    clear hnl
    go_enter Try.func27, Try.ntmps27
    go_wp2_with fail
    change Calls _ _ _ (w.alloc (.cells (setV s) 54)) _
    rw [← HW.out]
    refine HBd.out.mono ?_
    rintro e w1 ⟨rfl, hb1⟩
    have HB1 := hide hb1
    clear hb1
    go_wp2_with fail
    go_loopw [9, 10, 24] (fun t a i wr => ∃ k : Nat, k ≤ n ∧ i = .int .i64 k ∧ t = .int .i64 (clockOf 0 (l.take k)) ∧ a = .bool (anyR (l.take k)) ∧ Hid (∀ i, i < k → stopAt bt l i = false) ∧ Hid (Below W.heap.size W wr)) (fun _ _ i _ => n - (intOf i).toNat)
    case atStart => exact ⟨0, Nat.zero_le _, rfl, rfl, rfl, hide (fun i hi => absurd hi (by omega)), HB1⟩
    case round =>
      obtain ⟨k, hk, rfl, rfl, rfl, hlow, hbel⟩ := hrel
      by_cases hlt : k < n
      · obtain ⟨b, o, rfl, _, hb, g0, g1, g2, g3, g4, g5, g6, g7, g8, g9, g10, g11⟩ := HE.out k (by rw [← Hn.out]; exact hlt)
        replace g0 := bkeepL hbel.out hb g0
        replace g1 := bkeepL hbel.out hb g1
        replace g2 := bkeepL hbel.out hb g2
        replace g3 := bkeepL hbel.out hb g3
        replace g4 := bkeepL hbel.out hb g4
        replace g5 := bkeepL hbel.out hb g5
        replace g6 := bkeepL hbel.out hb g6
        replace g7 := bkeepL hbel.out hb g7
        replace g8 := bkeepL hbel.out hb g8
        replace g9 := bkeepL hbel.out hb g9
        replace g10 := bkeepL hbel.out hb g10
        replace g11 := bkeepL hbel.out hb g11
        have HC := hide (clock_succ 0 l k (by rw [← Hn.out]; exact hlt))
        have HA := hide (any_succ l k (by rw [← Hn.out]; exact hlt))
        have HS := hide (show stopAt bt l k = (decide ((evAt l k).k = 9) && (anyR (l.take k) && decide (clockOf 0 (l.take k) < bt))) from rfl)
        obtain ⟨x, hx⟩ : ∃ x, x = evAt l k := ⟨_, rfl⟩
        rw [← hx] at g0 g1 g2 g3 g4 g5 g6 g7 g8 g9 g10 g11 HC HA HS
        clear hx
        have Hhb := hide hb
        clear hb
        cases q1 : (x.k == 1) with
        | true =>
          have HT := hide (show x.k = 1 by simpa using q1)
          have HF := hide (low_succ hlow.out (by rw [HS.out]; have h9 : ¬ x.k = 9 := (by rw [HT.out]; decide); simp [h9]))
          clear HS hlow
          go_wp2_with fail
          go_roundw
          case rel => exact ⟨k + 1, by omega, by go_num, by rw [HC.out, if_pos HT.out], by rw [HA.out, decide_eq_true HT.out, Bool.or_true], HF, hide (hbel.out.alloc hbel.out.size _)⟩
          case measure => simp [intOf]; omega
        | false =>
          have HT := hide (show ¬ x.k = 1 by simpa using q1)
          cases q2 : (x.k == 9) with
          | false =>
            have HF := hide (low_succ hlow.out (by rw [HS.out]; have h9 : ¬ x.k = 9 := (by simpa using q2); simp [h9]))
            clear HS hlow
            go_wp2_with fail
            go_roundw
            case rel => exact ⟨k + 1, by omega, by go_num, by rw [HC.out, if_neg HT.out], by rw [HA.out, decide_eq_false HT.out, Bool.or_false], HF, hide (hbel.out.alloc hbel.out.size _)⟩
            case measure => simp [intOf]; omega
          | true =>
            have HT9 := hide (show x.k = 9 by simpa using q2)
            obtain ⟨cl, hcl⟩ : ∃ cl, cl = clockOf 0 (l.take k) := ⟨_, rfl⟩
            rw [← hcl] at HC HS ⊢
            clear hcl
            cases q3 : anyR (l.take k) with
            | false =>
              have HF := hide (low_succ hlow.out (by rw [HS.out, q3]; simp))
              rw [q3] at HA
              clear HS hlow q3
              go_wp2_with fail
              go_roundw
              case rel => exact ⟨k + 1, by omega, by go_num, by rw [HC.out, if_neg HT.out], by rw [HA.out, decide_eq_false HT.out, Bool.or_false], HF, hide (hbel.out.alloc hbel.out.size _)⟩
              case measure => simp [intOf]; omega
            | true =>
              cases q4 : decide (cl < bt) with
              | true =>
                have HY := hide (stops_yes k (by rw [← Hn.out]; exact hlt) (show stopAt bt l k = true by rw [HS.out, q3, q4, decide_eq_true HT9.out]; rfl))
                clear HS hlow q3 HA
                go_wp2_with fail
                go_ret
                exact ⟨ret_bool HY.out.symm, HL.out.trans ((hbel.out.alloc hbel.out.size _).mono HL.out.size)⟩
              | false =>
                have HF := hide (low_succ hlow.out (by rw [HS.out, q4]; simp))
                rw [q3] at HA
                clear HS hlow q3
                go_wp2_with fail
                go_roundw
                case rel => exact ⟨k + 1, by omega, by go_num, by rw [HC.out, if_neg HT.out], by rw [HA.out, decide_eq_false HT.out, Bool.or_false], HF, hide (hbel.out.alloc hbel.out.size _)⟩
                case measure => simp [intOf]; omega
      · have hke : k = n := by omega
        subst hke
        have hd : decide ((k : Int) < (k : Int)) = false := by simp
        have hd2 : decide (k < k) = false := by simp
        have HN := hide (stops_no (b := bt) (l := l) (by rw [← Hn.out]; exact hlow.out))
        go_wp2_with fail
        go_ret
        exact ⟨ret_bool HN.out.symm, HL.out.trans (hbel.out.mono HL.out.size)⟩
set_option maxRecDepth 100000 in
set_option maxHeartbeats 3200000 in
theorem refStops_c (s : SetM) (A : Option Addr) (c : Nat) (l : List Ev) (each : Int) (w : World) (hr : Rd w NoBlk A (flat encEv l)) (hn : l.length ≤ 10000) (ht : beginT l ≤ 9223372036854775807) (he : each ≤ 9223372036854775807) :
    Calls Try.prog 28 #[.agg (setV s), .slice A l.length c, .int .i64 each] w fun e w' => e = .returned (.bool (stopsS s l each)) ∧ Below w.heap.size w w' := by
  obtain ⟨W, hW⟩ : ∃ W, W = w.alloc (.cells (setV s) 54) := ⟨_, rfl⟩
  have hL : Below w.heap.size w W := by rw [hW]; exact below_alloc _ _
  have hrW := hr.below hL
  have HBd := hide (refBound_c NoBlk s A c l each W hrW (by omega) ht he)
  have HW := hide hW
  have HL := hide hL
  have HR0 := hide hrW
  unfold stopsS
  obtain ⟨bt, hbt⟩ : ∃ bt, bt = boundT s l each := ⟨_, rfl⟩
  rw [← hbt] at HBd ⊢
  clear hW hL hrW hr hbt ht he
  obtain ⟨n, hnl⟩ : ∃ n, n = l.length := ⟨_, rfl⟩
  rw [← hnl] at HBd hn ⊢
  have Hn := hide hnl
  clear hnl
  cases hbb : boundB s l each with
  | false =>
    rw [hbb] at HBd
    rw [if_neg (by decide)]
    clear hbb
    go_enter Try.func28, Try.ntmps28
    go_wp2_with fail
    change Calls _ _ _ (w.alloc (.cells (setV s) 54)) _
    rw [← HW.out]
    refine HBd.out.mono ?_
    rintro e w1 ⟨rfl, hb1⟩
    have HB1 := hide hb1
    clear hb1
    go_wp2_with fail
    go_loopw [9] (fun i wr => i = .int .i64 0 ∧ wr = w1) (fun _ _ => 0)
    case atStart => exact ⟨rfl, rfl⟩
    case round =>
      obtain ⟨rfl, rfl⟩ := hrel
      by_cases h0 : 0 < n
      · have hd : decide ((0 : Int) < (n : Int)) = true := by simp; omega
        have hd2 : decide (0 < n) = true := by simp; omega
        go_wp2_with fail
        go_ret
        exact ⟨rfl, HL.out.trans (HB1.out.mono HL.out.size)⟩
      · have hd : decide ((0 : Int) < (n : Int)) = false := by simp; omega
        have hd2 : decide (0 < n) = false := by simp; omega
        go_wp2_with fail
        go_ret
        exact ⟨rfl, HL.out.trans (HB1.out.mono HL.out.size)⟩
  | true =>
    rw [hbb] at HBd
    rw [if_pos rfl]
    clear hbb
    go_enter Try.func28, Try.ntmps28
    go_wp2_with fail
    change Calls _ _ _ (w.alloc (.cells (setV s) 54)) _
    rw [← HW.out]
    refine HBd.out.mono ?_
    rintro e w1 ⟨rfl, hb1⟩
    have HB1 := hide hb1
    have HE1 := hide (fun (k : Nat) (hk : k < l.length) => ev_cells (HR0.out.below hb1) k hk)
    clear hb1
    go_wp2_with fail
    go_loopw [9] (fun i wr => ∃ k : Nat, k ≤ n ∧ i = .int .i64 k ∧ Hid (∀ i, i < k → stopAt bt l i = false) ∧ wr = w1) (fun i _ => n - (intOf i).toNat)
    case atStart => exact ⟨0, Nat.zero_le _, rfl, hide (fun i hi => absurd hi (by omega)), rfl⟩
    case round =>
      obtain ⟨k, hk, rfl, hlow, rfl⟩ := hrel
      by_cases hlt : k < n
      · obtain ⟨b, o, rfl, _, hb, g0, g1, g2, g3, _⟩ := HE1.out k (by rw [← Hn.out]; exact hlt)
        clear g1 g2 g3
        have HS := hide (show stopAt bt l k = (decide ((evAt l k).k = 9) && (anyR (l.take k) && decide (clockOf 0 (l.take k) < bt))) from rfl)
        have HC := hide (clock_succ 0 l k (by rw [← Hn.out]; exact hlt))
        have HA := hide (any_succ l k (by rw [← Hn.out]; exact hlt))
        obtain ⟨x, hx⟩ : ∃ x, x = evAt l k := ⟨_, rfl⟩
        rw [← hx] at g0 HS HC HA
        clear hx
        have j1 : (0 : Int) ≤ (k : Int) := by omega
        have j2 : (k : Int) < (n : Int) := by omega
        have j3 := nn_lt hlt
        cases q2 : (x.k != 9) with
        | true =>
          have HF := hide (low_succ hlow.out (by rw [HS.out]; have h9 : ¬ x.k = 9 := (by simpa using q2); simp [h9]))
          clear HS hlow
          go_wp2_with fail
          go_roundw
          case rel => exact ⟨k + 1, by omega, by go_num, HF, by first | trivial | rfl⟩
          case measure => simp [intOf]; omega
        | false =>
          have HT9 := hide (show x.k = 9 by simpa using q2)
          have HT := hide (show ¬ x.k = 1 by rw [HT9.out]; decide)
          have HC2 := hide (show clockOf 0 (l.take k) = clockOf 0 (l.take (k + 1)) by rw [HC.out, if_neg HT.out])
          have HA2 := hide (show anyR (l.take k) = anyR (l.take (k + 1)) by rw [HA.out, decide_eq_false HT.out, Bool.or_false])
          clear HC HA
          go_wp2_with fail
          go_loopw [10] (fun i w2 => ∃ q : Nat, q ≤ k + 1 ∧ i = .int .i64 ((q : Int) - 1) ∧ Hid (clockOf 0 (l.take k) = clockOf 0 (l.take q)) ∧ Hid (anyR (l.take k) = anyR (l.take q)) ∧ w2 = wr) (fun i _ => (intOf i + 1).toNat)
          case atStart => exact ⟨k + 1, Nat.le_refl _, by go_num, HC2, HA2, rfl⟩
          case round =>
            obtain ⟨q, hq, rfl, hcl, han, rfl⟩ := hrel
            cases q with
            | zero =>
              have HF := hide (low_succ hlow.out (show stopAt bt l k = false by rw [HS.out, han.out]; simp [anyR]))
              clear HS hlow
              go_wp2_with fail
              go_roundw
              case rel => exact ⟨k + 1, by omega, by go_num, HF, by first | trivial | rfl⟩
              case measure => simp [intOf]; omega
            | succ q =>
              obtain ⟨b', o', hbo, _, hb', f0, f1, f2, f3, _⟩ := HE1.out q (by rw [← Hn.out]; omega)
              injection hbo with hbo
              injection hbo with e1 e2 _
              subst e1; subst e2
              clear f1 f2
              have HCq := hide (clock_succ 0 l q (by rw [← Hn.out]; omega))
              have HAq := hide (any_succ l q (by rw [← Hn.out]; omega))
              obtain ⟨y, hy⟩ : ∃ y, y = evAt l q := ⟨_, rfl⟩
              rw [← hy] at f0 f3 HCq HAq
              clear hy
              have e1 : ((q + 1 : Nat) : Int) - 1 = q := by omega
              rw [e1]
              have i1 : (0 : Int) ≤ (q : Int) := by omega
              have i2 : (q : Int) < (n : Int) := by omega
              have i3 : decide ((0 : Int) ≤ (q : Int)) = true := by simp
              cases q5 : (y.k != 1) with
              | true =>
                have HTq := hide (show ¬ y.k = 1 by simpa using q5)
                go_wp2_with fail
                go_roundw
                case rel => exact ⟨q, by omega, by go_num, hide (by rw [hcl.out, HCq.out, if_neg HTq.out]), hide (by rw [han.out, HAq.out, decide_eq_false HTq.out, Bool.or_false]), by first | trivial | rfl⟩
                case measure => simp [intOf]
              | false =>
                have HTq := hide (show y.k = 1 by simpa using q5)
                have HCt := hide (show clockOf 0 (l.take k) = y.tick by rw [hcl.out, HCq.out, if_pos HTq.out])
                have HAt := hide (show anyR (l.take k) = true by rw [han.out, HAq.out, decide_eq_true HTq.out, Bool.or_true])
                cases q6 : decide (y.tick < bt) with
                | true =>
                  have HY := hide (stops_yes k (by rw [← Hn.out]; exact hlt) (show stopAt bt l k = true by rw [HS.out, HCt.out, HAt.out, q6, decide_eq_true HT9.out]; rfl))
                  clear HS hlow hcl han
                  go_wp2_with fail
                  go_ret
                  exact ⟨ret_bool HY.out.symm, HL.out.trans (HB1.out.mono HL.out.size)⟩
                | false =>
                  have HF := hide (low_succ hlow.out (show stopAt bt l k = false by rw [HS.out, HCt.out, q6]; simp))
                  clear HS hlow hcl han
                  go_wp2_with fail
                  go_roundw
                  case rel => exact ⟨k + 1, by omega, by go_num, HF, by first | trivial | rfl⟩
                  case measure => simp [intOf]; omega
      · have hke : k = n := by omega
        subst hke
        have hd : decide ((k : Int) < (k : Int)) = false := by simp
        have hd2 : decide (k < k) = false := by simp
        have HN := hide (stops_no (b := bt) (l := l) (by rw [← Hn.out]; exact hlow.out))
        go_wp2_with fail
        go_ret
        exact ⟨ret_bool HN.out.symm, HL.out.trans (HB1.out.mono HL.out.size)⟩
end Go.Proofs.Ythnjebpbokmemaa
