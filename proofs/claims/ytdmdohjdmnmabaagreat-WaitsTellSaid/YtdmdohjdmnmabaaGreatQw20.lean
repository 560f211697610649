/- reparteeref31.Ids: each who was opened put where he belongs. Conditions: those of each theorem. -/
import Derived.Test.YtdmdohjdmnmabaaGreatQw19
namespace Go.Proofs.YtdmdohjdmnmabaaGreat
open Go.RowKit
set_option linter.unusedVariables false

theorem insU_len (x : Int) (s : List Int) : (insU x s).length ≤ s.length + 1 := by
  induction s with
  | nil => simp [insU]
  | cons a r ih =>
    unfold insU
    by_cases h1 : a < x
    · rw [if_pos h1]; simp; omega
    · rw [if_neg h1]
      by_cases h2 : a = x
      · rw [if_pos h2]; simp
      · rw [if_neg h2]; simp
/-- where the loop of Ids stops, one is put -/
theorem insU_at (x : Int) : ∀ (s : List Int) (j : Nat), j ≤ s.length → (∀ i, i < j → nth s i < x) → (j < s.length → ¬ nth s j < x) →
    insU x s = if j = s.length ∨ nth s j ≠ x then s.take j ++ x :: s.drop j else s := by
  intro s
  induction s with
  | nil =>
    intro j hj h1 h2
    have : j = 0 := by simpa using hj
    subst this
    simp [insU]
  | cons a r ih =>
    intro j hj h1 h2
    cases j with
    | zero =>
      have h3 : ¬ a < x := by simpa [nth] using h2 (by simp)
      unfold insU
      rw [if_neg h3]
      by_cases h4 : a = x
      · rw [if_pos h4, if_neg (by simp [nth, h4])]
      · rw [if_neg h4, if_pos (by simp [nth, h4])]; rfl
    | succ j =>
      have h3 : a < x := by simpa [nth] using h1 0 (by omega)
      have hr := ih j (by simpa using hj) (fun i hi => by simpa [nth] using h1 (i + 1) (by omega)) (fun hl => by simpa [nth] using h2 (by simp; exact hl))
      unfold insU
      rw [if_pos h3, hr]
      have e : nth (a :: r) (j + 1) = nth r j := by simp [nth]
      rw [e]
      by_cases h4 : j = r.length ∨ nth r j ≠ x
      · rw [if_pos h4, if_pos (by rcases h4 with h4 | h4 <;> simp [h4])]; simp
      · rw [if_neg h4, if_neg (by intro h; exact h4 (by rcases h with h | h; · left; simpa using h
                                                        · right; exact h))]
theorem fold_len (l : List Int) : (l.foldl (fun s x => insU x s) []).length ≤ l.length := by
  have : ∀ (l s : List Int), (l.foldl (fun s x => insU x s) s).length ≤ s.length + l.length := by
    intro l
    induction l with
    | nil => intro s; simp
    | cons a r ih => intro s; have := ih (insU a s); have := insU_len a s; simp; omega
  simpa using this l []
/-- what Ids has behind k events -/
def idsL (l : List Ev) : List Int := (openedL l).foldl (fun s x => insU x s) []
theorem ids_succ (l : List Ev) (k : Nat) (h : k < l.length) : idsL (l.take (k + 1)) = if (evAt l k).k = 2 then insU (evAt l k).id (idsL (l.take k)) else idsL (l.take k) := by
  unfold idsL
  rw [opened_succ l k h]
  by_cases h2 : (evAt l k).k = 2
  · rw [if_pos h2, if_pos h2, List.foldl_append]; rfl
  · rw [if_neg h2, if_neg h2, List.append_nil]
theorem ids_uniq (l : List Ev) : idsL l = uniq (openedL l) := uniq_ins _
theorem own_int {w : World} {base n : Nat} {A : Option Addr} {c : Nat} {s : List Int} (h : w.ownsRow base 3 1 (.slice A n c) n (flat encI s)) (j : Nat) (hj : j < s.length) : ∃ g, A = some ⟨g, 0, none⟩ ∧ base ≤ g ∧ g < w.heap.size ∧ w.cell? ⟨g, j, none⟩ = some (.int .i64 (nth s j)) := by
  obtain ⟨b, o, hA, hm, hb, hc⟩ := (Rd.of_own (M := fun k => k < base) h (fun k hk => hk)).at_ (j := 0) (by rw [flat_encI, List.length_map]; omega)
  have ho : o = 0 := by
    rcases h.2 with ⟨hv, hn⟩ | ⟨g, cap, cur, hv, _⟩
    · injection hv with h1; rw [h1] at hA; cases hA
    · injection hv with h1; rw [h1] at hA; injection hA with hA; injection hA with _ h2; exact h2.symm
  subst ho
  refine ⟨b, hA, by omega, hb, ?_⟩
  have := hc j (by rw [flat_encI, List.length_map]; exact hj)
  rw [Nat.zero_add] at this
  rw [this, flat_encI, nth_of_lt hj]
  simp [hj]
theorem own_some {w : World} {base size n : Nat} {e : TypeId} {v : Value} {xs : List Value} (h : w.ownsRow base e size v n xs) (hn : 0 < n) : ∃ g c, v = .slice (some ⟨g, 0, none⟩) n c ∧ n ≤ c := by
  rcases h.2 with ⟨hv, h0⟩ | ⟨g, cap, cur, hv, _, _, hnc, _⟩
  · omega
  · exact ⟨g, cap, hv, hnc⟩
theorem own_base {w : World} {base base' size n : Nat} {e : TypeId} {v : Value} {xs : List Value} (h : w.ownsRow base e size v n xs) (hb : base' ≤ base) : w.ownsRow base' e size v n xs := by
  obtain ⟨hl, h2⟩ := h
  refine ⟨hl, ?_⟩
  rcases h2 with ⟨hv, hn⟩ | ⟨g, cap, cur, hv, hg, r⟩
  · exact Or.inl ⟨hv, hn⟩
  · exact Or.inr ⟨g, cap, cur, hv, by omega, r⟩
theorem Rd.take_ {w : World} {M : Nat → Prop} {A : Option Addr} {xs : List Value} (h : Rd w M A xs) (n : Nat) : Rd w M A (xs.take n) := by
  rcases h with h | ⟨b, o, hA, hm, hb, hc⟩
  · subst h; exact Or.inl (by simp)
  · refine Or.inr ⟨b, o, hA, hm, hb, fun j hj => ?_⟩
    rw [List.length_take] at hj
    rw [hc j (by omega), List.getElem?_take, if_pos (by omega)]
theorem rd_drop {w : World} {M : Nat → Prop} {g : Nat} {xs : List Value} (h : Rd w M (some ⟨g, 0, none⟩) xs) (n : Nat) : Rd w M (some ⟨g, n, none⟩) (xs.drop n) := by
  rcases h with h | ⟨b, o, hA, hm, hb, hc⟩
  · subst h; exact Or.inl (by simp)
  · injection hA with hA
    injection hA with h1 h2 _
    subst h1; subst h2
    refine Or.inr ⟨g, n, rfl, hm, hb, fun j hj => ?_⟩
    rw [List.length_drop] at hj
    have := hc (n + j) (by omega)
    rw [Nat.zero_add] at this
    rw [this, List.getElem?_drop]
theorem encI_take (s : List Int) (j : Nat) : (flat encI s).take j = flat encI (s.take j) := by rw [flat_encI, flat_encI, List.map_take]
theorem encI_drop (s : List Int) (j : Nat) : (flat encI s).drop j = flat encI (s.drop j) := by rw [flat_encI, flat_encI, List.map_drop]
theorem encI_one (s : List Int) : ∀ u ∈ flat encI s, u.oneCell' = true := by
  intro u hu
  rw [flat_encI, List.mem_map] at hu
  obtain ⟨a, _, rfl⟩ := hu
  rfl
theorem encI_len (s : List Int) : (flat encI s).length = s.length := by rw [flat_encI, List.length_map]
set_option maxRecDepth 100000 in
set_option maxHeartbeats 6400000 in
theorem refIds_c (A : Option Addr) (c : Nat) (l : List Ev) (w : World) (hr : Rd w NoBlk A (flat encEv l)) (hn : l.length ≤ 10000) :
    Calls Tryz.prog 44 #[.slice A l.length c] w fun e w' => Below w.heap.size w w' ∧ ∃ A1 c1, e = .returned (.slice A1 (idsL l).length c1) ∧ Rd w' NoBlk A1 (flat encI (idsL l)) := by
  have Hc := hide (fun k hk => ev_cells hr k hk)
  obtain ⟨i0, hi, hz0, hz1, hz2⟩ := info_parts Tryz.infoI3
  obtain ⟨n, hnl⟩ : ∃ n, n = l.length := ⟨_, rfl⟩
  rw [← hnl] at hn ⊢
  have Hn := hide hnl
  clear hr hnl
  go_enter Tryz.func44, Tryz.ntmps44
  go_wp2_with fail
  go_loopw [3, 4] (fun v i wr => ∃ k m g c1 : Nat, k ≤ n ∧ m ≤ k ∧ m ≤ c1 ∧ v = .slice (some ⟨g, 0, none⟩) m c1 ∧ i = .int .i64 k ∧ Hid ((idsL (l.take k)).length = m) ∧ Hid (wr.ownsRow w.heap.size 3 1 v m (flat encI (idsL (l.take k)))) ∧ Hid (Below w.heap.size w wr)) (fun _ i _ => n - (intOf i).toNat)
  case atStart => exact ⟨0, 0, _, 0, Nat.zero_le _, Nat.zero_le _, Nat.zero_le _, rfl, rfl, hide rfl, hide (own_empty (Nat.le_refl _)), hide (below_alloc _ _)⟩
  case round =>
    obtain ⟨k, m, g, c1, hk, hm, hmc, rfl, rfl, hml, hown, hbel⟩ := hrel
    by_cases hlt : k < n
    · obtain ⟨b, o, rfl, _, hb, g0, g1, g2, g3, g4, g5, g6, g7, g8, g9, g10, g11⟩ := Hc.out k (by rw [← Hn.out]; exact hlt)
      replace g0 := bkeepL hbel.out hb g0
      replace g1 := bkeepL hbel.out hb g1
      clear g2 g3 g4 g5 g6 g7 g8 g9 g10 g11
      have HF := hide (ids_succ l k (by rw [← Hn.out]; exact hlt))
      obtain ⟨x, hx⟩ : ∃ x, x = evAt l k := ⟨_, rfl⟩
      rw [← hx] at g0 g1 HF
      clear hx
      cases q1 : (x.k != 2) with
      | true =>
        have HT := hide (show ¬ x.k = 2 by simpa using q1)
        go_wp2_with fail
        go_roundw
        case rel =>
          refine ⟨k + 1, m, g, c1, by omega, by omega, hmc, rfl, by go_num, ?_, ?_, hbel⟩
          · rw [HF.out, if_neg HT.out]; exact hml
          · rw [HF.out, if_neg HT.out]; exact hown
        case measure => simp [intOf]; omega
      | false =>
        have HT := hide (show x.k = 2 by simpa using q1)
        obtain ⟨s, hs⟩ : ∃ s, s = idsL (l.take k) := ⟨_, rfl⟩
        rw [← hs] at hml hown HF
        have Hs := hide hs
        have hbr : b < wr.heap.size := World.block_lt_of_cell? _ _ g1
        clear hs
        go_wp2_with fail
        go_loopw [5] (fun i w2 => ∃ j : Nat, j ≤ m ∧ i = .int .i64 j ∧ Hid (Below wr.heap.size wr w2) ∧ Hid (∀ i, i < j → nth s i < x.id)) (fun i _ => m - (intOf i).toNat)
        case atStart => exact ⟨0, Nat.zero_le _, rfl, hide (Below.refl _ _), hide (fun i hi => absurd hi (by omega))⟩
        case round =>
          obtain ⟨j, hj, rfl, hb2, hlow⟩ := hrel
          have HOq := hide (own_only hown.out (Only.of_below hb2.out NoBlk) (fun _ _ h => h.elim))
          have gq := bkeep hb2.out g1
          have Hbq := hide (hbel.out.trans (hb2.out.mono hbel.out.size))
          have hbq : b < wr.heap.size := World.block_lt_of_cell? _ _ gq
          by_cases hjm : j < m
          · obtain ⟨g', hg', hgb, hgl, hgc⟩ := own_int HOq.out j (by rw [hml.out]; exact hjm)
            injection hg' with hg'
            injection hg' with hg'
            subst hg'
            have k1 : (0 : Int) ≤ (j : Int) := by omega
            have k2 : (j : Int) < (m : Int) := by omega
            have k3 : decide ((j : Int) < (m : Int)) = true := by simpa using k2
            by_cases hxs : nth s j < x.id
            · have k4 : decide (nth s j < x.id) = true := by simpa using hxs
              go_wp2_with fail
              go_quiet (fail)
              go_wp2_with fail
              go_roundw
              case rel =>
                have hb2' := hb2.out
                refine ⟨j + 1, by omega, by go_num, hide ⟨hb2'.os, hb2'.tape, hb2'.output, hb2'.size, hb2'.block⟩, hide (fun i hi => ?_)⟩
                by_cases e : i = j
                · subst e; exact hxs
                · exact hlow.out i (by omega)
              case measure => simp [intOf]; omega
            · have k4 : decide (nth s j < x.id) = false := by simpa using hxs
              have HI := hide (insU_at x.id s j (by rw [hml.out]; exact hj) hlow.out (fun _ => hxs))
              have kn : ((j : Int) == (m : Int)) = false := by simp; omega
              by_cases hxe : nth s j = x.id
              · have k5 : (nth s j != x.id) = false := by simp [hxe]
                have HI2 := hide (show insU x.id s = s by rw [HI.out, if_neg (by rw [hml.out]; exact fun h => h.elim (fun h => by omega) (fun h => h hxe))])
                clear HI hxe
                go_wp2_with fail
                go_quiet (fail)
                go_wp2_with fail
                go_quiet (fail)
                go_wp2_with fail
                go_roundw
                case rel =>
                  have hb2' := Hbq.out
                  refine ⟨k + 1, m, g, c1, by omega, by omega, hmc, rfl, by go_num, ?_, ?_, hide ⟨hb2'.os, hb2'.tape, hb2'.output, hb2'.size, hb2'.block⟩⟩
                  · rw [HF.out, if_pos HT.out, HI2.out]; exact hml
                  · rw [HF.out, if_pos HT.out, HI2.out]; exact HOq
                case measure => simp [intOf]; omega
              · have k5 : (nth s j != x.id) = true := by simp [hxe]
                have HI2 := hide (show insU x.id s = s.take j ++ x.id :: s.drop j by rw [HI.out, if_pos (Or.inr hxe)])
                clear HI hxe
                go_wp2_with fail
                go_quiet (fail)
                generalize nq = q1
                go_wp2_with fail
                go_quiet (fail)
                generalize nq = q2
                have gq2 : ((wr.drewN q1).drewN q2).cell? ⟨b, o + k * 12 + 1, none⟩ = some (.int .i64 x.id) := gq
                have HOq2 : Hid (((wr.drewN q1).drewN q2).ownsRow w.heap.size 3 1 (.slice (some ⟨g, 0, none⟩) m c1) m (flat encI s)) := HOq
                have Hbq2 : Hid (Below w.heap.size w ((wr.drewN q1).drewN q2)) := hide ⟨Hbq.out.os, Hbq.out.tape, Hbq.out.output, Hbq.out.size, Hbq.out.block⟩
                have hblt2 : b < ((wr.drewN q1).drewN q2).heap.size := hbq
                generalize ((wr.drewN q1).drewN q2) = wq at gq2 HOq2 Hbq2 hblt2 ⊢
                clear gq HOq Hbq hbq
                have gq := gq2
                have hblt := hblt2
                have Hbq := Hbq2
                have hrW := Rd.of_own (M := NoBlk) HOq2.out (fun k h => h.elim)
                have hrT : Hid (Rd wq NoBlk (some ⟨g, 0, none⟩) (flat encI (s.take j))) := hide (by rw [← encI_take]; exact hrW.take_ j)
                have hrD0 := rd_drop hrW j
                rw [encI_drop] at hrD0
                have hlT : Hid ((flat encI (s.take j)).length = j * 1) := hide (by rw [encI_len, List.length_take, hml.out]; omega)
                have hlD : Hid ((flat encI (s.drop j)).length = (m - j) * 1) := hide (by rw [encI_len, List.length_drop, hml.out]; omega)
                have honeT := hide (encI_one (s.take j))
                have honeD := hide (encI_one (s.drop j))
                clear gq2 hblt2 Hbq2 hrW
                by_cases hcj : c1 = j
                · have hrD : Hid (Rd wq NoBlk (some ⟨g, 0, none⟩) (flat encI (s.drop j))) := hide (Or.inl (by apply List.eq_nil_of_length_eq_zero; rw [hlD.out]; omega))
                  clear hrD0
                  have hj1 : j = c1 := hcj.symm
                  have hj2 : j = m := by omega
                  clear hcj
                  subst hj1
                  replace hlD : Hid ((flat encI (s.drop j)).length = 0 * 1) := hide (by rw [hlD.out]; omega)
                  subst hj2
                  go_wp2_with fail
                  go_region_held3 (fun w' => w'.cell? ⟨b, o + k * 12 + 1, none⟩ = some (.int .i64 x.id)) (go_keep)
                    (first
                      | (refine step_append_rd _ (by rfl) (.tmp 53) (.tmp 56) _ (by rfl) wq.heap.size 3 i0 (.int .i64 0) 1 8 Tryz.underlying86 hi hz0 hz1 hz2 rfl (by omega) (.slice (some ⟨wq.heap.size, 0, none⟩) 0 0) 0 [] (by rfl) ((own_empty (Nat.le_refl _)).drew) NoBlk (some ⟨g, 0, none⟩) j j (flat encI (s.take j)) (by rfl) (hrT.out.alloc _).drew hlT.out honeT.out (by simp only [maxLen]; omega) (by omega) (by simp <;> omega) ?_
                         intro v1 w3 hown1 hg1 hat1
                         simp only [Nat.zero_add, List.nil_append] at hown1
                         have hb3 : Below wq.heap.size wq w3 := (((Below.refl _ _).alloc (Nat.le_refl _) _).drew).grown hg1 (by simp) (fun k hk => own_ge (own_empty (w := wq) (e := 3) (size := 1) (Nat.le_refl _)) k hk)
                         have hk3 := (hb3.cell (p := ⟨b, o + k * 12 + 1, none⟩) hblt).trans gq
                         have hg1' := hide hg1
                         clear hg1)
                      | (refine step_append_rd _ (by rfl) (.tmp 53) (.tmp 56) _ (by rfl) wq.heap.size 3 i0 (.int .i64 0) 1 8 Tryz.underlying86 hi hz0 hz1 hz2 rfl (by omega) (.slice (some ⟨wq.heap.size, 0, none⟩) 0 0) 0 [] (by rfl) (((own_empty (Nat.le_refl _)).alloc _).drew) NoBlk (some ⟨g, 0, none⟩) j j (flat encI (s.take j)) (by rfl) ((hrT.out.alloc _).alloc _).drew hlT.out honeT.out (by simp only [maxLen]; omega) (by omega) (by simp <;> omega) ?_
                         intro v1 w3 hown1 hg1 hat1
                         simp only [Nat.zero_add, List.nil_append] at hown1
                         have hb3 : Below wq.heap.size wq w3 := ((((Below.refl _ _).alloc (Nat.le_refl _) _).alloc (by simp) _).drew).grown hg1 (by simp; omega) (fun k hk => own_ge (own_empty (w := wq) (e := 3) (size := 1) (Nat.le_refl _)) k hk)
                         have hk3 := (hb3.cell (p := ⟨b, o + k * 12 + 1, none⟩) hblt).trans gq
                         have hX0 : Blk ((wq.alloc (.cells #[] 3)).alloc (.cells #[.int .i64 x.id] 3)).drew (wq.heap.size + 1) 3 #[.int .i64 x.id] := Blk.new' (by simp)
                         have hX3 : Blk w3 (wq.heap.size + 1) 3 #[.int .i64 x.id] := (hg1.block _ hX0.lt (by simp [Value.ownBlock])).trans hX0
                         have hg1' := hide hg1
                         clear hg1 hX0)
                      | (refine step_append_rd _ (by rfl) (.tmp 53) (.tmp 56) _ (by rfl) wq.heap.size 3 i0 (.int .i64 0) 1 8 Tryz.underlying86 hi hz0 hz1 hz2 rfl (by omega) (.slice (some ⟨wq.heap.size + 1, 0, none⟩) 0 0) 0 [] (by rfl) ((own_empty' (w := wq.alloc (.cells #[.int .i64 x.id] 3)) (by simp) (by simp)).drew) NoBlk (some ⟨g, 0, none⟩) j j (flat encI (s.take j)) (by rfl) ((hrT.out.alloc _).alloc _).drew hlT.out honeT.out (by simp only [maxLen]; omega) (by omega) (by simp <;> omega) ?_
                         intro v1 w3 hown1 hg1 hat1
                         simp only [Nat.zero_add, List.nil_append] at hown1
                         have hb3 : Below wq.heap.size wq w3 := ((((Below.refl _ _).alloc (Nat.le_refl _) _).alloc (by simp) _).drew).grown hg1 (by simp; omega) (fun k hk => by simp [Value.ownBlock] at hk; omega)
                         have hk3 := (hb3.cell (p := ⟨b, o + k * 12 + 1, none⟩) hblt).trans gq
                         have hX0 : Blk ((wq.alloc (.cells #[.int .i64 x.id] 3)).alloc (.cells #[] 3)).drew wq.heap.size 3 #[.int .i64 x.id] := (Blk.new wq _ _).alloc _
                         have hX3 : Blk w3 wq.heap.size 3 #[.int .i64 x.id] := (hg1.block _ hX0.lt (by simp [Value.ownBlock])).trans hX0
                         have hg1' := hide hg1
                         clear hg1 hX0)
                      | (refine step_append_rd _ (by rfl) (.tmp 57) (.tmp 63) _ (by rfl) wq.heap.size 3 i0 (.int .i64 0) 1 8 Tryz.underlying86 hi hz0 hz1 hz2 rfl (by omega) v1 j (flat encI (s.take j)) (by rfl) (hown1.alloc _) NoBlk (some ⟨w3.heap.size, 0, none⟩) 1 1 [.int .i64 x.id] (by rfl) (rd_blkN (Blk.new w3 _ _) (fun h => h)) rfl (encI_one [x.id]) (by simp only [maxLen]; omega) (by omega) (by have := hb3.size; simp; omega) ?_
                         intro v2 w4 hown2 hg2 hat2
                         have hb4 : Below wq.heap.size wq w4 := (hb3.alloc hb3.size _).grown hg2 (by have := hb3.size; simp; omega) (fun k hk => own_ge hown1 k hk)
                         have hk4 := (hb4.cell (p := ⟨b, o + k * 12 + 1, none⟩) hblt).trans gq
                         clear hg2)
                      | (refine step_append_rd _ (by rfl) (.tmp 57) (.tmp 63) _ (by rfl) wq.heap.size 3 i0 (.int .i64 0) 1 8 Tryz.underlying86 hi hz0 hz1 hz2 rfl (by omega) v1 j (flat encI (s.take j)) (by rfl) hown1 NoBlk (some ⟨_, 0, none⟩) 1 1 [.int .i64 x.id] (by rfl) (rd_blkN hX3 (fun h => h)) rfl (encI_one [x.id]) (by simp only [maxLen]; omega) (by omega) (by have := hb3.size; omega) ?_
                         intro v2 w4 hown2 hg2 hat2
                         have hb4 : Below wq.heap.size wq w4 := hb3.grown hg2 hb3.size (fun k hk => own_ge hown1 k hk)
                         have hk4 := (hb4.cell (p := ⟨b, o + k * 12 + 1, none⟩) hblt).trans gq
                         clear hg2)
                      | (refine step_append_rd _ (by rfl) (.tmp 64) (.tmp 67) _ (by rfl) wq.heap.size 3 i0 (.int .i64 0) 1 8 Tryz.underlying86 hi hz0 hz1 hz2 rfl (by omega) v2 (j + 1) (flat encI (s.take j) ++ [.int .i64 x.id]) (by rfl) hown2 NoBlk (some ⟨g, 0, none⟩) 0 0 (flat encI (s.drop j)) (by rfl) (hrD.out.below hb4) hlD.out honeD.out (by simp only [maxLen]; omega) (by omega) (by have := hb4.size; omega) ?_
                         intro v3 w5 hown3 hg3 hat3
                         have hb5 : Below wq.heap.size wq w5 := hb4.grown hg3 hb4.size (fun k hk => own_ge hown2 k hk)
                         have hk5 := (hb5.cell (p := ⟨b, o + k * 12 + 1, none⟩) hblt).trans gq
                         clear hg3))
                  all_goals
                    have HB5 := hide hb5
                    have HO5 := hide hown3
                    clear hb5 hb4 hb3 hown3 hown2 hown1
                    obtain ⟨g5, c5, rfl, hc5⟩ := own_some HO5.out (by omega)
                    go_wp2_with fail
                    go_roundw
                    case rel =>
                      refine ⟨k + 1, j + 1, g5, c5, by omega, by omega, by omega, (by rw [show j + 1 + 0 = j + 1 by omega]), by go_num, ?_, ?_, hide (Hbq.out.trans (HB5.out.mono Hbq.out.size))⟩
                      · rw [HF.out, if_pos HT.out, HI2.out]
                        refine hide ?_
                        rw [List.length_append, List.length_cons, List.length_take, List.length_drop, hml.out]; omega
                      · rw [HF.out, if_pos HT.out, HI2.out]
                        refine hide ?_
                        have h5 := own_base HO5.out Hbq.out.size
                        rw [show j + 1 + 0 = j + 1 by omega] at h5 ⊢
                        rw [flat_append, show x.id :: s.drop j = [x.id] ++ s.drop j from rfl, flat_append, ← List.append_assoc]
                        exact h5
                    case measure => simp [intOf]; omega
                · have hrD : Hid (Rd wq NoBlk (some ⟨g, j, none⟩) (flat encI (s.drop j))) := hide hrD0
                  have hc0 : ¬ c1 = 0 := by omega
                  have hc0p : 0 < c1 := by omega
                  have hjc : j < c1 := by omega
                  have hcj2 : ¬ j = c1 := by omega
                  have hjc3 : j ≤ c1 := by omega
                  have hjc4 : (j : Int) ≤ (c1 : Int) := by omega
                  have hjc5 : (0 : Int) ≤ (j : Int) := by omega
                  have hjc6 : (j : Int) ≤ (m : Int) := by omega
                  clear hrD0
                  go_wp2_with fail
                  go_region_held3 (fun w' => w'.cell? ⟨b, o + k * 12 + 1, none⟩ = some (.int .i64 x.id)) (go_keep)
                    (first
                      | (refine step_append_rd _ (by rfl) (.tmp 53) (.tmp 56) _ (by rfl) wq.heap.size 3 i0 (.int .i64 0) 1 8 Tryz.underlying86 hi hz0 hz1 hz2 rfl (by omega) (.slice (some ⟨wq.heap.size, 0, none⟩) 0 0) 0 [] (by rfl) ((own_empty (Nat.le_refl _)).drew) NoBlk (some ⟨g, 0, none⟩) j c1 (flat encI (s.take j)) (by rfl) (hrT.out.alloc _).drew hlT.out honeT.out (by simp only [maxLen]; omega) (by omega) (by simp <;> omega) ?_
                         intro v1 w3 hown1 hg1 hat1
                         simp only [Nat.zero_add, List.nil_append] at hown1
                         have hb3 : Below wq.heap.size wq w3 := (((Below.refl _ _).alloc (Nat.le_refl _) _).drew).grown hg1 (by simp) (fun k hk => own_ge (own_empty (w := wq) (e := 3) (size := 1) (Nat.le_refl _)) k hk)
                         have hk3 := (hb3.cell (p := ⟨b, o + k * 12 + 1, none⟩) hblt).trans gq
                         have hg1' := hide hg1
                         clear hg1)
                      | (refine step_append_rd _ (by rfl) (.tmp 53) (.tmp 56) _ (by rfl) wq.heap.size 3 i0 (.int .i64 0) 1 8 Tryz.underlying86 hi hz0 hz1 hz2 rfl (by omega) (.slice (some ⟨wq.heap.size, 0, none⟩) 0 0) 0 [] (by rfl) (((own_empty (Nat.le_refl _)).alloc _).drew) NoBlk (some ⟨g, 0, none⟩) j c1 (flat encI (s.take j)) (by rfl) ((hrT.out.alloc _).alloc _).drew hlT.out honeT.out (by simp only [maxLen]; omega) (by omega) (by simp <;> omega) ?_
                         intro v1 w3 hown1 hg1 hat1
                         simp only [Nat.zero_add, List.nil_append] at hown1
                         have hb3 : Below wq.heap.size wq w3 := ((((Below.refl _ _).alloc (Nat.le_refl _) _).alloc (by simp) _).drew).grown hg1 (by simp; omega) (fun k hk => own_ge (own_empty (w := wq) (e := 3) (size := 1) (Nat.le_refl _)) k hk)
                         have hk3 := (hb3.cell (p := ⟨b, o + k * 12 + 1, none⟩) hblt).trans gq
                         have hX0 : Blk ((wq.alloc (.cells #[] 3)).alloc (.cells #[.int .i64 x.id] 3)).drew (wq.heap.size + 1) 3 #[.int .i64 x.id] := Blk.new' (by simp)
                         have hX3 : Blk w3 (wq.heap.size + 1) 3 #[.int .i64 x.id] := (hg1.block _ hX0.lt (by simp [Value.ownBlock])).trans hX0
                         have hg1' := hide hg1
                         clear hg1 hX0)
                      | (refine step_append_rd _ (by rfl) (.tmp 53) (.tmp 56) _ (by rfl) wq.heap.size 3 i0 (.int .i64 0) 1 8 Tryz.underlying86 hi hz0 hz1 hz2 rfl (by omega) (.slice (some ⟨wq.heap.size + 1, 0, none⟩) 0 0) 0 [] (by rfl) ((own_empty' (w := wq.alloc (.cells #[.int .i64 x.id] 3)) (by simp) (by simp)).drew) NoBlk (some ⟨g, 0, none⟩) j c1 (flat encI (s.take j)) (by rfl) ((hrT.out.alloc _).alloc _).drew hlT.out honeT.out (by simp only [maxLen]; omega) (by omega) (by simp <;> omega) ?_
                         intro v1 w3 hown1 hg1 hat1
                         simp only [Nat.zero_add, List.nil_append] at hown1
                         have hb3 : Below wq.heap.size wq w3 := ((((Below.refl _ _).alloc (Nat.le_refl _) _).alloc (by simp) _).drew).grown hg1 (by simp; omega) (fun k hk => by simp [Value.ownBlock] at hk; omega)
                         have hk3 := (hb3.cell (p := ⟨b, o + k * 12 + 1, none⟩) hblt).trans gq
                         have hX0 : Blk ((wq.alloc (.cells #[.int .i64 x.id] 3)).alloc (.cells #[] 3)).drew wq.heap.size 3 #[.int .i64 x.id] := (Blk.new wq _ _).alloc _
                         have hX3 : Blk w3 wq.heap.size 3 #[.int .i64 x.id] := (hg1.block _ hX0.lt (by simp [Value.ownBlock])).trans hX0
                         have hg1' := hide hg1
                         clear hg1 hX0)
                      | (refine step_append_rd _ (by rfl) (.tmp 57) (.tmp 63) _ (by rfl) wq.heap.size 3 i0 (.int .i64 0) 1 8 Tryz.underlying86 hi hz0 hz1 hz2 rfl (by omega) v1 j (flat encI (s.take j)) (by rfl) (hown1.alloc _) NoBlk (some ⟨w3.heap.size, 0, none⟩) 1 1 [.int .i64 x.id] (by rfl) (rd_blkN (Blk.new w3 _ _) (fun h => h)) rfl (encI_one [x.id]) (by simp only [maxLen]; omega) (by omega) (by have := hb3.size; simp; omega) ?_
                         intro v2 w4 hown2 hg2 hat2
                         have hb4 : Below wq.heap.size wq w4 := (hb3.alloc hb3.size _).grown hg2 (by have := hb3.size; simp; omega) (fun k hk => own_ge hown1 k hk)
                         have hk4 := (hb4.cell (p := ⟨b, o + k * 12 + 1, none⟩) hblt).trans gq
                         clear hg2)
                      | (refine step_append_rd _ (by rfl) (.tmp 57) (.tmp 63) _ (by rfl) wq.heap.size 3 i0 (.int .i64 0) 1 8 Tryz.underlying86 hi hz0 hz1 hz2 rfl (by omega) v1 j (flat encI (s.take j)) (by rfl) hown1 NoBlk (some ⟨_, 0, none⟩) 1 1 [.int .i64 x.id] (by rfl) (rd_blkN hX3 (fun h => h)) rfl (encI_one [x.id]) (by simp only [maxLen]; omega) (by omega) (by have := hb3.size; omega) ?_
                         intro v2 w4 hown2 hg2 hat2
                         have hb4 : Below wq.heap.size wq w4 := hb3.grown hg2 hb3.size (fun k hk => own_ge hown1 k hk)
                         have hk4 := (hb4.cell (p := ⟨b, o + k * 12 + 1, none⟩) hblt).trans gq
                         clear hg2)
                      | (refine step_append_rd _ (by rfl) (.tmp 64) (.tmp 67) _ (by rfl) wq.heap.size 3 i0 (.int .i64 0) 1 8 Tryz.underlying86 hi hz0 hz1 hz2 rfl (by omega) v2 (j + 1) (flat encI (s.take j) ++ [.int .i64 x.id]) (by rfl) hown2 NoBlk (some ⟨g, j, none⟩) (m - j) (c1 - j) (flat encI (s.drop j)) (by rfl) (hrD.out.below hb4) hlD.out honeD.out (by simp only [maxLen]; omega) (by omega) (by have := hb4.size; omega) ?_
                         intro v3 w5 hown3 hg3 hat3
                         have hb5 : Below wq.heap.size wq w5 := hb4.grown hg3 hb4.size (fun k hk => own_ge hown2 k hk)
                         have hk5 := (hb5.cell (p := ⟨b, o + k * 12 + 1, none⟩) hblt).trans gq
                         clear hg3))
                  all_goals
                    have HB5 := hide hb5
                    have HO5 := hide hown3
                    clear hb5 hb4 hb3 hown3 hown2 hown1
                    obtain ⟨g5, c5, rfl, hc5⟩ := own_some HO5.out (by omega)
                    go_wp2_with fail
                    go_roundw
                    case rel =>
                      refine ⟨k + 1, m + 1, g5, c5, by omega, by omega, by omega, (by rw [show j + 1 + (m - j) = m + 1 by omega]), by go_num, ?_, ?_, hide (Hbq.out.trans (HB5.out.mono Hbq.out.size))⟩
                      · rw [HF.out, if_pos HT.out, HI2.out]
                        refine hide ?_
                        rw [List.length_append, List.length_cons, List.length_take, List.length_drop, hml.out]; omega
                      · rw [HF.out, if_pos HT.out, HI2.out]
                        refine hide ?_
                        have h5 := own_base HO5.out Hbq.out.size
                        rw [show j + 1 + (m - j) = m + 1 by omega] at h5 ⊢
                        rw [flat_append, show x.id :: s.drop j = [x.id] ++ s.drop j from rfl, flat_append, ← List.append_assoc]
                        exact h5
                    case measure => simp [intOf]; omega
          · have hje : j = m := by omega
            subst hje
            have k2 : decide ((j : Int) < (j : Int)) = false := by simp
            have k3 : decide (j < j) = false := by simp
            have kn : ((j : Int) == (j : Int)) = true := by simp
            have HI2 := hide (show insU x.id s = s.take j ++ x.id :: s.drop j by rw [insU_at x.id s j (by rw [hml.out]; exact hj) hlow.out (fun h => absurd h (by rw [hml.out]; omega)), if_pos (Or.inl hml.out.symm)])
            go_wp2_with fail
            go_quiet (fail)
            generalize nq = q1
            go_wp2_with fail
            go_quiet (fail)
            generalize nq = q2
            have gq2 : ((wr.drewN q1).drewN q2).cell? ⟨b, o + k * 12 + 1, none⟩ = some (.int .i64 x.id) := gq
            have HOq2 : Hid (((wr.drewN q1).drewN q2).ownsRow w.heap.size 3 1 (.slice (some ⟨g, 0, none⟩) j c1) j (flat encI s)) := HOq
            have Hbq2 : Hid (Below w.heap.size w ((wr.drewN q1).drewN q2)) := hide ⟨Hbq.out.os, Hbq.out.tape, Hbq.out.output, Hbq.out.size, Hbq.out.block⟩
            have hblt2 : b < ((wr.drewN q1).drewN q2).heap.size := hbq
            generalize ((wr.drewN q1).drewN q2) = wq at gq2 HOq2 Hbq2 hblt2 ⊢
            clear gq HOq Hbq hbq
            have gq := gq2
            have hblt := hblt2
            have Hbq := Hbq2
            have hrW := Rd.of_own (M := NoBlk) HOq2.out (fun k h => h.elim)
            have hrT : Hid (Rd wq NoBlk (some ⟨g, 0, none⟩) (flat encI (s.take j))) := hide (by rw [← encI_take]; exact hrW.take_ j)
            have hrD0 := rd_drop hrW j
            rw [encI_drop] at hrD0
            have hlT : Hid ((flat encI (s.take j)).length = j * 1) := hide (by rw [encI_len, List.length_take, hml.out]; omega)
            have hlD : Hid ((flat encI (s.drop j)).length = (j - j) * 1) := hide (by rw [encI_len, List.length_drop, hml.out]; omega)
            have honeT := hide (encI_one (s.take j))
            have honeD := hide (encI_one (s.drop j))
            clear gq2 hblt2 Hbq2 hrW
            by_cases hcj : c1 = j
            · have hrD : Hid (Rd wq NoBlk (some ⟨g, 0, none⟩) (flat encI (s.drop j))) := hide (Or.inl (by apply List.eq_nil_of_length_eq_zero; rw [hlD.out]; omega))
              clear hrD0
              have hj1 : j = c1 := hcj.symm
              clear hcj
              subst hj1
              replace hlD : Hid ((flat encI (s.drop j)).length = 0 * 1) := hide (by rw [hlD.out]; omega)
              go_wp2_with fail
              go_region_held3 (fun w' => w'.cell? ⟨b, o + k * 12 + 1, none⟩ = some (.int .i64 x.id)) (go_keep)
                (first
                  | (refine step_append_rd _ (by rfl) (.tmp 53) (.tmp 56) _ (by rfl) wq.heap.size 3 i0 (.int .i64 0) 1 8 Tryz.underlying86 hi hz0 hz1 hz2 rfl (by omega) (.slice (some ⟨wq.heap.size, 0, none⟩) 0 0) 0 [] (by rfl) ((own_empty (Nat.le_refl _)).drew) NoBlk (some ⟨g, 0, none⟩) j j (flat encI (s.take j)) (by rfl) (hrT.out.alloc _).drew hlT.out honeT.out (by simp only [maxLen]; omega) (by omega) (by simp <;> omega) ?_
                     intro v1 w3 hown1 hg1 hat1
                     simp only [Nat.zero_add, List.nil_append] at hown1
                     have hb3 : Below wq.heap.size wq w3 := (((Below.refl _ _).alloc (Nat.le_refl _) _).drew).grown hg1 (by simp) (fun k hk => own_ge (own_empty (w := wq) (e := 3) (size := 1) (Nat.le_refl _)) k hk)
                     have hk3 := (hb3.cell (p := ⟨b, o + k * 12 + 1, none⟩) hblt).trans gq
                     have hg1' := hide hg1
                     clear hg1)
                  | (refine step_append_rd _ (by rfl) (.tmp 53) (.tmp 56) _ (by rfl) wq.heap.size 3 i0 (.int .i64 0) 1 8 Tryz.underlying86 hi hz0 hz1 hz2 rfl (by omega) (.slice (some ⟨wq.heap.size, 0, none⟩) 0 0) 0 [] (by rfl) (((own_empty (Nat.le_refl _)).alloc _).drew) NoBlk (some ⟨g, 0, none⟩) j j (flat encI (s.take j)) (by rfl) ((hrT.out.alloc _).alloc _).drew hlT.out honeT.out (by simp only [maxLen]; omega) (by omega) (by simp <;> omega) ?_
                     intro v1 w3 hown1 hg1 hat1
                     simp only [Nat.zero_add, List.nil_append] at hown1
                     have hb3 : Below wq.heap.size wq w3 := ((((Below.refl _ _).alloc (Nat.le_refl _) _).alloc (by simp) _).drew).grown hg1 (by simp; omega) (fun k hk => own_ge (own_empty (w := wq) (e := 3) (size := 1) (Nat.le_refl _)) k hk)
                     have hk3 := (hb3.cell (p := ⟨b, o + k * 12 + 1, none⟩) hblt).trans gq
                     have hX0 : Blk ((wq.alloc (.cells #[] 3)).alloc (.cells #[.int .i64 x.id] 3)).drew (wq.heap.size + 1) 3 #[.int .i64 x.id] := Blk.new' (by simp)
                     have hX3 : Blk w3 (wq.heap.size + 1) 3 #[.int .i64 x.id] := (hg1.block _ hX0.lt (by simp [Value.ownBlock])).trans hX0
                     have hg1' := hide hg1
                     clear hg1 hX0)
                  | (refine step_append_rd _ (by rfl) (.tmp 53) (.tmp 56) _ (by rfl) wq.heap.size 3 i0 (.int .i64 0) 1 8 Tryz.underlying86 hi hz0 hz1 hz2 rfl (by omega) (.slice (some ⟨wq.heap.size + 1, 0, none⟩) 0 0) 0 [] (by rfl) ((own_empty' (w := wq.alloc (.cells #[.int .i64 x.id] 3)) (by simp) (by simp)).drew) NoBlk (some ⟨g, 0, none⟩) j j (flat encI (s.take j)) (by rfl) ((hrT.out.alloc _).alloc _).drew hlT.out honeT.out (by simp only [maxLen]; omega) (by omega) (by simp <;> omega) ?_
                     intro v1 w3 hown1 hg1 hat1
                     simp only [Nat.zero_add, List.nil_append] at hown1
                     have hb3 : Below wq.heap.size wq w3 := ((((Below.refl _ _).alloc (Nat.le_refl _) _).alloc (by simp) _).drew).grown hg1 (by simp; omega) (fun k hk => by simp [Value.ownBlock] at hk; omega)
                     have hk3 := (hb3.cell (p := ⟨b, o + k * 12 + 1, none⟩) hblt).trans gq
                     have hX0 : Blk ((wq.alloc (.cells #[.int .i64 x.id] 3)).alloc (.cells #[] 3)).drew wq.heap.size 3 #[.int .i64 x.id] := (Blk.new wq _ _).alloc _
                     have hX3 : Blk w3 wq.heap.size 3 #[.int .i64 x.id] := (hg1.block _ hX0.lt (by simp [Value.ownBlock])).trans hX0
                     have hg1' := hide hg1
                     clear hg1 hX0)
                  | (refine step_append_rd _ (by rfl) (.tmp 57) (.tmp 63) _ (by rfl) wq.heap.size 3 i0 (.int .i64 0) 1 8 Tryz.underlying86 hi hz0 hz1 hz2 rfl (by omega) v1 j (flat encI (s.take j)) (by rfl) (hown1.alloc _) NoBlk (some ⟨w3.heap.size, 0, none⟩) 1 1 [.int .i64 x.id] (by rfl) (rd_blkN (Blk.new w3 _ _) (fun h => h)) rfl (encI_one [x.id]) (by simp only [maxLen]; omega) (by omega) (by have := hb3.size; simp; omega) ?_
                     intro v2 w4 hown2 hg2 hat2
                     have hb4 : Below wq.heap.size wq w4 := (hb3.alloc hb3.size _).grown hg2 (by have := hb3.size; simp; omega) (fun k hk => own_ge hown1 k hk)
                     have hk4 := (hb4.cell (p := ⟨b, o + k * 12 + 1, none⟩) hblt).trans gq
                     clear hg2)
                  | (refine step_append_rd _ (by rfl) (.tmp 57) (.tmp 63) _ (by rfl) wq.heap.size 3 i0 (.int .i64 0) 1 8 Tryz.underlying86 hi hz0 hz1 hz2 rfl (by omega) v1 j (flat encI (s.take j)) (by rfl) hown1 NoBlk (some ⟨_, 0, none⟩) 1 1 [.int .i64 x.id] (by rfl) (rd_blkN hX3 (fun h => h)) rfl (encI_one [x.id]) (by simp only [maxLen]; omega) (by omega) (by have := hb3.size; omega) ?_
                     intro v2 w4 hown2 hg2 hat2
                     have hb4 : Below wq.heap.size wq w4 := hb3.grown hg2 hb3.size (fun k hk => own_ge hown1 k hk)
                     have hk4 := (hb4.cell (p := ⟨b, o + k * 12 + 1, none⟩) hblt).trans gq
                     clear hg2)
                  | (refine step_append_rd _ (by rfl) (.tmp 64) (.tmp 67) _ (by rfl) wq.heap.size 3 i0 (.int .i64 0) 1 8 Tryz.underlying86 hi hz0 hz1 hz2 rfl (by omega) v2 (j + 1) (flat encI (s.take j) ++ [.int .i64 x.id]) (by rfl) hown2 NoBlk (some ⟨g, 0, none⟩) 0 0 (flat encI (s.drop j)) (by rfl) (hrD.out.below hb4) hlD.out honeD.out (by simp only [maxLen]; omega) (by omega) (by have := hb4.size; omega) ?_
                     intro v3 w5 hown3 hg3 hat3
                     have hb5 : Below wq.heap.size wq w5 := hb4.grown hg3 hb4.size (fun k hk => own_ge hown2 k hk)
                     have hk5 := (hb5.cell (p := ⟨b, o + k * 12 + 1, none⟩) hblt).trans gq
                     clear hg3))
              all_goals
                have HB5 := hide hb5
                have HO5 := hide hown3
                clear hb5 hb4 hb3 hown3 hown2 hown1
                obtain ⟨g5, c5, rfl, hc5⟩ := own_some HO5.out (by omega)
                go_wp2_with fail
                go_roundw
                case rel =>
                  refine ⟨k + 1, j + 1, g5, c5, by omega, by omega, by omega, (by rw [show j + 1 + 0 = j + 1 by omega]), by go_num, ?_, ?_, hide (Hbq.out.trans (HB5.out.mono Hbq.out.size))⟩
                  · rw [HF.out, if_pos HT.out, HI2.out]
                    refine hide ?_
                    rw [List.length_append, List.length_cons, List.length_take, List.length_drop, hml.out]; omega
                  · rw [HF.out, if_pos HT.out, HI2.out]
                    refine hide ?_
                    have h5 := own_base HO5.out Hbq.out.size
                    rw [show j + 1 + 0 = j + 1 by omega] at h5 ⊢
                    rw [flat_append, show x.id :: s.drop j = [x.id] ++ s.drop j from rfl, flat_append, ← List.append_assoc]
                    exact h5
                case measure => simp [intOf]; omega
            · have hrD : Hid (Rd wq NoBlk (some ⟨g, j, none⟩) (flat encI (s.drop j))) := hide hrD0
              replace hlD : Hid ((flat encI (s.drop j)).length = 0 * 1) := hide (by rw [hlD.out]; omega)
              have hc0 : ¬ c1 = 0 := by omega
              have hc0p : 0 < c1 := by omega
              have hjc : j < c1 := by omega
              have hcj2 : ¬ j = c1 := by omega
              have hjc3 : j ≤ c1 := by omega
              have hjc4 : (j : Int) ≤ (c1 : Int) := by omega
              have hjc5 : (0 : Int) ≤ (j : Int) := by omega
              have hjc6 : (j : Int) ≤ (j : Int) := by omega
              clear hrD0
              go_wp2_with fail
              go_region_held3 (fun w' => w'.cell? ⟨b, o + k * 12 + 1, none⟩ = some (.int .i64 x.id)) (go_keep)
                (first
                  | (refine step_append_rd _ (by rfl) (.tmp 53) (.tmp 56) _ (by rfl) wq.heap.size 3 i0 (.int .i64 0) 1 8 Tryz.underlying86 hi hz0 hz1 hz2 rfl (by omega) (.slice (some ⟨wq.heap.size, 0, none⟩) 0 0) 0 [] (by rfl) ((own_empty (Nat.le_refl _)).drew) NoBlk (some ⟨g, 0, none⟩) j c1 (flat encI (s.take j)) (by rfl) (hrT.out.alloc _).drew hlT.out honeT.out (by simp only [maxLen]; omega) (by omega) (by simp <;> omega) ?_
                     intro v1 w3 hown1 hg1 hat1
                     simp only [Nat.zero_add, List.nil_append] at hown1
                     have hb3 : Below wq.heap.size wq w3 := (((Below.refl _ _).alloc (Nat.le_refl _) _).drew).grown hg1 (by simp) (fun k hk => own_ge (own_empty (w := wq) (e := 3) (size := 1) (Nat.le_refl _)) k hk)
                     have hk3 := (hb3.cell (p := ⟨b, o + k * 12 + 1, none⟩) hblt).trans gq
                     have hg1' := hide hg1
                     clear hg1)
                  | (refine step_append_rd _ (by rfl) (.tmp 53) (.tmp 56) _ (by rfl) wq.heap.size 3 i0 (.int .i64 0) 1 8 Tryz.underlying86 hi hz0 hz1 hz2 rfl (by omega) (.slice (some ⟨wq.heap.size, 0, none⟩) 0 0) 0 [] (by rfl) (((own_empty (Nat.le_refl _)).alloc _).drew) NoBlk (some ⟨g, 0, none⟩) j c1 (flat encI (s.take j)) (by rfl) ((hrT.out.alloc _).alloc _).drew hlT.out honeT.out (by simp only [maxLen]; omega) (by omega) (by simp <;> omega) ?_
                     intro v1 w3 hown1 hg1 hat1
                     simp only [Nat.zero_add, List.nil_append] at hown1
                     have hb3 : Below wq.heap.size wq w3 := ((((Below.refl _ _).alloc (Nat.le_refl _) _).alloc (by simp) _).drew).grown hg1 (by simp; omega) (fun k hk => own_ge (own_empty (w := wq) (e := 3) (size := 1) (Nat.le_refl _)) k hk)
                     have hk3 := (hb3.cell (p := ⟨b, o + k * 12 + 1, none⟩) hblt).trans gq
                     have hX0 : Blk ((wq.alloc (.cells #[] 3)).alloc (.cells #[.int .i64 x.id] 3)).drew (wq.heap.size + 1) 3 #[.int .i64 x.id] := Blk.new' (by simp)
                     have hX3 : Blk w3 (wq.heap.size + 1) 3 #[.int .i64 x.id] := (hg1.block _ hX0.lt (by simp [Value.ownBlock])).trans hX0
                     have hg1' := hide hg1
                     clear hg1 hX0)
                  | (refine step_append_rd _ (by rfl) (.tmp 53) (.tmp 56) _ (by rfl) wq.heap.size 3 i0 (.int .i64 0) 1 8 Tryz.underlying86 hi hz0 hz1 hz2 rfl (by omega) (.slice (some ⟨wq.heap.size + 1, 0, none⟩) 0 0) 0 [] (by rfl) ((own_empty' (w := wq.alloc (.cells #[.int .i64 x.id] 3)) (by simp) (by simp)).drew) NoBlk (some ⟨g, 0, none⟩) j c1 (flat encI (s.take j)) (by rfl) ((hrT.out.alloc _).alloc _).drew hlT.out honeT.out (by simp only [maxLen]; omega) (by omega) (by simp <;> omega) ?_
                     intro v1 w3 hown1 hg1 hat1
                     simp only [Nat.zero_add, List.nil_append] at hown1
                     have hb3 : Below wq.heap.size wq w3 := ((((Below.refl _ _).alloc (Nat.le_refl _) _).alloc (by simp) _).drew).grown hg1 (by simp; omega) (fun k hk => by simp [Value.ownBlock] at hk; omega)
                     have hk3 := (hb3.cell (p := ⟨b, o + k * 12 + 1, none⟩) hblt).trans gq
                     have hX0 : Blk ((wq.alloc (.cells #[.int .i64 x.id] 3)).alloc (.cells #[] 3)).drew wq.heap.size 3 #[.int .i64 x.id] := (Blk.new wq _ _).alloc _
                     have hX3 : Blk w3 wq.heap.size 3 #[.int .i64 x.id] := (hg1.block _ hX0.lt (by simp [Value.ownBlock])).trans hX0
                     have hg1' := hide hg1
                     clear hg1 hX0)
                  | (refine step_append_rd _ (by rfl) (.tmp 57) (.tmp 63) _ (by rfl) wq.heap.size 3 i0 (.int .i64 0) 1 8 Tryz.underlying86 hi hz0 hz1 hz2 rfl (by omega) v1 j (flat encI (s.take j)) (by rfl) (hown1.alloc _) NoBlk (some ⟨w3.heap.size, 0, none⟩) 1 1 [.int .i64 x.id] (by rfl) (rd_blkN (Blk.new w3 _ _) (fun h => h)) rfl (encI_one [x.id]) (by simp only [maxLen]; omega) (by omega) (by have := hb3.size; simp; omega) ?_
                     intro v2 w4 hown2 hg2 hat2
                     have hb4 : Below wq.heap.size wq w4 := (hb3.alloc hb3.size _).grown hg2 (by have := hb3.size; simp; omega) (fun k hk => own_ge hown1 k hk)
                     have hk4 := (hb4.cell (p := ⟨b, o + k * 12 + 1, none⟩) hblt).trans gq
                     clear hg2)
                  | (refine step_append_rd _ (by rfl) (.tmp 57) (.tmp 63) _ (by rfl) wq.heap.size 3 i0 (.int .i64 0) 1 8 Tryz.underlying86 hi hz0 hz1 hz2 rfl (by omega) v1 j (flat encI (s.take j)) (by rfl) hown1 NoBlk (some ⟨_, 0, none⟩) 1 1 [.int .i64 x.id] (by rfl) (rd_blkN hX3 (fun h => h)) rfl (encI_one [x.id]) (by simp only [maxLen]; omega) (by omega) (by have := hb3.size; omega) ?_
                     intro v2 w4 hown2 hg2 hat2
                     have hb4 : Below wq.heap.size wq w4 := hb3.grown hg2 hb3.size (fun k hk => own_ge hown1 k hk)
                     have hk4 := (hb4.cell (p := ⟨b, o + k * 12 + 1, none⟩) hblt).trans gq
                     clear hg2)
                  | (refine step_append_rd _ (by rfl) (.tmp 64) (.tmp 67) _ (by rfl) wq.heap.size 3 i0 (.int .i64 0) 1 8 Tryz.underlying86 hi hz0 hz1 hz2 rfl (by omega) v2 (j + 1) (flat encI (s.take j) ++ [.int .i64 x.id]) (by rfl) hown2 NoBlk (some ⟨g, j, none⟩) 0 (c1 - j) (flat encI (s.drop j)) (by rfl) (hrD.out.below hb4) hlD.out honeD.out (by simp only [maxLen]; omega) (by omega) (by have := hb4.size; omega) ?_
                     intro v3 w5 hown3 hg3 hat3
                     have hb5 : Below wq.heap.size wq w5 := hb4.grown hg3 hb4.size (fun k hk => own_ge hown2 k hk)
                     have hk5 := (hb5.cell (p := ⟨b, o + k * 12 + 1, none⟩) hblt).trans gq
                     clear hg3))
              all_goals
                have HB5 := hide hb5
                have HO5 := hide hown3
                clear hb5 hb4 hb3 hown3 hown2 hown1
                obtain ⟨g5, c5, rfl, hc5⟩ := own_some HO5.out (by omega)
                go_wp2_with fail
                go_roundw
                case rel =>
                  refine ⟨k + 1, j + 1, g5, c5, by omega, by omega, by omega, (by rw [show j + 1 + 0 = j + 1 by omega]), by go_num, ?_, ?_, hide (Hbq.out.trans (HB5.out.mono Hbq.out.size))⟩
                  · rw [HF.out, if_pos HT.out, HI2.out]
                    refine hide ?_
                    rw [List.length_append, List.length_cons, List.length_take, List.length_drop, hml.out]; omega
                  · rw [HF.out, if_pos HT.out, HI2.out]
                    refine hide ?_
                    have h5 := own_base HO5.out Hbq.out.size
                    rw [show j + 1 + 0 = j + 1 by omega] at h5 ⊢
                    rw [flat_append, show x.id :: s.drop j = [x.id] ++ s.drop j from rfl, flat_append, ← List.append_assoc]
                    exact h5
                case measure => simp [intOf]; omega
    · have hke : k = n := by omega
      subst hke
      have hd : decide ((k : Int) < k) = false := by simp
      have hd2 : decide (k < k) = false := by simp
      have ht : l.take k = l := List.take_of_length_le (by rw [← Hn.out]; omega)
      rw [ht] at hml hown
      have Hr := hide (Rd.of_own (M := NoBlk) hown.out (fun k h => h.elim))
      clear ht hlt
      go_wp2_with fail
      go_ret
      exact ⟨hbel.out, some ⟨g, 0, none⟩, c1, by rw [hml.out]; rfl, Hr.out⟩
end Go.Proofs.YtdmdohjdmnmabaaGreat
