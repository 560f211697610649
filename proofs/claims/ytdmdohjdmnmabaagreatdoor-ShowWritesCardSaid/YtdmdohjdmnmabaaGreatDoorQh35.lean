/- Parts of a chain of lemmas: RefIds, Jmp. Conditions: those of each theorem. -/
import Derived.Test.YtdmdohjdmnmabaaGreatDoorQh33
import Derived.Test.YtdmdohjdmnmabaaGreatDoorQh25
namespace Go.Proofs.YtdmdohjdmnmabaaGreatDoor
open Go.RowKit
set_option linter.unusedVariables false

theorem insU_len (x : Int) (s : List Int) : (insU x s).length ≤ s.length + 1 := by
  induction s with
  | nil => simp [insU]
  | cons a r ih =>
    unfold insU
    by_cases h1 : a < x
    · rw [if_pos h1]; simp; omega
    · rw [if_neg h1]
      by_cases h2 : a = x
      · rw [if_pos h2]; simp
      · rw [if_neg h2]; simp
/-- where the loop of Ids stops, one is put -/
theorem insU_at (x : Int) : ∀ (s : List Int) (j : Nat), j ≤ s.length → (∀ i, i < j → nth s i < x) → (j < s.length → ¬ nth s j < x) →
    insU x s = if j = s.length ∨ nth s j ≠ x then s.take j ++ x :: s.drop j else s := by
  intro s
  induction s with
  | nil =>
    intro j hj h1 h2
    have : j = 0 := by simpa using hj
    subst this
    simp [insU]
  | cons a r ih =>
    intro j hj h1 h2
    cases j with
    | zero =>
      have h3 : ¬ a < x := by simpa [nth] using h2 (by simp)
      unfold insU
      rw [if_neg h3]
      by_cases h4 : a = x
      · rw [if_pos h4, if_neg (by simp [nth, h4])]
      · rw [if_neg h4, if_pos (by simp [nth, h4])]; rfl
    | succ j =>
      have h3 : a < x := by simpa [nth] using h1 0 (by omega)
      have hr := ih j (by simpa using hj) (fun i hi => by simpa [nth] using h1 (i + 1) (by omega)) (fun hl => by simpa [nth] using h2 (by simp; exact hl))
      unfold insU
      rw [if_pos h3, hr]
      have e : nth (a :: r) (j + 1) = nth r j := by simp [nth]
      rw [e]
      by_cases h4 : j = r.length ∨ nth r j ≠ x
      · rw [if_pos h4, if_pos (by rcases h4 with h4 | h4 <;> simp [h4])]; simp
      · rw [if_neg h4, if_neg (by intro h; exact h4 (by rcases h with h | h; · left; simpa using h
                                                        · right; exact h))]
theorem fold_len (l : List Int) : (l.foldl (fun s x => insU x s) []).length ≤ l.length := by
  have : ∀ (l s : List Int), (l.foldl (fun s x => insU x s) s).length ≤ s.length + l.length := by
    intro l
    induction l with
    | nil => intro s; simp
    | cons a r ih => intro s; have := ih (insU a s); have := insU_len a s; simp; omega
  simpa using this l []
theorem own_int {w : World} {base n : Nat} {A : Option Addr} {c : Nat} {s : List Int} (h : w.ownsRow base 3 1 (.slice A n c) n (flat encI s)) (j : Nat) (hj : j < s.length) : ∃ g, A = some ⟨g, 0, none⟩ ∧ base ≤ g ∧ g < w.heap.size ∧ w.cell? ⟨g, j, none⟩ = some (.int .i64 (nth s j)) := by
  obtain ⟨b, o, hA, hm, hb, hc⟩ := (Rd.of_own (M := fun k => k < base) h (fun k hk => hk)).at_ (j := 0) (by rw [flat_encI, List.length_map]; omega)
  have ho : o = 0 := by
    rcases h.2 with ⟨hv, hn⟩ | ⟨g, cap, cur, hv, _⟩
    · injection hv with h1; rw [h1] at hA; cases hA
    · injection hv with h1; rw [h1] at hA; injection hA with hA; injection hA with _ h2; exact h2.symm
  subst ho
  refine ⟨b, hA, by omega, hb, ?_⟩
  have := hc j (by rw [flat_encI, List.length_map]; exact hj)
  rw [Nat.zero_add] at this
  rw [this, flat_encI, nth_of_lt hj]
  simp [hj]
theorem own_some {w : World} {base size n : Nat} {e : TypeId} {v : Value} {xs : List Value} (h : w.ownsRow base e size v n xs) (hn : 0 < n) : ∃ g c, v = .slice (some ⟨g, 0, none⟩) n c ∧ n ≤ c := by
  rcases h.2 with ⟨hv, h0⟩ | ⟨g, cap, cur, hv, _, _, hnc, _⟩
  · omega
  · exact ⟨g, cap, hv, hnc⟩
theorem own_base {w : World} {base base' size n : Nat} {e : TypeId} {v : Value} {xs : List Value} (h : w.ownsRow base e size v n xs) (hb : base' ≤ base) : w.ownsRow base' e size v n xs := by
  obtain ⟨hl, h2⟩ := h
  refine ⟨hl, ?_⟩
  rcases h2 with ⟨hv, hn⟩ | ⟨g, cap, cur, hv, hg, r⟩
  · exact Or.inl ⟨hv, hn⟩
  · exact Or.inr ⟨g, cap, cur, hv, by omega, r⟩
theorem Rd.take_ {w : World} {M : Nat → Prop} {A : Option Addr} {xs : List Value} (h : Rd w M A xs) (n : Nat) : Rd w M A (xs.take n) := by
  rcases h with h | ⟨b, o, hA, hm, hb, hc⟩
  · subst h; exact Or.inl (by simp)
  · refine Or.inr ⟨b, o, hA, hm, hb, fun j hj => ?_⟩
    rw [List.length_take] at hj
    rw [hc j (by omega), List.getElem?_take, if_pos (by omega)]
theorem rd_drop {w : World} {M : Nat → Prop} {g : Nat} {xs : List Value} (h : Rd w M (some ⟨g, 0, none⟩) xs) (n : Nat) : Rd w M (some ⟨g, n, none⟩) (xs.drop n) := by
  rcases h with h | ⟨b, o, hA, hm, hb, hc⟩
  · subst h; exact Or.inl (by simp)
  · injection hA with hA
    injection hA with h1 h2 _
    subst h1; subst h2
    refine Or.inr ⟨g, n, rfl, hm, hb, fun j hj => ?_⟩
    rw [List.length_drop] at hj
    have := hc (n + j) (by omega)
    rw [Nat.zero_add] at this
    rw [this, List.getElem?_drop]
theorem encI_take (s : List Int) (j : Nat) : (flat encI s).take j = flat encI (s.take j) := by rw [flat_encI, flat_encI, List.map_take]
theorem encI_drop (s : List Int) (j : Nat) : (flat encI s).drop j = flat encI (s.drop j) := by rw [flat_encI, flat_encI, List.map_drop]
theorem encI_one (s : List Int) : ∀ u ∈ flat encI s, u.oneCell' = true := by
  intro u hu
  rw [flat_encI, List.mem_map] at hu
  obtain ⟨a, _, rfl⟩ := hu
  rfl
theorem encI_len (s : List Int) : (flat encI s).length = s.length := by rw [flat_encI, List.length_map]
end Go.Proofs.YtdmdohjdmnmabaaGreatDoor
namespace Go.Proofs.YtdmdohjdmnmabaaGreatDoor
open Go.RowKit
set_option linter.unusedVariables false
set_option linter.unusedSimpArgs false

theorem one_int (x : Int) : ∀ u ∈ encI x, u.oneCell' = true := by intro u hu; simp at hu; subst hu; rfl
theorem two_int (x y : Int) : ∀ u ∈ flat encI [x, y], u.oneCell' = true := encI_one _
set_option maxRecDepth 100000 in
set_option maxHeartbeats 6400000 in
theorem jumps_c (k : Int) (t : ByteArray) (n gt : Int) (A : Option Addr) (ar : List ArmM) (c : Nat) (x y : Int) (w : World) (hr : Rd w NoBlk A (flat encArm ar)) (hn : ar.length ≤ 1000) :
 Calls Tryz.prog 56 #[.agg #[.int .i64 k, .string t, .int .i64 n, .int .i64 gt, .slice A ar.length c, .int .i64 x, .int .i64 y]] w fun e w' => (∃ A1 c1, e = .returned (.slice A1 (jumpsL ⟨k, t, n, gt, ar, x, y⟩).length c1) ∧ Rd w' NoBlk A1 (flat encI (jumpsL ⟨k, t, n, gt, ar, x, y⟩))) ∧ Below w.heap.size w w' := by
 obtain ⟨m, hm⟩ : ∃ m, m = ar.length := ⟨_, rfl⟩
 obtain ⟨i0, hi, hz0, hz1, hz2⟩ := info_parts Tryz.infoI3
 obtain ⟨W, hW⟩ : ∃ W, W = w.alloc (.cells #[.int .i64 k, .string t, .int .i64 n, .int .i64 gt, .slice A ar.length c, .int .i64 x, .int .i64 y] 37) := ⟨_, rfl⟩
 obtain ⟨g, hg⟩ : ∃ g, g = w.heap.size := ⟨_, rfl⟩
 have HB := hide (show Below g w W by rw [hW, hg]; exact below_alloc _ _)
 have HG := hide (show Blk W g 37 #[.int .i64 k, .string t, .int .i64 n, .int .i64 gt, .slice A ar.length c, .int .i64 x, .int .i64 y] by rw [hW, hg]; exact Blk.new _ _ _)
 have hsz : W.heap.size = g + 1 := by rw [hW, hg]; simp
 have HR := hide (fun (w' : World) (kk : Below g w w') (i : Nat) (hi : i < m) => arm_cells (hr.below (by rw [← hg]; exact kk)) i (by rw [← hm]; exact hi))
 have HS := hide (show ∀ q, q < m → (ar.take (q + 1)).map (fun a => a.to) = (ar.take q).map (fun a => a.to) ++ [(armAt ar q).to] from fun q hq => by
  have hq' : q < ar.length := by rw [← hm]; exact hq
  have e : armAt ar q = ar[q] := by simp [armAt, List.getD, hq']
  rw [List.take_succ_eq_append_getElem hq', List.map_append, e]; rfl)
 have HT := hide (show ar.take m = ar by rw [hm, List.take_length])
 have HJ := hide (show jumpsL ⟨k, t, n, gt, ar, x, y⟩ = if k = 2 then ar.map (fun a => a.to) ++ [x, y] else if k = 3 then [gt] else [] from rfl)
 have HLm := hide (show (ar.map (fun a => a.to)).length = m by rw [List.length_map, hm])
 rw [← hm] at hn HG hW ⊢
 have c0 : W.cell? ⟨g, 0, none⟩ = some (.int .i64 k) := by rw [HG.out.cell]; rfl
 have c3 : W.cell? ⟨g, 3, none⟩ = some (.int .i64 gt) := by rw [HG.out.cell]; rfl
 have c4 : W.cell? ⟨g, 4, none⟩ = some (.slice A m c) := by rw [HG.out.cell]; rfl
 rw [← hg]
 have HW := hide hW
 have Hg := hide hg
 have Hz := hide hsz
 clear hr hW hg hm hsz
 go_enter Tryz.func56, Tryz.ntmps56
 go_upto_region 1 with fail
 change Code.wp _ _ _ _ (w.alloc (.cells #[.int .i64 k, .string t, .int .i64 n, .int .i64 gt, .slice A m c, .int .i64 x, .int .i64 y] 37))
 rw [← HW.out, ← Hg.out]
 by_cases e2 : k = 2
 case pos =>
  have d2 : (k == 2) = true := by simp; exact e2
  rw [if_pos e2] at HJ
  clear e2
  go_wp2_with fail
  go_loopw [3, 13] (fun v i wr => ∃ q : Nat, q ≤ m ∧ i = .int .i64 q ∧ wr.ownsRow (g + 1) 3 1 v q (flat encI ((ar.take q).map (fun a => a.to))) ∧ Hid (Below g w wr) ∧ Hid (Blk wr g 37 #[.int .i64 k, .string t, .int .i64 n, .int .i64 gt, .slice A m c, .int .i64 x, .int .i64 y])) (fun _ i _ => m - (intOf i).toNat)
  case atStart => exact ⟨0, Nat.zero_le _, rfl, ⟨rfl, Or.inl ⟨rfl, rfl⟩⟩, HB, HG⟩
  case round =>
   clear HB HG c0 c3 c4
   obtain ⟨q, hq, rfl, hown, HB, HG⟩ := hrel
   have w0 : IntKind.i64.wrap ((q : Int) + 1) = (q : Int) + 1 := IntWalk.i64_in _ (by omega)
   have HO := hide hown
   have hgl := HG.out.lt
   by_cases hlt : q < m
   case neg =>
    obtain rfl : q = m := by omega
    have d3 : decide ((q : Int) < (q : Int)) = false := by simp
    have d4 : decide (q < q) = false := by simp
    have c5 : wr.cell? ⟨g, 5, none⟩ = some (.int .i64 x) := by rw [HG.out.cell]; rfl
    have c6 : wr.cell? ⟨g, 6, none⟩ = some (.int .i64 y) := by rw [HG.out.cell]; rfl
    have HN := hide (show Rd (wr.alloc (.cells #[.int .i64 x, .int .i64 y] 3)) NoBlk (some ⟨wr.heap.size, 0, none⟩) (flat encI [x, y]) from rd_blkN (Blk.new _ _ _) (fun h => h))
    clear hown
    go_wp2_with (first
     | (at_builtin; refine wpList_append_rd _ rfl (.tmp 23) (.tmp 28) _ rfl (g + 1) 3 i0 _ 1 8 Tryz.underlying58 hi hz0 hz1 hz2 rfl (by omega) _ q _ rfl (HO.out.alloc _) NoBlk (some ⟨wr.heap.size, 0, none⟩) 2 2 (flat encI [x, y]) rfl HN.out rfl (two_int x y) (by simp only [maxLen]; omega) (by omega) (by simp; omega) ?_; intro v2 w2 hown2 hgr _; have Own2 := hide hown2; have Gr := hide hgr; clear hown2 hgr))
    go_ret
    obtain ⟨A2, c2, rfl, _⟩ := own_cap Own2.out
    refine ⟨⟨A2, c2, by rw [HJ.out, List.length_append, HLm.out]; rfl, ?_⟩, ?_⟩
    ·have := Rd.of_own (M := NoBlk) Own2.out (fun _ h => h.elim)
     rw [HT.out, ← flat_append] at this
     rw [HJ.out]
     exact this
    ·exact (HB.out.alloc (by have := HB.out.size; have := Hg.out; omega) _).grown Gr.out (by have := HB.out.size; have := Hg.out; simp; omega) (fun j hj => by have := own_ge HO.out j hj; omega)
   case pos =>
    have d3 : decide ((q : Int) < (m : Int)) = true := by simp; exact hlt
    have d4 : decide (q < m) = true := by simp; exact hlt
    have j1 : (0 : Int) ≤ (q : Int) := by omega
    have j2 : (q : Int) < (m : Int) := by omega
    obtain ⟨ab, ao, hA, hab, a0, a1⟩ := HR.out _ HB.out q hlt
    have HA := hide hA
    have HSq := hide (HS.out q hlt)
    obtain ⟨u, hu⟩ : ∃ u, u = armAt ar q := ⟨_, rfl⟩
    rw [← hu] at a0 a1 HSq
    clear hu
    subst hA
    have HN := hide (show Rd ((wr.alloc (.cells #[.string u.pat, .int .i64 u.to] 65)).alloc (.cells #[.int .i64 u.to] 3)) NoBlk (some ⟨wr.heap.size + 1, 0, none⟩) (encI u.to) from rd_blkN (Blk.new' (by simp)) (fun h => h))
    have HBn := hide (show Blk ((wr.alloc (.cells #[.string u.pat, .int .i64 u.to] 65)).alloc (.cells #[.int .i64 u.to] 3)) g 37 #[.int .i64 k, .string t, .int .i64 n, .int .i64 gt, .slice (some ⟨ab, ao, none⟩) m c, .int .i64 x, .int .i64 y] from (HG.out.alloc _).alloc _)
    clear hown
    go_wp2_with (first
     | (at_builtin; refine wpList_append_rd _ rfl (.tmp 17) (.tmp 20) _ rfl (g + 1) 3 i0 _ 1 8 Tryz.underlying58 hi hz0 hz1 hz2 rfl (by omega) _ q _ rfl ((HO.out.alloc _).alloc _) NoBlk (some ⟨wr.heap.size + 1, 0, none⟩) 1 1 (encI u.to) rfl HN.out rfl (one_int u.to) (by simp only [maxLen]; omega) (by omega) (by simp; omega) ?_; intro v2 w2 hown2 hgr _; have Own2 := hide hown2; have Gr := hide hgr; clear hown2 hgr))
    have HB2 := hide (show Below g w w2 from ((HB.out.alloc (by have := HB.out.size; have := Hg.out; omega) _).alloc (by have := HB.out.size; have := Hg.out; simp; omega) _).grown Gr.out (by have := HB.out.size; have := Hg.out; simp; omega) (fun j hj => by have := own_ge HO.out j hj; omega))
    have HG2 := hide (show Blk w2 g 37 #[.int .i64 k, .string t, .int .i64 n, .int .i64 gt, .slice (some ⟨ab, ao, none⟩) m c, .int .i64 x, .int .i64 y] from Blk.grown HBn.out ((HO.out.alloc _).alloc _) (by decide) Gr.out)
    go_roundw
    case rel => exact ⟨q + 1, by omega, by go_num, by rw [HSq.out, flat_append]; have := Own2.out; simpa [flat] using this, HB2, HG2⟩
    case measure => simp [intOf]; omega
 case neg =>
  have d2 : (k == 2) = false := by simp; exact e2
  rw [if_neg e2] at HJ
  clear e2
  by_cases e3 : k = 3
  case pos =>
   have d3 : (k == 3) = true := by simp; exact e3
   rw [if_pos e3] at HJ
   clear e3
   have HN := hide (show Rd (W.alloc (.cells #[.int .i64 gt] 3)) NoBlk (some ⟨W.heap.size, 0, none⟩) (encI gt) from rd_blkN (Blk.new _ _ _) (fun h => h))
   have HO := hide (show (W.alloc (.cells #[.int .i64 gt] 3)).ownsRow (g + 1) 3 1 (.slice none 0 0) 0 [] from ⟨rfl, Or.inl ⟨rfl, rfl⟩⟩)
   go_wp2_with (first
    | (at_builtin; refine wpList_append_rd _ rfl (.tmp 32) (.tmp 35) _ rfl (g + 1) 3 i0 _ 1 8 Tryz.underlying58 hi hz0 hz1 hz2 rfl (by omega) (.slice none 0 0) 0 [] rfl HO.out NoBlk (some ⟨W.heap.size, 0, none⟩) 1 1 (encI gt) rfl HN.out rfl (one_int gt) (by simp only [maxLen]; omega) (by omega) (by have := Hz.out; simp; omega) ?_; intro v2 w2 hown2 hgr _; have Own2 := hide hown2; have Gr := hide hgr; clear hown2 hgr))
   go_ret
   obtain ⟨A2, c2, rfl, _⟩ := own_cap Own2.out
   refine ⟨⟨A2, c2, by rw [HJ.out]; rfl, ?_⟩, ?_⟩
   ·have := Rd.of_own (M := NoBlk) Own2.out (fun _ h => h.elim)
    rw [HJ.out]
    simpa [flat] using this
   ·exact (HB.out.alloc (by have := HB.out.size; have := Hg.out; omega) _).grown Gr.out (by have := HB.out.size; have := Hg.out; simp; omega) (fun j hj => by simp [Value.ownBlock] at hj)
  case neg =>
   have d3 : (k == 3) = false := by simp; exact e3
   rw [if_neg e3] at HJ
   clear e3
   go_wp2_with fail
   go_ret
   exact ⟨⟨none, 0, by rw [HJ.out]; rfl, by rw [HJ.out]; exact Rd.nil⟩, HB.out⟩
end Go.Proofs.YtdmdohjdmnmabaaGreatDoor
