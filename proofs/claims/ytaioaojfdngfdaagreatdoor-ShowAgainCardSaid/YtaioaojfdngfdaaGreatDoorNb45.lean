/- Parts of a chain of lemmas: RefIds, Jmp, Tgt, Con, SPgP. Conditions: those of each theorem. -/
import Derived.Test.YtaioaojfdngfdaaGreatDoorNb44
import Derived.Test.YtaioaojfdngfdaaGreatDoorNb09
import Derived.Test.YtaioaojfdngfdaaGreatDoorNb20
import Derived.Test.YtaioaojfdngfdaaGreatDoorNb43
set_option linter.unusedVariables false
set_option linter.unusedSimpArgs false
namespace Go.Proofs.YtaioaojfdngfdaaGreatDoor
open Go.RowKit
theorem insU_len (x : Int) (s : List Int) : (insU x s).length ≤ s.length + 1 := by
 induction s with
 | nil => simp [insU]
 | cons a r ih =>
  unfold insU
  by_cases h1 : a < x
  ·rw [if_pos h1]; simp; omega
  ·rw [if_neg h1]
   by_cases h2 : a = x
   ·rw [if_pos h2]; simp
   ·rw [if_neg h2]; simp
/-- where the loop of Ids stops, one is put -/
theorem insU_at (x : Int) : ∀ (s : List Int) (j : Nat), j ≤ s.length → (∀ i, i < j → nth s i < x) → (j < s.length → ¬ nth s j < x) →
 insU x s = if j = s.length ∨ nth s j ≠ x then s.take j ++ x :: s.drop j else s := by
 intro s
 induction s with
 | nil =>
  intro j hj h1 h2
  have : j = 0 := by simpa using hj
  subst this
  simp [insU]
 | cons a r ih =>
  intro j hj h1 h2
  cases j with
  | zero =>
   have h3 : ¬ a < x := by simpa [nth] using h2 (by simp)
   unfold insU
   rw [if_neg h3]
   by_cases h4 : a = x
   ·rw [if_pos h4, if_neg (by simp [nth, h4])]
   ·rw [if_neg h4, if_pos (by simp [nth, h4])]; rfl
  | succ j =>
   have h3 : a < x := by simpa [nth] using h1 0 (by omega)
   have hr := ih j (by simpa using hj) (fun i hi => by simpa [nth] using h1 (i + 1) (by omega)) (fun hl => by simpa [nth] using h2 (by simp; exact hl))
   unfold insU
   rw [if_pos h3, hr]
   have e : nth (a :: r) (j + 1) = nth r j := by simp [nth]
   rw [e]
   by_cases h4 : j = r.length ∨ nth r j ≠ x
   ·rw [if_pos h4, if_pos (by rcases h4 with h4 | h4 <;> simp [h4])]; simp
   ·rw [if_neg h4, if_neg (by intro h; exact h4 (by rcases h with h | h; · left; simpa using h
                                                    ·right; exact h))]
theorem fold_len (l : List Int) : (l.foldl (fun s x => insU x s) []).length ≤ l.length := by
 have : ∀ (l s : List Int), (l.foldl (fun s x => insU x s) s).length ≤ s.length + l.length := by
  intro l
  induction l with
  | nil => intro s; simp
  | cons a r ih => intro s; have := ih (insU a s); have := insU_len a s; simp; omega
 simpa using this l []
theorem own_int {w : World} {base n : Nat} {A : Option Addr} {c : Nat} {s : List Int} (h : w.ownsRow base 3 1 (.slice A n c) n (flat encI s)) (j : Nat) (hj : j < s.length) : ∃ g, A = some ⟨g, 0, none⟩ ∧ base ≤ g ∧ g < w.heap.size ∧ w.cell? ⟨g, j, none⟩ = some (.int .i64 (nth s j)) := by
 obtain ⟨b, o, hA, hm, hb, hc⟩ := (Rd.of_own (M := fun k => k < base) h (fun k hk => hk)).at_ (j := 0) (by rw [flat_encI, List.length_map]; omega)
 have ho : o = 0 := by
  rcases h.2 with ⟨hv, hn⟩ | ⟨g, cap, cur, hv, _⟩
  ·injection hv with h1; rw [h1] at hA; cases hA
  ·injection hv with h1; rw [h1] at hA; injection hA with hA; injection hA with _ h2; exact h2.symm
 subst ho
 refine ⟨b, hA, by omega, hb, ?_⟩
 have := hc j (by rw [flat_encI, List.length_map]; exact hj)
 rw [Nat.zero_add] at this
 rw [this, flat_encI, nth_of_lt hj]
 simp [hj]
theorem own_some {w : World} {base size n : Nat} {e : TypeId} {v : Value} {xs : List Value} (h : w.ownsRow base e size v n xs) (hn : 0 < n) : ∃ g c, v = .slice (some ⟨g, 0, none⟩) n c ∧ n ≤ c := by
 rcases h.2 with ⟨hv, h0⟩ | ⟨g, cap, cur, hv, _, _, hnc, _⟩
 ·omega
 ·exact ⟨g, cap, hv, hnc⟩
theorem own_bas {w : World} {base base' size n : Nat} {e : TypeId} {v : Value} {xs : List Value} (h : w.ownsRow base e size v n xs) (hb : base' ≤ base) : w.ownsRow base' e size v n xs := by
 obtain ⟨hl, h2⟩ := h
 refine ⟨hl, ?_⟩
 rcases h2 with ⟨hv, hn⟩ | ⟨g, cap, cur, hv, hg, r⟩
 ·exact Or.inl ⟨hv, hn⟩
 ·exact Or.inr ⟨g, cap, cur, hv, by omega, r⟩
theorem Rd.take_ {w : World} {M : Nat → Prop} {A : Option Addr} {xs : List Value} (h : Rd w M A xs) (n : Nat) : Rd w M A (xs.take n) := by
 rcases h with h | ⟨b, o, hA, hm, hb, hc⟩
 ·subst h; exact Or.inl (by simp)
 ·refine Or.inr ⟨b, o, hA, hm, hb, fun j hj => ?_⟩
  rw [List.length_take] at hj
  rw [hc j (by omega), List.getElem?_take, if_pos (by omega)]
theorem rd_drop {w : World} {M : Nat → Prop} {g : Nat} {xs : List Value} (h : Rd w M (some ⟨g, 0, none⟩) xs) (n : Nat) : Rd w M (some ⟨g, n, none⟩) (xs.drop n) := by
 rcases h with h | ⟨b, o, hA, hm, hb, hc⟩
 ·subst h; exact Or.inl (by simp)
 ·injection hA with hA
  injection hA with h1 h2 _
  subst h1; subst h2
  refine Or.inr ⟨g, n, rfl, hm, hb, fun j hj => ?_⟩
  rw [List.length_drop] at hj
  have := hc (n + j) (by omega)
  rw [Nat.zero_add] at this
  rw [this, List.getElem?_drop]
theorem encI_take (s : List Int) (j : Nat) : (flat encI s).take j = flat encI (s.take j) := by rw [flat_encI, flat_encI, List.map_take]
theorem encI_drop (s : List Int) (j : Nat) : (flat encI s).drop j = flat encI (s.drop j) := by rw [flat_encI, flat_encI, List.map_drop]
theorem encI_one (s : List Int) : ∀ u ∈ flat encI s, u.oneCell' = true := by
 intro u hu
 rw [flat_encI, List.mem_map] at hu
 obtain ⟨a, _, rfl⟩ := hu
 rfl
theorem encI_len (s : List Int) : (flat encI s).length = s.length := by rw [flat_encI, List.length_map]
theorem one_int (x : Int) : ∀ u ∈ encI x, u.oneCell' = true := by intro u hu; simp at hu; subst hu; rfl
theorem two_int (x y : Int) : ∀ u ∈ flat encI [x, y], u.oneCell' = true := encI_one _
set_option maxRecDepth 100000 in
set_option maxHeartbeats 6400000 in
theorem jumps_c (k : Int) (t : ByteArray) (n gt : Int) (A : Option Addr) (ar : List ArmM) (c : Nat) (x y : Int) (w : World) (hr : Rd w NoBlk A (flat encArm ar)) (hn : ar.length ≤ 1000) :
 Calls Tryz.prog 98 #[.agg #[.int .i64 k, .string t, .int .i64 n, .int .i64 gt, .slice A ar.length c, .int .i64 x, .int .i64 y]] w fun e w' => (∃ A1 c1, e = .returned (.slice A1 (jumpsL ⟨k, t, n, gt, ar, x, y⟩).length c1) ∧ Rd w' NoBlk A1 (flat encI (jumpsL ⟨k, t, n, gt, ar, x, y⟩))) ∧ Below w.heap.size w w' := by
 obtain ⟨m, hm⟩ : ∃ m, m = ar.length := ⟨_, rfl⟩
 obtain ⟨i0, hi, hz0, hz1, hz2⟩ := info_parts Tryz.infoI3
 obtain ⟨W, hW⟩ : ∃ W, W = w.alloc (.cells #[.int .i64 k, .string t, .int .i64 n, .int .i64 gt, .slice A ar.length c, .int .i64 x, .int .i64 y] 92) := ⟨_, rfl⟩
 obtain ⟨g, hg⟩ : ∃ g, g = w.heap.size := ⟨_, rfl⟩
 have HB := hide (show Below g w W by rw [hW, hg]; exact below_alloc _ _)
 have HG := hide (show Blk W g 92 #[.int .i64 k, .string t, .int .i64 n, .int .i64 gt, .slice A ar.length c, .int .i64 x, .int .i64 y] by rw [hW, hg]; exact Blk.new _ _ _)
 have hsz : W.heap.size = g + 1 := by rw [hW, hg]; simp
 have HR := hide (fun (w' : World) (kk : Below g w w') (i : Nat) (hi : i < m) => arm_cells (hr.below (by rw [← hg]; exact kk)) i (by rw [← hm]; exact hi))
 have HS := hide (show ∀ q, q < m → (ar.take (q + 1)).map (fun a => a.to) = (ar.take q).map (fun a => a.to) ++ [(armAt ar q).to] from fun q hq => by
  have hq' : q < ar.length := by rw [← hm]; exact hq
  have e : armAt ar q = ar[q] := by simp [armAt, List.getD, hq']
  rw [List.take_succ_eq_append_getElem hq', List.map_append, e]; rfl)
 have HT := hide (show ar.take m = ar by rw [hm, List.take_length])
 have HJ := hide (show jumpsL ⟨k, t, n, gt, ar, x, y⟩ = if k = 2 then ar.map (fun a => a.to) ++ [x, y] else if k = 3 then [gt] else [] from rfl)
 have HLm := hide (show (ar.map (fun a => a.to)).length = m by rw [List.length_map, hm])
 rw [← hm] at hn HG hW ⊢
 have c0 : W.cell? ⟨g, 0, none⟩ = some (.int .i64 k) := by rw [HG.out.cell]; rfl
 have c3 : W.cell? ⟨g, 3, none⟩ = some (.int .i64 gt) := by rw [HG.out.cell]; rfl
 have c4 : W.cell? ⟨g, 4, none⟩ = some (.slice A m c) := by rw [HG.out.cell]; rfl
 rw [← hg]
 have HW := hide hW
 have Hg := hide hg
 have Hz := hide hsz
 clear hr hW hg hm hsz
 go_enter Tryz.func98, Tryz.ntmps98
 go_upto_region 1 with fail
 change Code.wp _ _ _ _ (w.alloc (.cells #[.int .i64 k, .string t, .int .i64 n, .int .i64 gt, .slice A m c, .int .i64 x, .int .i64 y] 92))
 rw [← HW.out, ← Hg.out]
 by_cases e2 : k = 2
 case pos =>
  have d2 : (k == 2) = true := by simp; exact e2
  rw [if_pos e2] at HJ
  clear e2
  go_wp2_with fail
  go_loopw [3, 13] (fun v i wr => ∃ q : Nat, q ≤ m ∧ i = .int .i64 q ∧ wr.ownsRow (g + 1) 3 1 v q (flat encI ((ar.take q).map (fun a => a.to))) ∧ Hid (Below g w wr) ∧ Hid (Blk wr g 92 #[.int .i64 k, .string t, .int .i64 n, .int .i64 gt, .slice A m c, .int .i64 x, .int .i64 y])) (fun _ i _ => m - (intOf i).toNat)
  case atStart => exact ⟨0, Nat.zero_le _, rfl, ⟨rfl, Or.inl ⟨rfl, rfl⟩⟩, HB, HG⟩
  case round =>
   clear HB HG c0 c3 c4
   obtain ⟨q, hq, rfl, hown, HB, HG⟩ := hrel
   have w0 : IntKind.i64.wrap ((q : Int) + 1) = (q : Int) + 1 := IntWalk.i64_in _ (by omega)
   have HO := hide hown
   have hgl := HG.out.lt
   by_cases hlt : q < m
   case neg =>
    obtain rfl : q = m := by omega
    have d3 : decide ((q : Int) < (q : Int)) = false := by simp
    have d4 : decide (q < q) = false := by simp
    have c5 : wr.cell? ⟨g, 5, none⟩ = some (.int .i64 x) := by rw [HG.out.cell]; rfl
    have c6 : wr.cell? ⟨g, 6, none⟩ = some (.int .i64 y) := by rw [HG.out.cell]; rfl
    have HN := hide (show Rd (wr.alloc (.cells #[.int .i64 x, .int .i64 y] 3)) NoBlk (some ⟨wr.heap.size, 0, none⟩) (flat encI [x, y]) from rd_blkN (Blk.new _ _ _) (fun h => h))
    clear hown
    go_wp2_with (first
     | (at_builtin; refine wpList_append_rd _ rfl (.tmp 23) (.tmp 28) _ rfl (g + 1) 3 i0 _ 1 8 Tryz.underlying122 hi hz0 hz1 hz2 rfl (by omega) _ q _ rfl (HO.out.alloc _) NoBlk (some ⟨wr.heap.size, 0, none⟩) 2 2 (flat encI [x, y]) rfl HN.out rfl (two_int x y) (by simp only [maxLen]; omega) (by omega) (by simp; omega) ?_; intro v2 w2 hown2 hgr _; have Own2 := hide hown2; have Gr := hide hgr; clear hown2 hgr))
    go_ret
    obtain ⟨A2, c2, rfl, _⟩ := own_cap Own2.out
    refine ⟨⟨A2, c2, by rw [HJ.out, List.length_append, HLm.out]; rfl, ?_⟩, ?_⟩
    ·have := Rd.of_own (M := NoBlk) Own2.out (fun _ h => h.elim)
     rw [HT.out, ← flat_append] at this
     rw [HJ.out]
     exact this
    ·exact (HB.out.alloc (by have := HB.out.size; have := Hg.out; omega) _).grown Gr.out (by have := HB.out.size; have := Hg.out; simp; omega) (fun j hj => by have := own_ge HO.out j hj; omega)
   case pos =>
    have d3 : decide ((q : Int) < (m : Int)) = true := by simp; exact hlt
    have d4 : decide (q < m) = true := by simp; exact hlt
    have j1 : (0 : Int) ≤ (q : Int) := by omega
    have j2 : (q : Int) < (m : Int) := by omega
    obtain ⟨ab, ao, hA, hab, a0, a1⟩ := HR.out _ HB.out q hlt
    have HA := hide hA
    have HSq := hide (HS.out q hlt)
    obtain ⟨u, hu⟩ : ∃ u, u = armAt ar q := ⟨_, rfl⟩
    rw [← hu] at a0 a1 HSq
    clear hu
    subst hA
    have HN := hide (show Rd ((wr.alloc (.cells #[.string u.pat, .int .i64 u.to] 94)).alloc (.cells #[.int .i64 u.to] 3)) NoBlk (some ⟨wr.heap.size + 1, 0, none⟩) (encI u.to) from rd_blkN (Blk.new' (by simp)) (fun h => h))
    have HBn := hide (show Blk ((wr.alloc (.cells #[.string u.pat, .int .i64 u.to] 94)).alloc (.cells #[.int .i64 u.to] 3)) g 92 #[.int .i64 k, .string t, .int .i64 n, .int .i64 gt, .slice (some ⟨ab, ao, none⟩) m c, .int .i64 x, .int .i64 y] from (HG.out.alloc _).alloc _)
    clear hown
    go_wp2_with (first
     | (at_builtin; refine wpList_append_rd _ rfl (.tmp 17) (.tmp 20) _ rfl (g + 1) 3 i0 _ 1 8 Tryz.underlying122 hi hz0 hz1 hz2 rfl (by omega) _ q _ rfl ((HO.out.alloc _).alloc _) NoBlk (some ⟨wr.heap.size + 1, 0, none⟩) 1 1 (encI u.to) rfl HN.out rfl (one_int u.to) (by simp only [maxLen]; omega) (by omega) (by simp; omega) ?_; intro v2 w2 hown2 hgr _; have Own2 := hide hown2; have Gr := hide hgr; clear hown2 hgr))
    have HB2 := hide (show Below g w w2 from ((HB.out.alloc (by have := HB.out.size; have := Hg.out; omega) _).alloc (by have := HB.out.size; have := Hg.out; simp; omega) _).grown Gr.out (by have := HB.out.size; have := Hg.out; simp; omega) (fun j hj => by have := own_ge HO.out j hj; omega))
    have HG2 := hide (show Blk w2 g 92 #[.int .i64 k, .string t, .int .i64 n, .int .i64 gt, .slice (some ⟨ab, ao, none⟩) m c, .int .i64 x, .int .i64 y] from Blk.grown HBn.out ((HO.out.alloc _).alloc _) (by decide) Gr.out)
    go_roundw
    case rel => exact ⟨q + 1, by omega, by go_num, by rw [HSq.out, flat_append]; have := Own2.out; simpa [flat] using this, HB2, HG2⟩
    case measure => simp [intOf]; omega
 case neg =>
  have d2 : (k == 2) = false := by simp; exact e2
  rw [if_neg e2] at HJ
  clear e2
  by_cases e3 : k = 3
  case pos =>
   have d3 : (k == 3) = true := by simp; exact e3
   rw [if_pos e3] at HJ
   clear e3
   have HN := hide (show Rd (W.alloc (.cells #[.int .i64 gt] 3)) NoBlk (some ⟨W.heap.size, 0, none⟩) (encI gt) from rd_blkN (Blk.new _ _ _) (fun h => h))
   have HO := hide (show (W.alloc (.cells #[.int .i64 gt] 3)).ownsRow (g + 1) 3 1 (.slice none 0 0) 0 [] from ⟨rfl, Or.inl ⟨rfl, rfl⟩⟩)
   go_wp2_with (first
    | (at_builtin; refine wpList_append_rd _ rfl (.tmp 32) (.tmp 35) _ rfl (g + 1) 3 i0 _ 1 8 Tryz.underlying122 hi hz0 hz1 hz2 rfl (by omega) (.slice none 0 0) 0 [] rfl HO.out NoBlk (some ⟨W.heap.size, 0, none⟩) 1 1 (encI gt) rfl HN.out rfl (one_int gt) (by simp only [maxLen]; omega) (by omega) (by have := Hz.out; simp; omega) ?_; intro v2 w2 hown2 hgr _; have Own2 := hide hown2; have Gr := hide hgr; clear hown2 hgr))
   go_ret
   obtain ⟨A2, c2, rfl, _⟩ := own_cap Own2.out
   refine ⟨⟨A2, c2, by rw [HJ.out]; rfl, ?_⟩, ?_⟩
   ·have := Rd.of_own (M := NoBlk) Own2.out (fun _ h => h.elim)
    rw [HJ.out]
    simpa [flat] using this
   ·exact (HB.out.alloc (by have := HB.out.size; have := Hg.out; omega) _).grown Gr.out (by have := HB.out.size; have := Hg.out; simp; omega) (fun j hj => by simp [Value.ownBlock] at hj)
  case neg =>
   have d3 : (k == 3) = false := by simp; exact e3
   rw [if_neg e3] at HJ
   clear e3
   go_wp2_with fail
   go_ret
   exact ⟨⟨none, 0, by rw [HJ.out]; rfl, by rw [HJ.out]; exact Rd.nil⟩, HB.out⟩
end Go.Proofs.YtaioaojfdngfdaaGreatDoor
namespace Go.Proofs.YtaioaojfdngfdaaGreatDoor
open Go.RowKit Go.Sort
theorem jumps_len (o : OpM) : (jumpsL o).length ≤ o.arms.length + 2 := by
 unfold jumpsL
 split
 ·simp
 split <;> simp
theorem jmps_succ (l : List OpV) (q : Nat) (h : q < l.length) : jmpsL ((l.take (q + 1)).map (·.o)) = jmpsL ((l.take q).map (·.o)) ++ jumpsL (opAt l q).o := by
 have e : opAt l q = l[q] := by simp [opAt, List.getD, h]
 rw [List.take_succ_eq_append_getElem h, ← e]
 simp [jmpsL]
theorem OpsRd.bel {w w' : World} {B : Nat} {A : Option Addr} {L : List OpV} (h : OpsRd w NoBlk A L) (hB : B = w.heap.size) (k : Below B w w') : OpsRd w' NoBlk A L := by subst hB; exact h.only (Only.of_below k NoBlk) (fun _ h => h)
set_option maxRecDepth 100000 in
set_option maxHeartbeats 6400000 in
theorem Targets_c (s : ByteArray) (d j : Int) (PA : Option Addr) (pc : Nat) (L : List OpV) (w : World) (hr : OpsRd w NoBlk PA L) (hn : L.length ≤ 1000) (ha : ∀ v ∈ L, v.o.arms.length ≤ 100) :
 Calls Tryz.prog 62 #[.agg #[.string s, .int .i64 d, .int .i64 j, .slice PA L.length pc]] w fun e w' => (∃ A1 c1, e = .returned (.slice A1 (tgts (L.map (·.o))).length c1) ∧ Rd w' NoBlk A1 (flat encI (tgts (L.map (·.o)))) ∧ (tgts (L.map (·.o)) = [] ∨ ∃ g2, A1 = some ⟨g2, 0, none⟩ ∧ w.heap.size ≤ g2 ∧ Ty w' g2)) ∧ Below w.heap.size w w' := by
 obtain ⟨i0, hi, hz0, hz1, hz2⟩ := info_parts Tryz.infoI3
 obtain ⟨W, hW⟩ : ∃ W, W = w.alloc (.cells #[.string s, .int .i64 d, .int .i64 j, .slice PA L.length pc] 25) := ⟨_, rfl⟩
 obtain ⟨g, hg⟩ : ∃ g, g = w.heap.size := ⟨_, rfl⟩
 have HB := hide (show Below g w W by rw [hW, hg]; exact below_alloc _ _)
 have HG := hide (show Blk W g 25 #[.string s, .int .i64 d, .int .i64 j, .slice PA L.length pc] by rw [hW, hg]; exact Blk.new _ _ _)
 have HRo := hide (fun (w' : World) (kk : Below g w w') (i : Nat) (hi : i < L.length) => op_cells (hr.bel hg kk).1 i hi)
 have HJ := hide (fun (w' : World) (kk : Below g w w') (i : Nat) (hi : i < L.length) => jumps_c (opAt L i).o.kind (opAt L i).o.text (opAt L i).o.n (opAt L i).o.to (opAt L i).A (opAt L i).o.arms (opAt L i).c (opAt L i).o.onT (opAt L i).o.onE w' ((hr.bel hg kk).2 _ (opAt_mem hi)) (by have := ha _ (opAt_mem hi); omega))
 have HS := hide (jmps_succ L)
 have HJl := hide (fun (i : Nat) (hi : i < L.length) => show (jumpsL (opAt L i).o).length ≤ 102 by have := jumps_len (opAt L i).o; have := ha _ (opAt_mem hi); omega)
 have HTk := hide (show jmpsL ((L.take L.length).map (·.o)) = jmpsL (L.map (·.o)) by rw [List.take_length])
 have HTg := hide (show tgts (L.map (·.o)) = uniq (keepL ngB (jmpsL (L.map (·.o)))) from rfl)
 obtain ⟨T, hT⟩ : ∃ T, T = tgts (L.map (·.o)) := ⟨_, rfl⟩
 obtain ⟨m, hm⟩ : ∃ m, m = L.length := ⟨_, rfl⟩
 rw [← hT] at HTg ⊢
 rw [← hm] at hn HG hW HRo HJ HS HJl HTk ⊢
 rw [← hg]
 have c3 : W.cell? ⟨g, 3, none⟩ = some (.slice PA m pc) := by rw [HG.out.cell]; rfl
 have HW := hide hW
 have Hg := hide hg
 clear hr hW hg hm ha hT
 go_enter Tryz.func62, Tryz.ntmps62
 go_upto_region 1 with fail
 change Code.wp _ _ _ _ (w.alloc (.cells #[.string s, .int .i64 d, .int .i64 j, .slice PA m pc] 25))
 rw [← HW.out, ← Hg.out]
 go_wp2_with fail
 go_loopw [3, 9] (fun v i wr => ∃ q mm : Nat, q ≤ m ∧ mm ≤ 102 * q ∧ i = .int .i64 q ∧ Hid ((jmpsL ((L.take q).map (·.o))).length = mm) ∧ Hid (wr.ownsRow (g + 1) 3 1 v mm (flat encI (jmpsL ((L.take q).map (·.o))))) ∧ Hid (Below g w wr) ∧ Hid (Blk wr g 25 #[.string s, .int .i64 d, .int .i64 j, .slice PA m pc])) (fun _ i _ => m - (intOf i).toNat)
 case atStart => exact ⟨0, 0, Nat.zero_le _, Nat.zero_le _, rfl, hide rfl, hide ⟨rfl, Or.inl ⟨rfl, rfl⟩⟩, HB, HG⟩
 case round =>
  clear HB HG c3
  obtain ⟨q, mm, hq, hmm, rfl, HLn, HO, HB, HG⟩ := hrel
  have w0 : IntKind.i64.wrap ((q : Int) + 1) = (q : Int) + 1 := IntWalk.i64_in _ (by omega)
  by_cases hlt : q < m
  case pos =>
   have d3 : decide ((q : Int) < (m : Int)) = true := by simp; exact hlt
   have d4 : decide (q < m) = true := by simp; exact hlt
   have j1 : (0 : Int) ≤ (q : Int) := by omega
   have j2 : (q : Int) < (m : Int) := by omega
   obtain ⟨ab, ao, hA, hab, a0, a1, a2, a3, a4, a5, a6⟩ := HRo.out _ HB.out q hlt
   have HSq := hide (HS.out q hlt)
   have HJq := hide (fun (w' : World) (kk : Below g w w') => HJ.out w' kk q hlt)
   have hjl := HJl.out q hlt
   obtain ⟨u, hu⟩ : ∃ u, u = opAt L q := ⟨_, rfl⟩
   rw [← hu] at a0 a1 a2 a3 a4 a5 a6 HSq HJq hjl
   have HA := hide hA
   subst hA
   clear hu
   obtain ⟨⟨uk, ut, un, ug, ua, ux, uy⟩, uA, uc⟩ := u
   simp only at a0 a1 a2 a3 a4 a5 a6 HSq HJq hjl
   obtain ⟨JL, hJL⟩ : ∃ JL, JL = jumpsL ⟨uk, ut, un, ug, ua, ux, uy⟩ := ⟨_, rfl⟩
   rw [← hJL] at HSq HJq hjl
   obtain ⟨un9, hun9⟩ : ∃ un9, un9 = ua.length := ⟨_, rfl⟩
   rw [← hun9] at a4 HJq
   clear hJL hun9
   have HB1 := hide (show Below g w (wr.alloc (.cells #[.int .i64 uk, .string ut, .int .i64 un, .int .i64 ug, .slice uA un9 uc, .int .i64 ux, .int .i64 uy] 92)) from HB.out.alloc (by have := HB.out.size; have := Hg.out; omega) _)
   have HO1 := hide (HO.out.alloc (.cells #[.int .i64 uk, .string ut, .int .i64 un, .int .i64 ug, .slice uA un9 uc, .int .i64 ux, .int .i64 uy] 92))
   have HG1 := hide (HG.out.alloc (.cells #[.int .i64 uk, .string ut, .int .i64 un, .int .i64 ug, .slice uA un9 uc, .int .i64 ux, .int .i64 uy] 92))
   go_wp2_with fail
   refine (HJq.out _ HB1.out).mono ?_
   rintro e w2 ⟨⟨A1, c1, rfl, hr1⟩, hb1⟩
   have HB2 := hide (HB1.out.trans (hb1.mono (by have := HB1.out.size; have := Hg.out; omega)))
   have HO2 := hide (own_only HO1.out (Only.of_below hb1 NoBlk) (fun _ _ h => h.elim))
   have HG2 := hide (HG1.out.below hb1)
   have HR1 := hide hr1
   have hbs : g + 1 ≤ w2.heap.size := by have := HG2.out.lt; omega
   clear hb1 hr1
   go_wp2_with (first
    | (at_builtin; refine wpList_append_rd _ rfl (.tmp 13) (.tmp 15) _ rfl (g + 1) 3 i0 _ 1 8 Tryz.underlying122 hi hz0 hz1 hz2 rfl (by omega) _ mm _ rfl HO2.out NoBlk A1 JL.length c1 (flat encI JL) rfl HR1.out (by rw [encI_len, Nat.mul_one]) (encI_one JL) (by simp only [maxLen]; omega) (by omega) hbs ?_; intro v3 w3 hown3 hgr _; have Own3 := hide hown3; have Gr := hide hgr; clear hown3 hgr))
   have HB3 := hide (HB2.out.grown Gr.out (by have := HB2.out.size; have := Hg.out; omega) (fun j hj => by have := own_ge HO2.out j hj; omega))
   have HG3 := hide (Blk.grown HG2.out HO2.out (by decide) Gr.out)
   have HL3 := hide (show (jmpsL ((L.take (q + 1)).map (·.o))).length = mm + JL.length by rw [HSq.out, List.length_append, HLn.out])
   have HO3 := hide (show w3.ownsRow (g + 1) 3 1 v3 (mm + JL.length) (flat encI (jmpsL ((L.take (q + 1)).map (·.o)))) by rw [HSq.out, flat_append]; exact Own3.out)
   go_roundw
   case rel => exact ⟨q + 1, mm + JL.length, by omega, by omega, by go_num, HL3, HO3, HB3, HG3⟩
   case measure => simp [intOf]; omega
  case neg =>
   obtain rfl : q = m := by omega
   have d3 : decide ((q : Int) < (q : Int)) = false := by simp
   have d4 : decide (q < q) = false := by simp
   rw [HTk.out] at HLn HO
   obtain ⟨J, hJ⟩ : ∃ J, J = jmpsL (L.map (·.o)) := ⟨_, rfl⟩
   rw [← hJ] at HLn HO HTg
   clear hJ
   obtain ⟨A1, c1, rfl, hcap⟩ := own_cap HO.out
   have hd := DeleteI_c (g + 1) J (.slice A1 mm c1) wr (by have := HG.out.lt; omega) (by have := HO.out; rw [← HLn.out] at this ⊢; exact this) (by rw [HLn.out]; omega)
   obtain ⟨K, hK⟩ : ∃ K, K = keepL ngB J := ⟨_, rfl⟩
   have hKl : K.length ≤ mm := by rw [hK, ← HLn.out]; exact keep_le _ _
   rw [← hK] at hd HTg
   have HD := hide hd
   clear hd hK
   go_wp2_with fail
   refine HD.out.mono ?_
   rintro e w2 ⟨⟨A2, c2, rfl, hrow⟩, hb2⟩
   have HB2 := hide (HB.out.trans (hb2.mono (Nat.le_succ g)))
   clear hb2
   rcases hrow with h0 | ⟨g2, rfl, hgb, hgl, hH, hcl, hty⟩
   ·subst h0
    have H1 := hide (Any.slices_Sort_int_none Tryz.laysSort A2 c2 w2)
    have H2 := hide (Any.slices_Compact_int_empty Tryz.laysCompact A2 c2 w2)
    have HE := hide (show T = [] by rw [HTg.out]; exact compact_nil)
    go_wp2_with fail
    refine H1.out.mono ?_
    rintro e w3 ⟨rfl, rfl⟩
    go_wp2_with fail
    refine H2.out.mono ?_
    rintro e w4 ⟨rfl, rfl⟩
    go_wp2_with fail
    go_ret
    exact ⟨⟨A2, c2, by rw [HE.out]; rfl, by rw [HE.out]; exact Rd.nil, Or.inl HE.out⟩, HB2.out⟩
   ·obtain ⟨S, hS⟩ : ∃ S, S = K.mergeSort fun x y => decide (x ≤ y) := ⟨_, rfl⟩
    have hSl : S.length = K.length := by rw [hS, List.length_mergeSort]
    have h1 := sortI_c g2 0 c2 K w2 hH hgl (by omega)
    rw [← hS] at h1
    have HTs := hide (show T = Lib.compact S by rw [HTg.out, hS]; rfl)
    have H1 := hide h1
    have HS' := hide hSl
    have HH := hide hH
    have HTy := hide hty
    clear h1 hSl hH hS hty HTg
    go_wp2_with fail
    refine H1.out.mono ?_
    rintro e w3 ⟨rfl, q3, os, rfl⟩
    have hH2 : Holds (Value.int .i64) (grow (putRow (Value.int .i64) (Sort.ahead w2 q3) g2 0 S.toArray) os) g2 0 S.toArray := holds_grow _ _ _ _ _ _ (by simpa using hgl) (holds_putRow _ _ _ _ _ _ (holds_ahead _ _ _ _ _ _ HH.out) (by simp [HS'.out]))
    have b2 : Below g w (grow (putRow (Value.int .i64) (Sort.ahead w2 q3) g2 0 S.toArray) os) := below_grow (below_putRow (below_ahead HB2.out q3) (by omega) _) (by have := HB2.out.size; have := Hg.out; simp; omega) os
    have hl2 : g2 < (grow (putRow (Value.int .i64) (Sort.ahead w2 q3) g2 0 S.toArray) os).heap.size := by simp [grow]; omega
    have ht2 : Ty (grow (putRow (Value.int .i64) (Sort.ahead w2 q3) g2 0 S.toArray) os) g2 := Ty.grow (Ty.map (Ty.ahead HTy.out q3) _) os
    generalize grow (putRow (Value.int .i64) (Sort.ahead w2 q3) g2 0 S.toArray) os = w3 at hH2 b2 hl2 ht2 ⊢
    have h2 := compactI_c g2 0 c2 S w3 hH2 (by rw [HS'.out]; omega) (by rw [HS'.out]; exact hcl)
    rw [HS'.out] at h2
    have H2 := hide h2
    have HH2 := hide hH2
    have HB3 := hide b2
    have HL2 := hide hl2
    have HT3 := hide ht2
    clear h2 hH2 b2 hl2 ht2
    go_wp2_with fail
    refine H2.out.mono ?_
    rintro e w4 ⟨rfl, q2, rfl⟩
    go_wp2_with fail
    go_ret
    rw [HTs.out]
    refine ⟨⟨some ⟨g2, 0, none⟩, c2, rfl, Or.inr ⟨g2, 0, rfl, (fun h => h.elim), by simpa using HL2.out, fun j hj => ?_⟩, Or.inr ⟨g2, rfl, by omega, Ty.map (Ty.ahead HT3.out _) _⟩⟩, below_putRow (below_ahead HB3.out _) (by omega) _⟩
    have hj' : j < (Lib.compact S).length := by rw [flat_encI, List.length_map] at hj; exact hj
    have hle := compact_le S
    rw [cell?_putRow _ _ _ _ S.toArray _ (holds_ahead _ _ _ _ _ _ HH2.out) (by have := HS'.out; simp; omega) j (by have := HS'.out; simp; omega), flat_encI]
    simp [hj', List.getElem?_append_left hj']
end Go.Proofs.YtaioaojfdngfdaaGreatDoor
namespace Go.Proofs.YtaioaojfdngfdaaGreatDoor
open Go.RowKit Go.Sort
theorem int_cells {w : World} {M : Nat → Prop} {A : Option Addr} {l : List Int} (hr : Rd w M A (flat encI l)) (k : Nat) (hk : k < l.length) : ∃ b o, A = some ⟨b, o, none⟩ ∧ w.cell? ⟨b, o + k, none⟩ = some (.int .i64 (l.getD k 0)) := by
 obtain ⟨b, o, hA, _, _, hc⟩ := hr.at_ (j := k) (by rw [encI_len]; exact hk)
 refine ⟨b, o, hA, ?_⟩
 rw [hc k (by rw [encI_len]; exact hk), flat_encI]
 simp [List.getD, hk]
theorem indexN_c (A : Option Addr) (c : Nat) (x : Int) (w : World) : Calls Tryz.prog 103 #[.slice A 0 c, .int .i64 x] w fun e w' => e = .returned (.int .i64 (-1)) ∧ w' = w := by
 go_enter Tryz.func103, Tryz.ntmps103
 go_wp2_with fail
 go_loopw [8] (fun i wr => i = .int .i64 0 ∧ Hid (wr = w)) (fun i _ => 0)
 case atStart => exact ⟨rfl, hide rfl⟩
 case round =>
  obtain ⟨rfl, h⟩ := hrel
  have d1 : decide ((0 : Int) < 0) = false := by simp
  go_wp2_with fail
  go_ret
  exact ⟨rfl, h.out⟩
theorem hasN_c (A : Option Addr) (c : Nat) (x : Int) (w : World) : Calls Tryz.prog 63 #[.slice A 0 c, .int .i64 x] w fun e w' => e = .returned (.bool false) ∧ w' = w := by
 have H := hide (indexN_c A c x w)
 go_enter Tryz.func63, Tryz.ntmps63
 go_wp2_with fail
 refine H.out.mono ?_
 rintro e w2 ⟨rfl, rfl⟩
 go_wp2_with fail
 go_ret
 exact ⟨rfl, rfl⟩
theorem contains_c (A : Option Addr) (c : Nat) (l : List Int) (x : Int) (w : World) (hr : Rd w NoBlk A (flat encI l)) (hn : l.length ≤ 1000000) :
 Calls Tryz.prog 63 #[.slice A l.length c, .int .i64 x] w fun e w' => e = .returned (.bool (decide (x ∈ l))) ∧ w' = w := by
 cases l with
 | nil =>
  refine (hasN_c A c x w).mono ?_
  rintro e w2 ⟨rfl, rfl⟩
  exact ⟨by simp, rfl⟩
 | cons a r =>
  obtain ⟨b, o, rfl, _⟩ := int_cells hr 0 (by simp)
  have h := Tryz.slices_Contains_int b o (a :: r).length c (a :: r) x w (Nat.le_refl _) (by omega) (fun j hj => by
   obtain ⟨b2, o2, hA, hc⟩ := int_cells hr j hj
   injection hA with hA
   injection hA with h1 h2 _
   subst h1; subst h2
   exact hc)
  refine h.mono ?_
  rintro e w2 ⟨rfl, rfl⟩
  refine ⟨?_, rfl⟩
  rw [List.take_length, List.contains_eq_mem]
end Go.Proofs.YtaioaojfdngfdaaGreatDoor
namespace Go.Proofs.YtaioaojfdngfdaaGreatDoor
open Go.RowKit Go.Sort
theorem Tab.only {w w' : World} (h : Tab w) (k : Only NoBlk w w') : Tab w' := by
 unfold Tab Lib.TabIs World.var? at *
 cases hg : Tryz.prog.globalNamed "internal/strconv.uint64pow10" with
 | none => rw [hg] at h; simp at h
 | some g =>
  rw [hg] at h
  simp only [Option.bind_some] at h ⊢
  have hlt : g < w.heap.size := by
   rcases Nat.lt_or_ge g w.heap.size with hl | hl
   ·exact hl
   ·rw [Array.getElem?_eq_none hl] at h; cases h
  rw [k.block g hlt (fun h => h)]
  exact h
theorem tgts_len (l : List OpM) : (tgts l).length ≤ (jmpsL l).length := by
 unfold tgts uniq
 refine Nat.le_trans (compact_le _) ?_
 rw [List.length_mergeSort]
 exact List.length_filter_le _ _
theorem jmps_len {l : List OpM} (h : ∀ o ∈ l, o.arms.length ≤ 100) : (jmpsL l).length ≤ 102 * l.length := by
 induction l with
 | nil => simp [jmpsL]
 | cons o r ih =>
  have h1 := ih (fun x hx => h x (List.mem_cons_of_mem _ hx))
  have h2 := jumps_len o
  have h3 := h o (by simp)
  unfold jmpsL at h1 ⊢
  rw [List.flatMap_cons, List.length_append, List.length_cons]
  omega
theorem head_len {p : ProgM} (h : goodM p = true) : (headT p).length ≤ 100 := by
 obtain ⟨h1, h2, h3, h4, h5⟩ := head_facts h
 have e1 := tk_len h1.2
 have e2 := itoa_len (n := p.jumps) (by omega) (by omega)
 have e3 : p.name.data.toList.length = p.name.size := by simp
 unfold headT lineT wordsT
 simp
 simp at e3
 omega
theorem atT_at (f : OpM → List UInt8) (L : List OpV) (q : Nat) (h : q < L.length) : atT f (L.map (·.o)) q = f (opAt L q).o := by
 unfold atT
 rw [List.getElem?_map, opAt_some h]
 rfl
theorem atT_end (f : OpM → List UInt8) (L : List OpV) : atT f (L.map (·.o)) L.length = [] := by
 unfold atT
 rw [List.getElem?_eq_none (by simp)]
/-- the row of the ops to which a script jumps stays, while a text is built -/
theorem tgt_keep {B b : Nat} {l0 : List UInt8} {w w5 : World} {A : Option Addr} {T : List Int} (h0 : Bo B b l0 w w5) (hR : Rd w5 NoBlk A (flat encI T)) (hT : T = [] ∨ ∃ g2, A = some ⟨g2, 0, none⟩ ∧ Ty w5 g2) (l : List UInt8) (w' : World) (h : Bo B b l w5 w') : Rd w' NoBlk A (flat encI T) := by
 rcases hT with rfl | ⟨g2, rfl, cs, hb⟩
 ·exact Rd.nil
 ·have hb' := h0.blk h hb (by decide) (by decide)
  rcases hR with h1 | ⟨g3, o, hA, hm, hl, hc⟩
  ·exact Or.inl h1
  ·injection hA with hA
   injection hA with e1 e2 _
   subst e1; subst e2
   refine Or.inr ⟨g2, 0, rfl, hm, hb'.lt, fun j hj => ?_⟩
   rw [hb'.cell, ← hb.cell]
   exact hc j hj
theorem prog_good {s : ByteArray} {d j : Int} {L : List OpV} (h : goodM (progM s d j L) = true) : InI d ∧ 0 ≤ j ∧ j ≤ 1000 ∧ L.length ≤ 200 ∧ s.size ≤ 16 ∧ ∀ v ∈ L, OpW v.o := by
 obtain ⟨h1, h2, h3, h4, h5⟩ := head_facts h
 refine ⟨h1, h2, h3, by simpa [progM] using h4, h5, fun v hv => ops_good h _ ?_⟩
 show v.o ∈ L.map (·.o)
 exact List.mem_map.2 ⟨v, hv, rfl⟩
end Go.Proofs.YtaioaojfdngfdaaGreatDoor
