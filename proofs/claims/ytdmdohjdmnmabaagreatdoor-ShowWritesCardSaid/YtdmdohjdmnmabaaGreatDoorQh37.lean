/- Parts of a chain of lemmas: Con, SPgP, SOp. Conditions: those of each theorem. -/
import Derived.Test.YtdmdohjdmnmabaaGreatDoorQh36
import Derived.Test.YtdmdohjdmnmabaaGreatDoorQh24
import Derived.Deep.RegionHeld3
namespace Go.Proofs.YtdmdohjdmnmabaaGreatDoor
open Go.RowKit Go.Sort
set_option linter.unusedVariables false
set_option linter.unusedSimpArgs false

theorem int_cells {w : World} {M : Nat → Prop} {A : Option Addr} {l : List Int} (hr : Rd w M A (flat encI l)) (k : Nat) (hk : k < l.length) : ∃ b o, A = some ⟨b, o, none⟩ ∧ w.cell? ⟨b, o + k, none⟩ = some (.int .i64 (l.getD k 0)) := by
 obtain ⟨b, o, hA, _, _, hc⟩ := hr.at_ (j := k) (by rw [encI_len]; exact hk)
 refine ⟨b, o, hA, ?_⟩
 rw [hc k (by rw [encI_len]; exact hk), flat_encI]
 simp [List.getD, hk]
theorem indexN_c (A : Option Addr) (c : Nat) (x : Int) (w : World) : Calls Tryz.prog 61 #[.slice A 0 c, .int .i64 x] w fun e w' => e = .returned (.int .i64 (-1)) ∧ w' = w := by
 go_enter Tryz.func61, Tryz.ntmps61
 go_wp2_with fail
 go_loopw [8] (fun i wr => i = .int .i64 0 ∧ Hid (wr = w)) (fun i _ => 0)
 case atStart => exact ⟨rfl, hide rfl⟩
 case round =>
  obtain ⟨rfl, h⟩ := hrel
  have d1 : decide ((0 : Int) < 0) = false := by simp
  go_wp2_with fail
  go_ret
  exact ⟨rfl, h.out⟩
theorem hasN_c (A : Option Addr) (c : Nat) (x : Int) (w : World) : Calls Tryz.prog 29 #[.slice A 0 c, .int .i64 x] w fun e w' => e = .returned (.bool false) ∧ w' = w := by
 have H := hide (indexN_c A c x w)
 go_enter Tryz.func29, Tryz.ntmps29
 go_wp2_with fail
 refine H.out.mono ?_
 rintro e w2 ⟨rfl, rfl⟩
 go_wp2_with fail
 go_ret
 exact ⟨rfl, rfl⟩
theorem contains_c (A : Option Addr) (c : Nat) (l : List Int) (x : Int) (w : World) (hr : Rd w NoBlk A (flat encI l)) (hn : l.length ≤ 1000000) :
 Calls Tryz.prog 29 #[.slice A l.length c, .int .i64 x] w fun e w' => e = .returned (.bool (decide (x ∈ l))) ∧ w' = w := by
 cases l with
 | nil =>
  refine (hasN_c A c x w).mono ?_
  rintro e w2 ⟨rfl, rfl⟩
  exact ⟨by simp, rfl⟩
 | cons a r =>
  obtain ⟨b, o, rfl, _⟩ := int_cells hr 0 (by simp)
  have h := Tryz.slices_Contains_int b o (a :: r).length c (a :: r) x w (Nat.le_refl _) (by omega) (fun j hj => by
   obtain ⟨b2, o2, hA, hc⟩ := int_cells hr j hj
   injection hA with hA
   injection hA with h1 h2 _
   subst h1; subst h2
   exact hc)
  refine h.mono ?_
  rintro e w2 ⟨rfl, rfl⟩
  refine ⟨?_, rfl⟩
  rw [List.take_length, List.contains_eq_mem]
set_option maxRecDepth 100000 in
set_option maxHeartbeats 1600000 in
theorem find_c (A : Option Addr) (c : Nat) (l : List Int) (x : Int) (w : World) (hr : Rd w NoBlk A (flat encI l)) (hn : l.length ≤ 1000000) :
 Calls Tryz.prog 37 #[.slice A l.length c, .int .i64 x] w fun e w' => (∃ f, e = .returned (.int .i64 f) ∧ decide (0 ≤ f) = decide (x ∈ l)) ∧ w' = w := by
 have Hc := hide (fun k hk => int_cells hr k hk)
 have HSc := hide (show ∀ k, k < l.length → l.getD k 0 ≠ x → (∀ y ∈ l.take k, y ≠ x) → ∀ y ∈ l.take (k + 1), y ≠ x from fun k hk hx hno y hy => by
  rw [List.take_succ_eq_append_getElem hk] at hy
  rcases List.mem_append.1 hy with hy | hy
  ·exact hno y hy
  ·simp at hy
   subst hy
   simpa [List.getD, hk] using hx)
 have HIn := hide (show ∀ k, k < l.length → l.getD k 0 = x → x ∈ l from fun k hk hx => by
  rw [← hx]; simp [List.getD, hk])
 have HNo := hide (show (∀ y ∈ l.take l.length, y ≠ x) → ¬ x ∈ l from fun h hx => h x (by rw [List.take_length]; exact hx) rfl)
 obtain ⟨P, hP⟩ : ∃ P : Prop, P = (x ∈ l) := ⟨_, rfl⟩
 obtain ⟨n, hnl⟩ : ∃ n, n = l.length := ⟨_, rfl⟩
 rw [← hnl] at hn Hc HSc HIn HNo ⊢
 clear hr hnl
 go_enter Tryz.func37, Tryz.ntmps37
 go_wp2_with fail
 go_loopw [5] (fun i wr => ∃ k : Nat, k ≤ n ∧ i = .int .i64 k ∧ Hid (∀ y ∈ l.take k, y ≠ x) ∧ Hid (wr = w)) (fun i _ => n - (intOf i).toNat)
 case atStart => exact ⟨0, Nat.zero_le _, rfl, hide (by simp), hide rfl⟩
 case round =>
  obtain ⟨k, hk, rfl, hno, hw⟩ := hrel
  have w1 : IntKind.i64.wrap ((k : Int) + 1) = (k : Int) + 1 := IntWalk.i64_in _ (by omega)
  by_cases hlt : k < n
  ·obtain ⟨b2, o, rfl, g0⟩ := Hc.out k hlt
   rw [hw.out]
   have HS := hide (HSc.out k hlt)
   have HI := hide (HIn.out k hlt)
   have d1 : decide ((k : Int) < (n : Int)) = true := by simp; exact hlt
   have d2 : decide (k < n) = true := by simp; exact hlt
   have j1 : (0 : Int) ≤ (k : Int) := by omega
   have j2 : (k : Int) < (n : Int) := by omega
   obtain ⟨u, hu⟩ : ∃ u, u = l.getD k 0 := ⟨_, rfl⟩
   rw [← hu] at g0 HS HI
   clear hu hw
   by_cases e : u = x
   case pos =>
    have d3 : (u == x) = true := by simp; exact e
    have HF := hide (HI.out e)
    go_wp2_with fail
    go_ret
    exact ⟨⟨(k : Int), rfl, by rw [decide_eq_true HF.out]; simp⟩, rfl⟩
   case neg =>
    have d3 : (u == x) = false := by simp; exact e
    have HF := hide (HS.out e hno.out)
    clear e
    go_wp2_with fail
    go_roundw
    case rel => exact ⟨k + 1, by omega, by go_num, HF, hide (by first | rfl | trivial)⟩
    case measure => simp [intOf]; omega
  ·obtain rfl : k = n := by omega
   have d1 : decide ((k : Int) < (k : Int)) = false := by simp
   have d2 : decide (k < k) = false := by simp
   have HF := hide (HNo.out hno.out)
   go_wp2_with fail
   go_ret
   exact ⟨⟨-1, rfl, by rw [decide_eq_false HF.out]; rfl⟩, hw.out⟩
end Go.Proofs.YtdmdohjdmnmabaaGreatDoor
namespace Go.Proofs.YtdmdohjdmnmabaaGreatDoor
open Go.RowKit Go.Sort
set_option linter.unusedVariables false
set_option linter.unusedSimpArgs false

theorem Tab.only {w w' : World} (h : Tab w) (k : Only NoBlk w w') : Tab w' := by
 unfold Tab Lib.TabIs World.var? at *
 cases hg : Tryz.prog.globalNamed "internal/strconv.uint64pow10" with
 | none => rw [hg] at h; simp at h
 | some g =>
  rw [hg] at h
  simp only [Option.bind_some] at h ⊢
  have hlt : g < w.heap.size := by
   rcases Nat.lt_or_ge g w.heap.size with hl | hl
   ·exact hl
   ·rw [Array.getElem?_eq_none hl] at h; cases h
  rw [k.block g hlt (fun h => h)]
  exact h
theorem tgts_len (l : List OpM) : (tgts l).length ≤ (jmpsL l).length := by
 unfold tgts uniq
 refine Nat.le_trans (compact_le _) ?_
 rw [List.length_mergeSort]
 exact List.length_filter_le _ _
theorem jmps_len {l : List OpM} (h : ∀ o ∈ l, o.arms.length ≤ 100) : (jmpsL l).length ≤ 102 * l.length := by
 induction l with
 | nil => simp [jmpsL]
 | cons o r ih =>
  have h1 := ih (fun x hx => h x (List.mem_cons_of_mem _ hx))
  have h2 := jumps_len o
  have h3 := h o (by simp)
  unfold jmpsL at h1 ⊢
  rw [List.flatMap_cons, List.length_append, List.length_cons]
  omega
theorem head_len {p : ProgM} (h : goodM p = true) : (headT p).length ≤ 100 := by
 obtain ⟨h1, h2, h3, h4, h5⟩ := head_facts h
 have e1 := tk_len h1.2
 have e2 := itoa_len (n := p.jumps) (by omega) (by omega)
 have e3 : p.name.data.toList.length = p.name.size := by simp
 unfold headT lineT wordsT
 simp
 simp at e3
 omega
theorem atT_at (f : OpM → List UInt8) (L : List OpV) (q : Nat) (h : q < L.length) : atT f (L.map (·.o)) q = f (opAt L q).o := by
 unfold atT
 rw [List.getElem?_map, opAt_some h]
 rfl
theorem atT_end (f : OpM → List UInt8) (L : List OpV) : atT f (L.map (·.o)) L.length = [] := by
 unfold atT
 rw [List.getElem?_eq_none (by simp)]
/-- the row of the ops to which a script jumps stays, while a text is built -/
theorem tgt_keep {B b : Nat} {l0 : List UInt8} {w w5 : World} {A : Option Addr} {T : List Int} (h0 : Bo B b l0 w w5) (hR : Rd w5 NoBlk A (flat encI T)) (hT : T = [] ∨ ∃ g2, A = some ⟨g2, 0, none⟩ ∧ Ty w5 g2) (l : List UInt8) (w' : World) (h : Bo B b l w5 w') : Rd w' NoBlk A (flat encI T) := by
 rcases hT with rfl | ⟨g2, rfl, cs, hb⟩
 ·exact Rd.nil
 ·have hb' := h0.blk h hb (by decide) (by decide)
  rcases hR with h1 | ⟨g3, o, hA, hm, hl, hc⟩
  ·exact Or.inl h1
  ·injection hA with hA
   injection hA with e1 e2 _
   subst e1; subst e2
   refine Or.inr ⟨g2, 0, rfl, hm, hb'.lt, fun j hj => ?_⟩
   rw [hb'.cell, ← hb.cell]
   exact hc j hj
theorem prog_good {s : ByteArray} {d j : Int} {L : List OpV} (h : goodM (progM s d j L) = true) : InI d ∧ 0 ≤ j ∧ j ≤ 1000 ∧ L.length ≤ 200 ∧ s.size ≤ 16 ∧ ∀ v ∈ L, OpW v.o := by
 obtain ⟨h1, h2, h3, h4, h5⟩ := head_facts h
 refine ⟨h1, h2, h3, by simpa [progM] using h4, h5, fun v hv => ops_good h _ ?_⟩
 show v.o ∈ L.map (·.o)
 exact List.mem_map.2 ⟨v, hv, rfl⟩
set_option maxHeartbeats 1600000 in
theorem Label_c (n : Int) (w : World) (h : InI n) (ht : Tab w) : Calls Tryz.prog 10 #[.int .i64 n] w fun e w' => e = .returned (.string ⟨(labelT n).toArray⟩) ∧ Below w.heap.size w w' := by
 have H := hide (label_c n w h.1 h.2 ht)
 clear ht
 go_enter Tryz.func10, Tryz.ntmps10
 go_wp2_with fail
 refine H.out.mono ?_
 rintro e w2 ⟨rfl, hb⟩
 go_wp2_with fail
 go_ret
 exact ⟨rfl, hb⟩
end Go.Proofs.YtdmdohjdmnmabaaGreatDoor
namespace Go.Proofs.YtdmdohjdmnmabaaGreatDoor
open Go.RowKit Go.Sort
set_option linter.unusedVariables false
set_option linter.unusedSimpArgs false

/-- an op's lines, or why there are none -/
def showOpM (p : ProgM) (a : Int) : List UInt8 × Int := if goodM p = false then ([], 2) else if a < 0 ∨ (p.ops.length : Int) ≤ a then ([], 5) else (atT opT p.ops a.toNat, 0)
set_option maxRecDepth 100000 in
set_option maxHeartbeats 12800000 in
theorem sOpAt_c (s : ByteArray) (d j : Int) (PA : Option Addr) (pc : Nat) (L : List OpV) (a : Int) (w : World) (hr : OpsRd w NoBlk PA L) (hn : L.length ≤ maxLen) (hs : s.size ≤ 9223372036854775807) (hsz : ∀ v ∈ L, OpSz v) (ht : Tab w) :
 Calls Tryz.prog 9 #[.agg #[.string s, .int .i64 d, .int .i64 j, .slice PA L.length pc], .int .i64 a] w fun e w' => e = .returned (.tuple #[.string ⟨(showOpM (progM s d j L) a).1.toArray⟩, .int .i64 (showOpM (progM s d j L) a).2]) ∧ Only NoBlk w w' := by
 obtain ⟨nm, rfl⟩ : ∃ nm : List UInt8, s = ⟨nm.toArray⟩ := ⟨s.data.toList, rfl⟩
 obtain ⟨P, hP⟩ : ∃ P, P = progM ⟨nm.toArray⟩ d j L := ⟨_, rfl⟩
 obtain ⟨W, hW⟩ : ∃ W, W = w.alloc (.cells #[.string ⟨nm.toArray⟩, .int .i64 d, .int .i64 j, .slice PA L.length pc] 24) := ⟨_, rfl⟩
 obtain ⟨g, hg⟩ : ∃ g, g = w.heap.size := ⟨_, rfl⟩
 have HN := hide (show Only NoBlk w W by rw [hW]; exact (Only.refl _ w).alloc _)
 have HG := hide (show Blk W g 24 #[.string ⟨nm.toArray⟩, .int .i64 d, .int .i64 j, .slice PA L.length pc] by rw [hW, hg]; exact Blk.new _ _ _)
 have HGd := hide (pGood_c ⟨nm.toArray⟩ d j PA pc L W (hr.only HN.out (fun _ h => h)) hn hs hsz)
 have HT := hide (fun (w' : World) (k : Only NoBlk w w') => ht.only k)
 have HOr := hide (fun (w' : World) (k : Only NoBlk w w') => hr.only k (fun _ h => h))
 obtain ⟨m, hm⟩ : ∃ m, m = L.length := ⟨_, rfl⟩
 have hmx : m ≤ 9223372036854775807 := by rw [hm]; exact Nat.le_trans hn (by simp [maxLen])
 have Hm := hide hm
 have HW := hide (show W = w.alloc (.cells #[.string ⟨nm.toArray⟩, .int .i64 d, .int .i64 j, .slice PA m pc] 24) by rw [hW, hm])
 rw [← hm] at HG HGd ⊢
 rw [← hP] at HGd ⊢
 have HP := hide hP
 have Hg := hide hg
 have c0 : W.cell? ⟨g, 0, none⟩ = some (.string ⟨nm.toArray⟩) := by rw [HG.out.cell]; rfl
 have c1 : W.cell? ⟨g, 1, none⟩ = some (.int .i64 d) := by rw [HG.out.cell]; rfl
 have c2 : W.cell? ⟨g, 2, none⟩ = some (.int .i64 j) := by rw [HG.out.cell]; rfl
 have c3 : W.cell? ⟨g, 3, none⟩ = some (.slice PA m pc) := by rw [HG.out.cell]; rfl
 clear hr hn hs hsz ht hW hm hP hg
 cases hgd : goodM P with
 | false =>
  have Hgd := hide hgd
  rw [hgd] at HGd
  clear hgd
  go_enter Tryz.func9, Tryz.ntmps9
  go_upto_region 1 with fail
  change Code.wp _ _ _ _ (w.alloc (.cells #[.string ⟨nm.toArray⟩, .int .i64 d, .int .i64 j, .slice PA m pc] 24))
  rw [← HW.out, ← Hg.out]
  go_wp2_with fail
  refine HGd.out.mono ?_
  rintro e w2 ⟨rfl, ho2⟩
  have HO2 := hide (HN.out.trans ho2)
  clear ho2
  go_wp2_with fail
  refine bodyPost_ret (v := .tuple #[.string ⟨#[]⟩, .int .i64 2]) (by simp [results, Tryz.results9, go_sem]) rfl ?_
  exact ⟨by unfold showOpM; rw [if_pos Hgd.out], HO2.out⟩
 | true =>
  obtain ⟨hd, hj0, hj1, hm2, hs2, hall⟩ := prog_good (by rw [← HP.out]; exact hgd)
  have Hgd := hide hgd
  have HWa := hide hall
  have hm3 : m ≤ 200 := by rw [Hm.out]; exact hm2
  rw [hgd] at HGd
  have hPl : (P.ops.length : Int) = (m : Int) := by rw [HP.out, Hm.out]; simp [progM]
  clear hgd hall hm2
  by_cases ha : a < 0
  case pos =>
   have d1 : decide (a < 0) = true := by simp; exact ha
   have HM := hide (show showOpM P a = ([], 5) by unfold showOpM; rw [if_neg (by rw [Hgd.out]; simp), if_pos (Or.inl ha)])
   clear ha hPl
   go_enter Tryz.func9, Tryz.ntmps9
   go_upto_region 1 with fail
   change Code.wp _ _ _ _ (w.alloc (.cells #[.string ⟨nm.toArray⟩, .int .i64 d, .int .i64 j, .slice PA m pc] 24))
   rw [← HW.out, ← Hg.out]
   go_wp2_with fail
   refine HGd.out.mono ?_
   rintro e w2 ⟨rfl, ho2⟩
   have HO2 := hide (HN.out.trans ho2)
   have HG2 := hide (HG.out.only ho2 (fun h => h))
   clear ho2 c0 c1 c2 c3
   have c3 : w2.cell? ⟨g, 3, none⟩ = some (.slice PA m pc) := by rw [HG2.out.cell]; rfl
   go_wp2_with fail
   refine bodyPost_ret (v := .tuple #[.string ⟨#[]⟩, .int .i64 5]) (by simp [results, Tryz.results9, go_sem]) rfl ?_
   exact ⟨by rw [HM.out], HO2.out⟩
  case neg =>
   have d1 : decide (a < 0) = false := by simp; omega
   by_cases hb : (m : Int) ≤ a
   case pos =>
    have d2 : decide ((m : Int) ≤ a) = true := by simp; exact hb
    have d3 : decide (a ≥ (m : Int)) = true := by simp; exact hb
    have HM := hide (show showOpM P a = ([], 5) by unfold showOpM; rw [if_neg (by rw [Hgd.out]; simp), if_pos (Or.inr (by rw [hPl]; exact hb))])
    clear ha hb hPl
    go_enter Tryz.func9, Tryz.ntmps9
    go_upto_region 1 with fail
    change Code.wp _ _ _ _ (w.alloc (.cells #[.string ⟨nm.toArray⟩, .int .i64 d, .int .i64 j, .slice PA m pc] 24))
    rw [← HW.out, ← Hg.out]
    go_wp2_with fail
    refine HGd.out.mono ?_
    rintro e w2 ⟨rfl, ho2⟩
    have HO2 := hide (HN.out.trans ho2)
    have HG2 := hide (HG.out.only ho2 (fun h => h))
    clear ho2 c0 c1 c2 c3
    have c3 : w2.cell? ⟨g, 3, none⟩ = some (.slice PA m pc) := by rw [HG2.out.cell]; rfl
    go_wp2_with fail
    refine bodyPost_ret (v := .tuple #[.string ⟨#[]⟩, .int .i64 5]) (by simp [results, Tryz.results9, go_sem]) rfl ?_
    exact ⟨by rw [HM.out], HO2.out⟩
   case neg =>
    obtain ⟨q, rfl⟩ : ∃ q : Nat, a = (q : Int) := ⟨a.toNat, by omega⟩
    have hop : q < m := by omega
    have hql : q < L.length := by rw [← Hm.out]; exact hop
    have d2 : decide ((m : Int) ≤ (q : Int)) = false := by simp; omega
    have d3 : decide ((q : Int) ≥ (m : Int)) = false := by simp; omega
    have d4 : decide (m ≤ q) = false := by simp; omega
    have j1 : (0 : Int) ≤ (q : Int) := by omega
    have j2 : (q : Int) < (m : Int) := by omega
    have HM := hide (show showOpM P (q : Int) = (opT (opAt L q).o, 0) by
     have e : P.ops = L.map (·.o) := by rw [HP.out]; rfl
     unfold showOpM
     rw [if_neg (by rw [Hgd.out]; simp), if_neg (by rw [hPl]; omega), e, Int.toNat_natCast, atT_at opT L q hql])
    clear ha hb hPl
    obtain ⟨ab, ao, hA⟩ : ∃ ab ao, PA = some ⟨ab, ao, none⟩ := by
     obtain ⟨ab, ao, hA, _⟩ := op_cells (HOr.out _ HN.out).1 q hql
     exact ⟨ab, ao, hA⟩
    subst hA
    have HCl := hide (show ∀ w', Only NoBlk w w' → w'.cell? ⟨ab, ao + q * 7, none⟩ = some (.int .i64 (opAt L q).o.kind) ∧ w'.cell? ⟨ab, ao + q * 7 + 1, none⟩ = some (.string (opAt L q).o.text) ∧ w'.cell? ⟨ab, ao + q * 7 + 2, none⟩ = some (.int .i64 (opAt L q).o.n) ∧ w'.cell? ⟨ab, ao + q * 7 + 3, none⟩ = some (.int .i64 (opAt L q).o.to) ∧ w'.cell? ⟨ab, ao + q * 7 + 4, none⟩ = some (.slice (opAt L q).A (opAt L q).o.arms.length (opAt L q).c) ∧ w'.cell? ⟨ab, ao + q * 7 + 5, none⟩ = some (.int .i64 (opAt L q).o.onT) ∧ w'.cell? ⟨ab, ao + q * 7 + 6, none⟩ = some (.int .i64 (opAt L q).o.onE) from fun w' k => by
     obtain ⟨ab2, ao2, hA2, _, a0, a1, a2, a3, a4, a5, a6⟩ := op_cells (HOr.out _ k).1 q hql
     injection hA2 with hA2
     injection hA2 with e1 e2 _
     subst e1; subst e2
     exact ⟨a0, a1, a2, a3, a4, a5, a6⟩)
    have HOp := hide (fun (b : Nat) (l : List UInt8) (w' : World) (h : BlAt b b l w') (k : ∀ w2, Below b w' w2 → Only NoBlk w w2) (hl : l.length ≤ 70000000000000) => sOp_c b b l (opAt L q).o.kind (opAt L q).o.text (opAt L q).o.n (opAt L q).o.to (opAt L q).A (opAt L q).o.arms (opAt L q).c (opAt L q).o.onT (opAt L q).o.onE w' h (BldAt.lt h) (fun w2 k2 => (HOr.out w2 (k w2 k2)).2 _ (opAt_mem hql)) (fun w2 k2 => HT.out w2 (k w2 k2)) (HWa.out _ (opAt_mem hql)) hl)
    have HOe := hide (show opT (opAt L q).o = opT ⟨(opAt L q).o.kind, (opAt L q).o.text, (opAt L q).o.n, (opAt L q).o.to, (opAt L q).o.arms, (opAt L q).o.onT, (opAt L q).o.onE⟩ from rfl)
    rw [HOe.out] at HM
    clear HOe
    obtain ⟨v9, hv9⟩ : ∃ v9, v9 = opAt L q := ⟨_, rfl⟩
    rw [← hv9] at HCl HOp HM
    clear hv9
    obtain ⟨⟨uk, ut, un, ug, ua, ux, uy⟩, uA, uc⟩ := v9
    simp only at HCl HOp HM
    obtain ⟨u, hu⟩ : ∃ u : OpM, u = ⟨uk, ut, un, ug, ua, ux, uy⟩ := ⟨_, rfl⟩
    rw [← hu] at HOp HM
    obtain ⟨u9, hu9⟩ : ∃ u9, u9 = ua.length := ⟨_, rfl⟩
    rw [← hu9] at HCl HOp
    clear hu hu9 hop hql
    go_enter Tryz.func9, Tryz.ntmps9
    go_upto_region 1 with fail
    change Code.wp _ _ _ _ (w.alloc (.cells #[.string ⟨nm.toArray⟩, .int .i64 d, .int .i64 j, .slice (some ⟨ab, ao, none⟩) m pc] 24))
    rw [← HW.out, ← Hg.out]
    go_wp2_with fail
    refine HGd.out.mono ?_
    rintro e w2 ⟨rfl, ho2⟩
    have HO2 := hide (HN.out.trans ho2)
    have HG2 := hide (HG.out.only ho2 (fun h => h))
    clear ho2 c0 c1 c2 c3
    have c3 : w2.cell? ⟨g, 3, none⟩ = some (.slice (some ⟨ab, ao, none⟩) m pc) := by rw [HG2.out.cell]; rfl
    go_upto_region 6 with fail
    clear c3
    obtain ⟨V1, hV1⟩ : ∃ V1, V1 = w2.alloc (.cells #[.pointer none, .slice none 0 0] 55) := ⟨_, rfl⟩
    obtain ⟨b, hb⟩ : ∃ b, b = w2.heap.size := ⟨_, rfl⟩
    have HD1 := hide (show BlAt b b [] V1 by rw [hV1, hb]; exact BldAt.new)
    have HG1 := hide (show Blk V1 g 24 #[.string ⟨nm.toArray⟩, .int .i64 d, .int .i64 j, .slice (some ⟨ab, ao, none⟩) m pc] by rw [hV1]; exact HG2.out.alloc _)
    have HON := hide (show ∀ w', Below b V1 w' → Only NoBlk w w' from fun w' k => HO2.out.trans (Only.of_below (by rw [← hb]; exact (show Below b w2 V1 by rw [hV1, hb]; exact below_alloc _ _).trans k) NoBlk))
    rw [← hV1, ← hb]
    clear hV1 hb
    have c3 : V1.cell? ⟨g, 3, none⟩ = some (.slice (some ⟨ab, ao, none⟩) m pc) := by rw [HG1.out.cell]; rfl
    obtain ⟨a0, a1, a2, a3, a4, a5, a6⟩ := HCl.out V1 (HON.out _ (Below.refl _ _))
    go_wp2_with fail
    refine (HOp.out b [] _ HD1.out HON.out (by simp)).mono ?_
    rintro e V2 ⟨rfl, hq9⟩
    have HO9 := hide hq9
    clear hq9
    go_wp2_with fail
    refine (Out_c b b _ _ HO9.out.1).mono ?_
    rintro e V3 ⟨rfl, hb9, _⟩
    have HN9 := hide (HON.out _ (HO9.out.2.1.trans hb9))
    clear hb9
    go_wp2_with fail
    refine bodyPost_ret (v := .tuple #[.string ⟨([] ++ opT u).toArray⟩, .int .i64 0]) (by simp [results, Tryz.results9, go_sem]) rfl ?_
    exact ⟨by rw [HM.out]; rfl, HN9.out⟩
end Go.Proofs.YtdmdohjdmnmabaaGreatDoor
