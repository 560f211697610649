/- Parts of a chain of lemmas: RefLine, Lines, Par5. Conditions: those of each theorem. -/
import Derived.Test.YtaioaojfdngfdaaGreatDoorNb02
import Derived.Test.YtaioaojfdngfdaaGreatDoorNb15
import Derived.Test.YtaioaojfdngfdaaGreatDoorNb16
import Derived.Test.YtaioaojfdngfdaaGreatDoorNb24
set_option linter.unusedVariables false
set_option linter.unusedSimpArgs false
namespace Go.Proofs.YtaioaojfdngfdaaGreatDoor
open Go.RowKit
abbrev encLn (x : List UInt8) : List Value := [.string (bs x)]
theorem Tryz.infoStr : (Tryz.prog.info? 9).map (fun i => (i.zero, i.size, i.bytes)) = some (some (.string ⟨#[]⟩), 1, 16) := by kernel_rfl
theorem sub_bs' (s : ByteArray) (a b : Nat) : s.extract a b = bs ((s.data.toList.drop a).take (b - a)) := by
 apply ba_ext
 rw [ba_sub]
theorem flat_ln (X : List (List UInt8)) (y : List UInt8) : flat encLn (X ++ [y]) = flat encLn X ++ [.string (bs y)] := by simp [flat]
set_option maxRecDepth 100000 in
set_option maxHeartbeats 6400000 in
theorem refLines_q (s : ByteArray) (w : World) (hs : s.size ≤ 1000000) : Calls Tryz.prog 18 #[.string s] w fun e w' => (∃ A1 c1, e = .returned (.slice A1 (linesM s.data.toList).length c1) ∧ w'.ownsRow w.heap.size 9 1 (.slice A1 (linesM s.data.toList).length c1) (linesM s.data.toList).length (flat encLn (linesM s.data.toList))) ∧ Below w.heap.size w w' := by
 obtain ⟨L, hL⟩ : ∃ L, L = s.data.toList := ⟨_, rfl⟩
 have hLn : L.length = s.size := by rw [hL]; simp
 have HAt := hide (show ∀ k (h : k < s.size), s[k]'h = atB L k from fun k h => by rw [hL]; exact byte_at s k h)
 have HSub := hide (show ∀ a b, s.extract a b = bs ((L.drop a).take (b - a)) from fun a b => by rw [hL]; exact sub_bs' s a b)
 rw [← hL]
 obtain ⟨R, hR⟩ : ∃ R, R = linesM L := ⟨_, rfl⟩
 obtain ⟨i0, hi, hz0, hz1, hz2⟩ := info_parts Tryz.infoStr
 rw [← hR]
 have HR0 := hide (show R = [] ++ linesGo (L.drop 0) ((L.drop 0).take (0 - 0)) by rw [hR]; simp [linesM])
 have HSt := hide (show ∀ i cur, i < s.size → linesGo (L.drop i) cur = if atB L i = 10 then cur :: linesGo (L.drop (i + 1)) [] else linesGo (L.drop (i + 1)) (cur ++ [atB L i]) from fun i cur h => linesGo_at L i cur (by omega))
 have HCut := hide (show ∀ a i, a ≤ i → i < s.size → (L.drop a).take (i + 1 - a) = (L.drop a).take (i - a) ++ [atB L i] from fun a i h h2 => cut_succ L a i h (by omega))
 have HEnd := hide (show ∀ a, a ≤ s.size → linesGo (L.drop s.size) ((L.drop a).take (s.size - a)) = [(L.drop a).take (s.size - a)] from fun a h => by rw [← hLn, List.drop_length]; rfl)
 have HO0 := hide (show (w.alloc (.cells #[] 9)).ownsRow w.heap.size 9 1 (.slice (some ⟨w.heap.size, 0, none⟩) 0 0) 0 [] from own_empty (Nat.le_refl _))
 clear hL hR hLn
 go_enter Tryz.func18, Tryz.ntmps18
 go_wp2_with fail
 go_loopw [3, 4, 5] (fun v a i wr => ∃ (k b : Nat) (out : List (List UInt8)), k ≤ s.size ∧ b ≤ k ∧ out.length ≤ k ∧ a = .int .i64 b ∧ i = .int .i64 k ∧ Hid (R = out ++ linesGo (L.drop k) ((L.drop b).take (k - b))) ∧ Hid (wr.ownsRow w.heap.size 9 1 v out.length (flat encLn out)) ∧ Hid (Below w.heap.size w wr)) (fun _ _ i _ => s.size - (intOf i).toNat)
 case atStart => exact ⟨0, 0, [], Nat.zero_le _, Nat.le_refl _, Nat.le_refl _, rfl, rfl, HR0, HO0, hide (below_alloc _ _)⟩
 case round =>
  clear HR0 HO0
  obtain ⟨k, b, out, hk, hbk, hok, rfl, rfl, HRg, HOw, HB⟩ := hrel
  obtain ⟨VA, vc, rfl, hvc⟩ := own_cap HOw.out
  have w1 : IntKind.i64.wrap ((k : Int) + 1) = (k : Int) + 1 := IntWalk.i64_in _ (by omega)
  have j0 : (0 : Int) ≤ (b : Int) := by omega
  have j1 : (0 : Int) ≤ (k : Int) := by omega
  have j4 : (b : Int) ≤ (k : Int) := by omega
  have j5 : (k : Int) ≤ (s.size : Int) := by omega
  have j6 : (b : Int) ≤ (s.size : Int) := by omega
  have hbsz := HB.out.size
  by_cases hlt : k < s.size
  case neg =>
   obtain rfl : k = s.size := by omega
   have e1 : decide ((s.size : Int) < (s.size : Int)) = false := by simp
   have e2 : decide (s.size < s.size) = false := by simp
   obtain ⟨ct, hct⟩ : ∃ ct, ct = s.extract b s.size := ⟨_, rfl⟩
   have HE := hide (show R = out ++ [(L.drop b).take (s.size - b)] by rw [HRg.out, HEnd.out b hbk])
   have HCt := hide hct
   have HCb := hide (show ct = bs ((L.drop b).take (s.size - b)) by rw [hct, HSub.out])
   have hX := hide (show Rd (wr.alloc (.cells #[.string ct] 9)) NoBlk (some ⟨wr.heap.size, 0, none⟩) [.string ct] from rd_blkN (Blk.new _ _ _) (fun h => h))
   have HOx := hide (HOw.out.alloc (.cells #[.string ct] 9))
   rw [hct] at hX HOx
   clear hct
   go_wp2_with (first
    | (at_builtin; refine wpList_append_rd _ rfl (.tmp 26) (.tmp 30) _ rfl w.heap.size 9 i0 (.string ⟨#[]⟩) 1 16 Tryz.underlying35 hi hz0 hz1 hz2 rfl (by omega) _ out.length (flat encLn out) rfl HOx.out NoBlk (some ⟨wr.heap.size, 0, none⟩) 1 1 [.string (s.extract b s.size)] rfl hX.out rfl (by intro u hu; simp at hu; subst hu; rfl) (by simp only [maxLen]; omega) (by omega) (by simp; omega) ?_; intro v5 w5 hown5 hgr _; have Own5 := hide hown5; have Gr := hide hgr; clear hown5 hgr))
   have HB5 := hide ((HB.out.alloc HB.out.size (.cells #[.string (s.extract b s.size)] 9)).grown Gr.out (by simp; omega) (fun j hj => by have := own_ge HOw.out j hj; omega))
   have HO5 := hide (show w5.ownsRow w.heap.size 9 1 v5 R.length (flat encLn R) by rw [HE.out, flat_ln, ← HCb.out, HCt.out, List.length_append]; exact Own5.out)
   obtain ⟨A5, c5, hv5, _⟩ := own_cap HO5.out
   subst hv5
   go_ret
   exact ⟨⟨A5, c5, rfl, HO5.out⟩, HB5.out⟩
  case pos =>
   have e1 : decide ((k : Int) < (s.size : Int)) = true := by simp; omega
   have e2 : decide (k < s.size) = true := by simp; omega
   have j2 : (k : Int) < (s.size : Int) := by omega
   have HA := hide (HAt.out k hlt)
   have hck : ((s[k]'hlt).toNat : Int) = ((atB L k).toNat : Int) := by rw [HA.out]
   by_cases h10 : (atB L k).toNat = 10
   case pos =>
    have q1 : (((atB L k).toNat : Int) == 10) = true := by simp; omega
    have hb10 : atB L k = 10 := by apply UInt8.toNat_inj.1; rw [h10]; rfl
    have HE := hide (show R = (out ++ [(L.drop b).take (k - b)]) ++ linesGo (L.drop (k + 1)) ((L.drop (k + 1)).take (k + 1 - (k + 1))) by rw [HRg.out, HSt.out k _ hlt, if_pos hb10]; simp)
    have HCb := hide (show s.extract b k = bs ((L.drop b).take (k - b)) from HSub.out b k)
    have hX := hide (show Rd (wr.alloc (.cells #[.string (s.extract b k)] 9)) NoBlk (some ⟨wr.heap.size, 0, none⟩) [.string (s.extract b k)] from rd_blkN (Blk.new _ _ _) (fun h => h))
    have HOx := hide (HOw.out.alloc (.cells #[.string (s.extract b k)] 9))
    clear h10 hb10
    go_wp2_with (first
     | (at_builtin; refine wpList_append_rd _ rfl (.tmp 17) (.tmp 22) _ rfl w.heap.size 9 i0 (.string ⟨#[]⟩) 1 16 Tryz.underlying35 hi hz0 hz1 hz2 rfl (by omega) _ out.length (flat encLn out) rfl HOx.out NoBlk (some ⟨wr.heap.size, 0, none⟩) 1 1 [.string (s.extract b k)] rfl hX.out rfl (by intro u hu; simp at hu; subst hu; rfl) (by simp only [maxLen]; omega) (by omega) (by simp; omega) ?_; intro v5 w5 hown5 hgr _; have Own5 := hide hown5; have Gr := hide hgr; clear hown5 hgr))
    have HB5 := hide ((HB.out.alloc HB.out.size (.cells #[.string (s.extract b k)] 9)).grown Gr.out (by simp; omega) (fun j hj => by have := own_ge HOw.out j hj; omega))
    have HO5 := hide (show w5.ownsRow w.heap.size 9 1 v5 (out ++ [(L.drop b).take (k - b)]).length (flat encLn (out ++ [(L.drop b).take (k - b)])) by rw [flat_ln, ← HCb.out, List.length_append]; exact Own5.out)
    go_roundw
    case rel => exact ⟨k + 1, k + 1, out ++ [(L.drop b).take (k - b)], by omega, by omega, by simp; omega, by go_num, by go_num, HE, HO5, HB5⟩
    case measure => simp [intOf]; omega
   case neg =>
    have q1 : (((atB L k).toNat : Int) == 10) = false := by simp; omega
    have HE := hide (show R = out ++ linesGo (L.drop (k + 1)) ((L.drop b).take (k + 1 - b)) by rw [HRg.out, HSt.out k _ hlt, if_neg (fun h => h10 (by rw [h]; rfl)), HCut.out b k hbk hlt])
    clear h10
    go_wp2_with fail
    go_roundw
    case rel => exact ⟨k + 1, b, out, by omega, by omega, by omega, rfl, by go_num, HE, HOw, HB⟩
    case measure => simp [intOf]; omega
set_option maxHeartbeats 3200000 in
theorem Idle_c (s : ByteArray) (w : World) : Calls Tryz.prog 37 #[.string s] w fun e w' => e = .returned (.bool (idleB s.data.toList)) ∧ w' = w := by
 have hLn : s.data.toList.length = s.size := by simp
 have HI := hide (show idleB s.data.toList = (decide (s.size = 0) || decide (atB s.data.toList 0 = 35)) by unfold idleB; rw [hLn])
 obtain ⟨p, hp⟩ : ∃ p, p = idleB s.data.toList := ⟨_, rfl⟩
 rw [← hp] at HI ⊢
 clear hp hLn
 by_cases hz : s.size = 0
 ·have HE := hide (show p = true by rw [HI.out, decide_eq_true hz]; rfl)
  obtain rfl := str_nil hz
  clear hz HI
  go_enter Tryz.func37, Tryz.ntmps37
  go_wp2_with fail
  go_ret
  exact ⟨by rw [HE.out]; rfl, rfl⟩
 ·have hne := str_some hz
  have h0 : 0 < s.size := by omega
  have HI2 := hide (show p = decide (atB s.data.toList 0 = 35) by rw [HI.out, decide_eq_false hz]; rfl)
  obtain ⟨n, hn⟩ : ∃ n, n = (atB s.data.toList 0).toNat := ⟨_, rfl⟩
  have hc0 : ((s[0]'h0).toNat : Int) = (n : Int) := by rw [hn, byte_at s 0 h0]
  have i35 : atB s.data.toList 0 = 35 ↔ n = 35 := by rw [hn, ← UInt8.toNat_inj]; rfl
  by_cases h : n = 35
  ·have q1 : ((n : Int) == 35) = true := beq_iff_eq.2 (by omega)
   have HE := hide (show p = true by rw [HI2.out, decide_eq_true (i35.2 h)])
   clear h hn i35 HI HI2 hz
   go_enter Tryz.func37, Tryz.ntmps37
   go_wp2_with fail
   go_ret
   exact ⟨by rw [HE.out]; rfl, rfl⟩
  ·have q1 : ((n : Int) == 35) = false := beq_eq_false_iff_ne.2 (by omega)
   have HE := hide (show p = false by rw [HI2.out, decide_eq_false (fun h2 => h (i35.1 h2))])
   clear h hn i35 HI HI2 hz
   go_enter Tryz.func37, Tryz.ntmps37
   go_wp2_with fail
   go_ret
   exact ⟨by rw [HE.out]; rfl, rfl⟩
set_option maxHeartbeats 3200000 in
theorem refIdle_c (s : ByteArray) (w : World) : Calls Tryz.prog 42 #[.string s] w fun e w' => e = .returned (.bool (idleB s.data.toList)) ∧ w' = w := by
 have hLn : s.data.toList.length = s.size := by simp
 have HI := hide (show idleB s.data.toList = (decide (s.size = 0) || decide (atB s.data.toList 0 = 35)) by unfold idleB; rw [hLn])
 obtain ⟨p, hp⟩ : ∃ p, p = idleB s.data.toList := ⟨_, rfl⟩
 rw [← hp] at HI ⊢
 clear hp hLn
 by_cases hz : s.size = 0
 ·have HE := hide (show p = true by rw [HI.out, decide_eq_true hz]; rfl)
  obtain rfl := str_nil hz
  clear hz HI
  go_enter Tryz.func42, Tryz.ntmps42
  go_wp2_with fail
  go_ret
  exact ⟨by rw [HE.out]; rfl, rfl⟩
 ·have hne := str_some hz
  have h0 : 0 < s.size := by omega
  have HI2 := hide (show p = decide (atB s.data.toList 0 = 35) by rw [HI.out, decide_eq_false hz]; rfl)
  obtain ⟨n, hn⟩ : ∃ n, n = (atB s.data.toList 0).toNat := ⟨_, rfl⟩
  have hc0 : ((s[0]'h0).toNat : Int) = (n : Int) := by rw [hn, byte_at s 0 h0]
  have i35 : atB s.data.toList 0 = 35 ↔ n = 35 := by rw [hn, ← UInt8.toNat_inj]; rfl
  by_cases h : n = 35
  ·have q1 : ((n : Int) == 35) = true := beq_iff_eq.2 (by omega)
   have HE := hide (show p = true by rw [HI2.out, decide_eq_true (i35.2 h)])
   clear h hn i35 HI HI2 hz
   go_enter Tryz.func42, Tryz.ntmps42
   go_wp2_with fail
   go_ret
   exact ⟨by rw [HE.out]; rfl, rfl⟩
  ·have q1 : ((n : Int) == 35) = false := beq_eq_false_iff_ne.2 (by omega)
   have HE := hide (show p = false by rw [HI2.out, decide_eq_false (fun h2 => h (i35.1 h2))])
   clear h hn i35 HI HI2 hz
   go_enter Tryz.func42, Tryz.ntmps42
   go_wp2_with fail
   go_ret
   exact ⟨by rw [HE.out]; rfl, rfl⟩
theorem lines_miss : ∀ (L cur : List UInt8), Lib.indexByte L 10 = -1 → linesGo L cur = [cur ++ L]
 | [], cur, _ => by simp [linesGo]
 | c :: r, cur, h => by
  unfold Lib.indexByte at h
  by_cases hc : c = 10
  ·rw [if_pos (by simp [hc])] at h; omega
  ·rw [if_neg (by simpa using hc)] at h
   have h2 : Lib.indexByte r 10 = -1 := by
    split at h
    ·rename_i hh; exact beq_iff_eq.1 hh
    ·rename_i hh
     have := Lib.indexByte_ge r 10
     omega
   unfold linesGo
   rw [if_neg hc, lines_miss r _ h2, List.append_assoc]
   rfl
theorem lines_hit : ∀ (L cur : List UInt8) (i : Nat), Lib.indexByte L 10 = i → linesGo L cur = (cur ++ L.take i) :: linesGo (L.drop (i + 1)) []
 | [], cur, i, h => by unfold Lib.indexByte at h; omega
 | c :: r, cur, i, h => by
  unfold Lib.indexByte at h
  by_cases hc : c = 10
  ·rw [if_pos (by simp [hc])] at h
   obtain rfl : i = 0 := by omega
   rw [show linesGo (c :: r) cur = if c = 10 then cur :: linesGo r [] else linesGo r (cur ++ [c]) from rfl, if_pos hc]
   simp
  ·rw [if_neg (by simpa using hc)] at h
   split at h
   ·omega
   ·obtain ⟨j, rfl⟩ : ∃ j, i = j + 1 := ⟨i - 1, by
     rename_i hh
     have := Lib.indexByte_ge r 10
     have : Lib.indexByte r 10 ≠ -1 := fun e => hh (beq_iff_eq.2 e)
     omega⟩
    rw [show linesGo (c :: r) cur = if c = 10 then cur :: linesGo r [] else linesGo r (cur ++ [c]) from rfl, if_neg hc, lines_hit r _ j (by omega)]
    simp
theorem lines_split : ∀ (k : Nat) (L : List UInt8), Lib.count L [10] = k → Lib.splitK [10] 0 k L = linesM L
 | 0, L, h => by
  unfold Lib.splitK linesM
  have hm : Lib.index L [10] = -1 := by
   have hge := Lib.index_ge L [10]
   by_cases he : Lib.index L [10] = -1
   ·exact he
   ·have := Lib.count_hit (s := L) (sub := [10]) (i := (Lib.index L [10]).toNat) (by simp) (by omega)
    omega
  rw [Lib.index_one] at hm
  rw [lines_miss L [] hm]
  rfl
 | k + 1, L, h => by
  have hge := Lib.index_ge L [10]
  have hne : Lib.index L [10] ≠ -1 := fun e => by rw [Lib.count_miss e] at h; omega
  obtain ⟨i, hi⟩ : ∃ i : Nat, Lib.index L [10] = i := ⟨(Lib.index L [10]).toNat, by omega⟩
  have hc := Lib.count_hit (s := L) (sub := [10]) (by simp) hi
  unfold Lib.splitK linesM
  rw [if_neg (by simpa using hne), hi]
  simp only [Int.toNat_natCast, Nat.add_zero, List.length_singleton]
  rw [lines_split k (L.drop (i + 1)) (by simp only [List.length_singleton] at hc; omega)]
  rw [Lib.index_one] at hi
  rw [lines_hit L [] i hi]
  rfl
theorem nl_split (s : ByteArray) : (Lib.splitB ⟨#[10]⟩ 0 (Lib.countB s ⟨#[10]⟩) s).map Value.string = flat encLn (linesM s.data.toList) := by
 have h := Lib.splitB_data ⟨#[10]⟩ 0 (Lib.countB s ⟨#[10]⟩) s
 rw [show (⟨#[10]⟩ : ByteArray).data.toList = [10] from rfl, lines_split _ _ rfl] at h
 rw [← h]
 generalize Lib.splitB ⟨#[10]⟩ 0 (Lib.countB s ⟨#[10]⟩) s = X
 induction X with
 | nil => rfl
 | cons a r ih => rw [List.map_cons, ih]; rfl
theorem nl_len (s : ByteArray) : Lib.countB s ⟨#[10]⟩ + 1 = (linesM s.data.toList).length := by
 rw [← Lib.splitB_all ⟨#[10]⟩ (Nat.le_refl 1) 0 _ s rfl, ← lines_split _ _ (rfl : Lib.count s.data.toList [10] = _), ← List.length_map (·.data.toList), Lib.splitB_data]
def LenV (w : World) : Prop := ∃ m, w.cell? ⟨2, 0, none⟩ = some (.int .i64 m)
theorem LenV.below {w w' : World} (h : LenV w) (hb : Below w.heap.size w w') : LenV w' := h.elim fun m h1 => ⟨m, bkeep hb h1⟩
set_option maxHeartbeats 1600000 in
theorem Lines_q (s : ByteArray) (w : World) (hs : s.size ≤ 1000000000) (hl : LenV w) : Calls Tryz.prog 36 #[.string s] w fun e w' => e = .returned (.slice (some ⟨w.heap.size, 0, none⟩) (linesM s.data.toList).length (linesM s.data.toList).length) ∧ Blk w' w.heap.size 9 (flat encLn (linesM s.data.toList)).toArray ∧ Below w.heap.size w w' := by
 obtain ⟨m, hm⟩ := hl
 have HC := hide (Tryz.strings_Split s ⟨#[10]⟩ m w (by omega) hm (Nat.le_refl 1))
 have HL := hide (nl_len s)
 have HS := hide (nl_split s)
 obtain ⟨n, hn⟩ : ∃ n, n = Lib.countB s ⟨#[10]⟩ := ⟨_, rfl⟩
 rw [← hn] at HC HL HS
 clear hn hm
 go_enter Tryz.func36, Tryz.ntmps36
 go_wp2_with (go_at_call 67; refine HC.out.mono ?_; rintro e wq ⟨rfl, hwq⟩; rw [hwq]; clear hwq)
 go_ret
 refine ⟨by rw [← HL.out]; rfl, ?_, (Below.refl _ w).alloc (Nat.le_refl _) _⟩
 rw [HS.out]
 exact Blk.new _ _ _
theorem FrOk.of {f f' : Fr} (h : FrOk f) (e1 : f'.ws = f.ws := by rfl) (e2 : f'.width = f.width := by rfl) : FrOk f' := ⟨by rw [e1]; exact h.len, by rw [e1]; exact h.at_, by rw [e1]; exact h.txt, by rw [e2]; exact h.lo, by rw [e2]; exact h.hi⟩
theorem word_nx (line width : Int) (ws : List WordM) (s : St) (q : Bool) : (wordS line width ws s q).2.nx ≤ s.nx + 1 := by
 unfold wordS
 split
 ·exact Nat.le_succ _
 split
 ·exact Nat.le_succ _
 split <;> exact Nat.le_refl _
theorem failS_nx (line : Int) (s : St) (c e : Int) : (failS line s c e).nx = s.nx := by unfold failS; split <;> rfl
theorem name_nx (line width : Int) (ws : List WordM) (s : St) : (nameS line width ws s).2.nx ≤ s.nx + 1 := by
 have h := word_nx line width ws s false
 unfold nameS
 split
 ·rw [failS_nx]; exact h
 ·exact h
theorem num_nx (line : Int) (s : St) (x : WordM) (a b : Int) : (numS line s x a b).2.nx = s.nx := by
 unfold numS
 split
 ·exact failS_nx _ _ _ _
 ·rfl
theorem ticks_nx (line width : Int) (ws : List WordM) (s : St) (a : Int) (b : Bool) : (ticksS line width ws s a b).2.nx ≤ s.nx + 1 := by
 have h := word_nx line width ws s false
 unfold ticksS
 split
 ·exact h
 split
 ·exact h
 ·rw [num_nx]; exact h
theorem text_nx (line width : Int) (ws : List WordM) (s : St) : (textS line width ws s).2.nx ≤ s.nx + 1 := by
 have h := word_nx line width ws s true
 unfold textS
 split
 ·rw [failS_nx]; exact h
 ·exact h
theorem pat_nx (line width : Int) (ws : List WordM) (s : St) : (patternS line width ws s).2.nx ≤ s.nx + 1 := by
 have h := word_nx line width ws s true
 unfold patternS
 split
 ·exact h
 split
 ·rw [failS_nx]; exact h
 split
 ·rw [failS_nx]; exact h
 ·exact h
theorem ErrV.only {w w' : World} {B : Nat} (h : ErrV w) (hB : 8 < B) (k : OnB B w w') : ErrV w' := by
 obtain ⟨ev, h1, h2⟩ := h
 exact ⟨ev, okeepB k (fun h3 => by have h4 : B ≤ 8 := h3; omega) h1, h2⟩
theorem Tryz.fieldW0 (s : ByteArray) (q : Bool) (i : Int) (w : World) : (Instr.field 128 (.agg #[.string s, .bool q, .int .i64 i]) 0).run Tryz.prog w = .ok (.string s) w := by kernel_rfl
set_option maxRecDepth 100000 in
set_option maxHeartbeats 3200000 in
theorem pbegin_c (B a : Nat) (p : Pp) (n : Nat) (w : World) (h : PAt w B a p) (hz : MSz p.pl n) (hnx : p.st.nx ≤ 10) (hev : ErrV w) (hB : 8 < B) : Calls Tryz.prog 71 #[.pointer (some ⟨a, 0, none⟩)] w fun e w' => e = .returned (.tuple #[]) ∧ Did w w' B a (mBegin p.pl) := by
 have hBa := h.base
 have hfr := hz.fr
 obtain ⟨N, hN⟩ : ∃ N, N = nameS p.line p.width p.ws p.st := ⟨_, rfl⟩
 obtain ⟨T, hT⟩ : ∃ T, T = ticksS p.line p.width p.ws N.2 1 true := ⟨_, rfl⟩
 obtain ⟨W, hW⟩ : ∃ W, W = wordS p.line p.width p.ws T.2 false := ⟨_, rfl⟩
 obtain ⟨M, hM⟩ : ∃ M, M = numS p.line W.2 W.1.1 0 1000 := ⟨_, rfl⟩
 have hnN : N.2.nx ≤ 11 := by have := name_nx p.line p.width p.ws p.st; rw [← hN] at this; omega
 have hnT : T.2.nx ≤ 12 := by have := ticks_nx p.line p.width p.ws N.2 1 true; rw [← hT] at this; omega
 have hsz := wordS_sz (f := p.fr) hfr T.2 false
 rw [show wordS p.fr.line p.fr.width p.fr.ws T.2 false = W from hW.symm] at hsz
 have HE := hide (show mBegin p.pl = if W.1.2 = true then ({ p with head := true, name := bs N.1.text, dl := T.1, jm := M.1, st := M.2 } : Pp).pl else ({ p with head := true, name := bs N.1.text, dl := T.1, st := W.2 } : Pp).pl by
  have e1 : mDl (mName1 p.pl) = ({ p with head := true, name := bs N.1.text, dl := T.1, st := T.2 } : Pp).pl := by rw [hT, hN]; rfl
  unfold mBegin
  rw [e1, hM, hW]
  rfl)
 have HNm := hide (fun (X : World) (P : PAt X B a { p with head := true }) => name_c a ({ p with head := true } : Pp).fr p.st X P.blk hfr.of P.wordsOf (by omega))
 have HTk := hide (fun (X : World) (P : PAt X B a { p with head := true, name := bs N.1.text, st := N.2 }) (hv : ErrV X) => ticks_c a ({ p with head := true, name := bs N.1.text, st := N.2 } : Pp).fr N.2 1 true X P.blk hfr.of P.wordsOf (by omega) hv (by omega))
 have HWd := hide (fun (X : World) (P : PAt X B a { p with head := true, name := bs N.1.text, dl := T.1, st := T.2 }) => word_c a ({ p with head := true, name := bs N.1.text, dl := T.1, st := T.2 } : Pp).fr T.2 false X P.blk hfr.of P.wordsOf (by omega))
 have HNu := hide (fun (X : World) (P : PAt X B a { p with head := true, name := bs N.1.text, dl := T.1, st := W.2 }) (hv : ErrV X) => pnum_c a ({ p with head := true, name := bs N.1.text, dl := T.1, st := W.2 } : Pp).fr W.2 W.1.1.text W.1.1.quoted W.1.1.at_ 0 1000 X P.blk hsz.1 hsz.2.1 hv)
 rw [show nameS ({ p with head := true } : Pp).fr.line ({ p with head := true } : Pp).fr.width ({ p with head := true } : Pp).fr.ws p.st = N from hN.symm] at HNm
 rw [show ticksS ({ p with head := true, name := bs N.1.text, st := N.2 } : Pp).fr.line ({ p with head := true, name := bs N.1.text, st := N.2 } : Pp).fr.width ({ p with head := true, name := bs N.1.text, st := N.2 } : Pp).fr.ws N.2 1 true = T from hT.symm] at HTk
 rw [show wordS ({ p with head := true, name := bs N.1.text, dl := T.1, st := T.2 } : Pp).fr.line ({ p with head := true, name := bs N.1.text, dl := T.1, st := T.2 } : Pp).fr.width ({ p with head := true, name := bs N.1.text, dl := T.1, st := T.2 } : Pp).fr.ws T.2 false = W from hW.symm] at HWd
 rw [show numS ({ p with head := true, name := bs N.1.text, dl := T.1, st := W.2 } : Pp).fr.line W.2 ⟨W.1.1.text, W.1.1.quoted, W.1.1.at_⟩ 0 1000 = M from hM.symm] at HNu
 have H := hide h
 have HV := hide (fun (X : World) (k : OnB B w X) => hev.only hB k)
 clear hN hT hW hM h hz hev hnN hnT hsz hfr
 obtain ⟨⟨Nt, Nq, Na⟩, N2⟩ := N
 obtain ⟨T1, T2⟩ := T
 obtain ⟨⟨⟨xt, xq, xa⟩, ok⟩, W2⟩ := W
 obtain ⟨M1, M2⟩ := M
 simp only at HE HNm HTk HWd HNu
 go_enter Tryz.func71, Tryz.ntmps71
 have c6 := H.out.cells.2.2.2.2.2.2.1
 have f6 := H.out.frozen 6
 go_wp2_with fail
 generalize hV : World.setCell w _ _ = V
 have hP1 : PAt V B a { p with head := true } := by rw [← hV]; exact (H.out.cell (p' := { p with head := true }) 6 _ rfl).1
 have hO1 : OnB B w V := by rw [← hV]; exact (H.out.cell (p' := { p with head := true }) 6 _ rfl).2
 clear hV c6 f6
 refine (HNm.out V hP1).mono ?_
 rintro e w1 ⟨rfl, hb, ho⟩
 have HP2 := hide (hP1.st ho hb)
 have HO2 := hide (hO1.trans (hP1.only ho))
 clear hb ho hP1 hO1
 have c0 := HP2.out.cells.1
 have f0 := HP2.out.frozen 0
 have hfd := Tryz.fieldW0 (bs Nt) Nq Na w1
 go_wp2_with fail
 generalize hV : World.setCell w1 _ _ = V
 have hP3 : PAt V B a { p with head := true, name := bs Nt, st := N2 } := by rw [← hV]; exact (HP2.out.cell (p' := { p with head := true, name := bs Nt, st := N2 }) 0 _ rfl).1
 have hO3 : OnB B w V := by rw [← hV]; exact HO2.out.trans (HP2.out.cell (p' := { p with head := true, name := bs Nt, st := N2 }) 0 _ rfl).2
 clear hV c0 f0 hfd
 refine (HTk.out V hP3 (HV.out V hO3)).mono ?_
 rintro e w2 ⟨rfl, hb, ho⟩
 have HP4 := hide (hP3.st ho hb)
 have HO4 := hide (hO3.trans (hP3.only ho))
 clear hb ho hP3 hO3
 have c1 := HP4.out.cells.2.1
 have f1 := HP4.out.frozen 1
 go_wp2_with fail
 generalize hV : World.setCell w2 _ _ = V
 have hP5 : PAt V B a { p with head := true, name := bs Nt, dl := T1, st := T2 } := by rw [← hV]; exact (HP4.out.cell (p' := { p with head := true, name := bs Nt, dl := T1, st := T2 }) 1 _ rfl).1
 have hO5 : OnB B w V := by rw [← hV]; exact HO4.out.trans (HP4.out.cell (p' := { p with head := true, name := bs Nt, dl := T1, st := T2 }) 1 _ rfl).2
 clear hV c1 f1
 refine (HWd.out V hP5).mono ?_
 rintro e w3 ⟨rfl, hb, ho⟩
 have HP6 := hide (hP5.st ho hb)
 have HO6 := hide (hO5.trans (hP5.only ho))
 clear hb ho hP5 hO5
 cases ok with
 | false =>
  go_wp2_with fail
  go_end0
  refine ⟨rfl, ⟨_, HP6.out.alloc _, ?_⟩, HO6.out.alloc _⟩
  rw [HE.out]; rfl
 | true =>
  go_wp2_with fail
  generalize hX : World.alloc w3 _ = X
  have hP7 : PAt X B a { p with head := true, name := bs Nt, dl := T1, st := W2 } := by rw [← hX]; exact HP6.out.alloc _
  have hO7 : OnB B w X := by rw [← hX]; exact HO6.out.alloc _
  clear hX
  refine (HNu.out X hP7 (HV.out X hO7)).mono ?_
  rintro e w4 ⟨rfl, hb, ho⟩
  have HP8 := hide (hP7.st ho hb)
  have HO8 := hide (hO7.trans (hP7.only ho))
  clear hb ho hP7 hO7
  have c2 := HP8.out.cells.2.2.1
  have f2 := HP8.out.frozen 2
  go_wp2_with fail
  go_end0
  refine ⟨rfl, ⟨_, (HP8.out.cell (p' := { p with head := true, name := bs Nt, dl := T1, jm := M1, st := M2 }) 2 _ rfl).1, ?_⟩, HO8.out.trans (HP8.out.cell (p' := { p with head := true, name := bs Nt, dl := T1, jm := M1, st := M2 }) 2 _ rfl).2⟩
  rw [HE.out]; rfl
end Go.Proofs.YtaioaojfdngfdaaGreatDoor
