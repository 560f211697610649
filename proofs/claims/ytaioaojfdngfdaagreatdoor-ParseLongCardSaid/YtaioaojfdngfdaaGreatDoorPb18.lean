/- Ticks and numbers, read by the program. Conditions: those of each theorem. -/
import Derived.Test.YtaioaojfdngfdaaGreatDoorPb17
namespace Go.Proofs.YtaioaojfdngfdaaGreatDoor
open Go.RowKit
set_option linter.unusedVariables false
set_option linter.unusedSimpArgs false
/-- digits, without a nought ahead of others -/
def plainT (L : List UInt8) : Bool := L.all digB' && !(decide (L.length = 0) || (decide (1 < L.length) && decide (atB L 0 = 48)))
theorem zero_is {s : ByteArray} (h : s.data.toList = [48]) : (s.toList == [48]) = true := by
 rw [ByteArray.toList_eq, h]
 rfl
theorem zero_ne {s : ByteArray} (h : s.data.toList ≠ [48]) : (s.toList == [48]) = false := by
 rw [ByteArray.toList_eq]
 exact beq_eq_false_iff_ne.2 h
theorem one_byte {L : List UInt8} (h : L.length = 1) (h0 : atB L 0 = 48) : L = [48] := by
 match L, h with
 | [a], _ => unfold atB at h0; simp at h0; rw [h0]
set_option maxRecDepth 100000 in
set_option maxHeartbeats 6400000 in
theorem tplain_c (s : ByteArray) (w : World) (hs : s.size ≤ 1000000000) : Calls Tryz.prog 205 #[.string s] w fun e w' => e = .returned (.bool (plainT s.data.toList)) ∧ w' = w := by
 obtain ⟨L, hL⟩ : ∃ L, L = s.data.toList := ⟨_, rfl⟩
 have hLn : L.length = s.size := by rw [hL]; simp
 have HAt := hide (show ∀ k (h : k < s.size), s[k]'h = atB L k from fun k h => by rw [hL]; exact byte_at s k h)
 have HNo := hide (show ∀ k, k < s.size → digB' (atB L k) = false → L.all digB' = false from fun k h h2 => by
  have hm : atB L k ∈ L := by unfold atB; rw [List.getD_eq_getElem?_getD, List.getElem?_eq_getElem (by omega)]; exact List.getElem_mem _
  cases hh : L.all digB' with
  | false => rfl
  | true => rw [List.all_eq_true.1 hh _ hm] at h2; cases h2)
 have HAll := hide (show (∀ k, k < s.size → digB' (atB L k) = true) → L.all digB' = true from fun h => List.all_eq_true.2 fun x hx => by
  obtain ⟨i, hi, rfl⟩ := List.getElem_of_mem hx
  have := h i (by omega)
  unfold atB at this
  rw [List.getD_eq_getElem?_getD, List.getElem?_eq_getElem hi] at this
  exact this)
 have HP := hide (show plainT L = (L.all digB' && !(decide (s.size = 0) || (decide (1 < s.size) && decide (atB L 0 = 48)))) by unfold plainT; rw [hLn])
 have HZ := hide (show L = [48] → (s.toList == [48]) = true from fun h => zero_is (by rw [← hL]; exact h))
 have HL1 := hide (show L = [48] → s.size = 1 from fun h => by rw [← hLn, h]; rfl)
 have HZn := hide (show L ≠ [48] → (s.toList == [48]) = false from fun h => zero_ne (by rw [← hL]; exact h))
 have HOne := hide (show s.size = 1 → atB L 0 = 48 → L = [48] from fun h => one_byte (by omega))
 rw [← hL]
 obtain ⟨t, ht⟩ : ∃ t, t = plainT L := ⟨_, rfl⟩
 rw [← ht] at HP ⊢
 clear hL ht hLn
 by_cases hz : s.size = 0
 case pos =>
  have HE := hide (show t = false by rw [HP.out, hz]; simp)
  obtain rfl := str_nil hz
  clear hz
  go_enter Tryz.func205, Tryz.ntmps205
  go_wp2_with fail
  go_loop [3, 6] (fun _ i => i = .int .i64 0) (fun _ i => 0)
  case atStart => rfl
  case round =>
   subst hrel
   go_wp2_with fail
   go_ret
   exact ⟨by rw [HE.out]; rfl, rfl⟩
 case neg =>
  have hne := str_some hz
  have h0 : 0 < s.size := by omega
  go_enter Tryz.func205, Tryz.ntmps205
  go_wp2_with fail
  go_loop [3, 6] (fun _ i => ∃ k : Nat, k ≤ s.size ∧ i = .int .i64 k ∧ Hid (∀ j, j < k → digB' (atB L j) = true)) (fun _ i => s.size - (intOf i).toNat)
  case atStart => exact ⟨0, Nat.zero_le _, rfl, hide (fun j hj => absurd hj (by omega))⟩
  case round =>
   obtain ⟨k, hk, rfl, hall⟩ := hrel
   have w1 : IntKind.i64.wrap ((k : Int) + 1) = (k : Int) + 1 := IntWalk.i64_in _ (by omega)
   by_cases hlt : k < s.size
   case neg =>
    have e1 : decide ((k : Int) < (s.size : Int)) = false := by simp; omega
    have e2 : decide (k < s.size) = false := by simp; omega
    have hda := HAll.out (fun j hj => hall.out j (by omega))
    have HA0 := hide (HAt.out 0 h0)
    have hc0 : ((s[0]'h0).toNat : Int) = ((atB L 0).toNat : Int) := by rw [HA0.out]
    have HP2 := hide (show t = !(decide (s.size = 0) || (decide (1 < s.size) && decide (atB L 0 = 48))) by rw [HP.out, hda, Bool.true_and])
    clear HP hda hall
    by_cases h48 : atB L 0 = 48
    case pos =>
     by_cases h1 : s.size = 1
     case pos =>
      have HE := hide (show t = true by rw [HP2.out, h1]; simp)
      have hL1 := HOne.out h1 h48
      have q0 := HZ.out hL1
      clear hL1 h48 h1 hz hc0 HA0 hlt hk h0 hne
      go_wp2_with fail
      go_ret
      exact ⟨by rw [HE.out]; rfl, rfl⟩
     case neg =>
      have HE := hide (show t = false by rw [HP2.out, h48]; simp; omega)
      have q0 := HZn.out (fun h => h1 (HL1.out h))
      have q1 : (((atB L 0).toNat : Int) != 48) = false := by rw [h48]; rfl
      clear h48 h1 hz hlt HA0
      go_wp2_with fail
      go_ret
      exact ⟨by rw [HE.out]; rfl, rfl⟩
    case neg =>
     have HE := hide (show t = true by rw [HP2.out, decide_eq_false hz, decide_eq_false h48, Bool.and_false]; rfl)
     have q0 := HZn.out (fun h => by rw [h] at h48; exact h48 rfl)
     have q1 : (((atB L 0).toNat : Int) != 48) = true := by
      rw [bne_iff_ne]
      intro h
      exact h48 (UInt8.toNat_inj.1 (by have : (atB L 0).toNat = 48 := by omega
                                       rw [this]; rfl))
     clear h48 hz hlt HA0
     go_wp2_with fail
     go_ret
     exact ⟨by rw [HE.out]; rfl, rfl⟩
   case pos =>
    have e1 : decide ((k : Int) < (s.size : Int)) = true := by simp; omega
    have e2 : decide (k < s.size) = true := by simp; omega
    have j1 : (0 : Int) ≤ (k : Int) := by omega
    have j2 : (k : Int) < (s.size : Int) := by omega
    have HA := hide (HAt.out k hlt)
    obtain ⟨c, hc⟩ : ∃ c, c = (atB L k).toNat := ⟨_, rfl⟩
    have hck : ((s[k]'hlt).toNat : Int) = (c : Int) := by rw [HA.out, hc]
    have HDg := hide (show digB' (atB L k) = (decide (48 ≤ c) && decide (c ≤ 57)) by unfold digB'; rw [hc])
    clear hc
    by_cases hd : 48 ≤ c ∧ c ≤ 57
    case neg =>
     have hno := HNo.out k hlt (by rw [HDg.out]; simp; omega)
     have HE := hide (show t = false by rw [HP.out, hno, Bool.false_and])
     clear hno
     by_cases h48 : c < 48
     case pos =>
      have q1 : decide ((c : Int) < 48) = true := by simp; omega
      clear h48 hd
      go_wp2_with fail
      go_ret
      exact ⟨by rw [HE.out]; rfl, rfl⟩
     case neg =>
      have q1 : decide ((c : Int) < 48) = false := by simp; omega
      have q2 : decide ((57 : Int) < (c : Int)) = true := by simp; omega
      clear h48 hd
      go_wp2_with fail
      go_ret
      exact ⟨by rw [HE.out]; rfl, rfl⟩
    case pos =>
     have q1 : decide ((c : Int) < 48) = false := by simp; omega
     have q2 : decide ((57 : Int) < (c : Int)) = false := by simp; omega
     have HN := hide (show ∀ j, j < k + 1 → digB' (atB L j) = true from fun j hj => by
      by_cases e : j = k
      ·subst e; rw [HDg.out]; simp; omega
      ·exact hall.out j (by omega))
     go_wp2_with fail
     go_round
     case rel => exact ⟨k + 1, by omega, by go_num, HN⟩
     case measure => simp [intOf]; omega
/-- what the library's variable of the error of a range holds -/
def ErrV (w : World) : Prop := ∃ ev, w.cell? ⟨8, 0, none⟩ = some ev ∧ (ev = .nilIface ∨ ∃ te pe, ev = .iface te pe)
theorem ErrV.below {w w' : World} (h : ErrV w) (hb : Below w.heap.size w w') : ErrV w' := by
 obtain ⟨ev, h1, h2⟩ := h
 exact ⟨ev, bkeep hb h1, h2⟩
theorem tickP_plain {L : List UInt8} (hn : L ≠ neverL) (hp : plainT L = false) : tickP L = (0, 2) := by
 unfold tickP
 rw [if_neg hn]
 unfold plainT at hp
 by_cases h : L.length = 0 ∨ (1 < L.length ∧ atB L 0 = 48)
 ·rw [if_pos h]
 ·rw [if_neg h]
  have h1 : (decide (L.length = 0) || (decide (1 < L.length) && decide (atB L 0 = 48))) = false := by
   rw [← Bool.not_eq_true]
   intro hh
   apply h
   simpa using hh
  rw [h1] at hp
  rw [if_pos (by simpa using hp)]
theorem tickP_digits {L : List UInt8} (hn : L ≠ neverL) (hp : plainT L = true) : L.all digB' = true ∧ L ≠ [] ∧ tickP L = if 9223372036854775807 ≤ valFrom 0 L then (0, 12) else (((valFrom 0 L : Nat) : Int), 0) := by
 unfold plainT at hp
 rw [Bool.and_eq_true] at hp
 obtain ⟨h1, h2⟩ := hp
 have h3 : ¬ (L.length = 0 ∨ (1 < L.length ∧ atB L 0 = 48)) := by
  rintro (h | ⟨h, h'⟩)
  ·rw [decide_eq_true h] at h2; simp at h2
  ·rw [decide_eq_true h, decide_eq_true h'] at h2; simp at h2
 refine ⟨h1, fun h => h3 (Or.inl (by rw [h]; rfl)), ?_⟩
 unfold tickP
 rw [if_neg hn, if_neg h3, if_neg (by rw [h1]; simp)]
set_option maxRecDepth 100000 in
set_option maxHeartbeats 6400000 in
theorem tick_c (s : ByteArray) (w : World) (hs : s.size ≤ 1000000000) (hev : ErrV w) : Calls Tryz.prog 180 #[.string s] w fun e w' => e = .returned (.tuple #[.int .i64 (tickP s.data.toList).1, .int .i64 (tickP s.data.toList).2]) ∧ Below w.heap.size w w' := by
 by_cases hn : s.data.toList = neverL
 case pos =>
  have HE := hide (show tickP s.data.toList = (9223372036854775807, 0) by unfold tickP; rw [if_pos hn])
  obtain rfl := never_eq hn
  clear hn
  go_enter Tryz.func180, Tryz.ntmps180
  go_wp2_with fail
  refine bodyPost_ret (v := .tuple #[.int .i64 9223372036854775807, .int .i64 0]) (by simp [results, Tryz.results180, go_sem]; try rfl) rfl ?_
  exact ⟨by rw [HE.out]; rfl, Below.refl _ _⟩
 case neg =>
  have hnv := never_ne hn
  obtain ⟨L, hL⟩ : ∃ L, L = s.data.toList := ⟨_, rfl⟩
  have hLn : L.length = s.size := by rw [hL]; simp
  have HC := hide (fun w => tplain_c s w hs)
  have HOk := hide (fun v h w => Tryz.strconv_ParseInt_10_at64_ok s (by omega) v h w)
  have HRg := hide (fun h ev w hv hev => Tryz.strconv_ParseInt_10_at64_range s (by omega) h ev w hv hev)
  rw [← hL] at hn ⊢ HC HOk HRg
  cases hp : plainT L with
  | false =>
   have HE := hide (tickP_plain hn hp)
   rw [hp] at HC
   clear hL hn hp
   go_enter Tryz.func180, Tryz.ntmps180
   go_wp2_with (go_at_call 205; refine (HC.out _).mono ?_; rintro e wq ⟨rfl, hwq⟩; rw [hwq]; clear hwq)
   refine bodyPost_ret (v := .tuple #[.int .i64 0, .int .i64 2]) (by simp [results, Tryz.results180, go_sem]; try rfl) rfl ?_
   exact ⟨by rw [HE.out]; rfl, Below.refl _ _⟩
  | true =>
   obtain ⟨hall, hne, hE⟩ := tickP_digits hn hp
   have hI := intB_val L hall hne
   rw [hp] at HC
   by_cases hv : valFrom 0 L < 9223372036854775808
   case pos =>
    rw [if_pos hv] at hI
    have HO := hide (HOk.out _ hI)
    by_cases hm : valFrom 0 L = 9223372036854775807
    case pos =>
     rw [if_pos (by omega)] at hE
     have HE := hide hE
     rw [hm] at HO
     have q1 : (((9223372036854775807 : Nat) : Int) == 9223372036854775807) = true := rfl
     clear hE hI hn hp hall hne hv hm hL HRg HOk
     go_enter Tryz.func180, Tryz.ntmps180
     go_wp2_with (first
      | (go_at_call 205; refine (HC.out _).mono ?_; rintro e wq ⟨rfl, hwq⟩; rw [hwq]; clear hwq)
      | (go_at_call 206; refine (HO.out _).mono ?_; rintro e wq ⟨rfl, hwq⟩))
     refine bodyPost_ret (v := .tuple #[.int .i64 0, .int .i64 12]) (by simp [results, Tryz.results180, go_sem]; try rfl) rfl ?_
     refine ⟨by rw [HE.out]; rfl, ?_⟩
     rcases hwq with rfl | ⟨t, rfl⟩
     ·exact Below.refl _ _
     ·exact Lib.bytesWorld_below _ _ _
    case neg =>
     rw [if_neg (by omega)] at hE
     have HE := hide hE
     obtain ⟨m, hmm⟩ : ∃ m, m = valFrom 0 L := ⟨_, rfl⟩
     rw [← hmm] at HO HE hm
     have q1 : ((m : Int) == 9223372036854775807) = false := beq_eq_false_iff_ne.2 (by omega)
     clear hE hI hn hp hall hne hv hm hL HRg HOk hmm
     go_enter Tryz.func180, Tryz.ntmps180
     go_wp2_with (first
      | (go_at_call 205; refine (HC.out _).mono ?_; rintro e wq ⟨rfl, hwq⟩; rw [hwq]; clear hwq)
      | (go_at_call 206; refine (HO.out _).mono ?_; rintro e wq ⟨rfl, hwq⟩))
     refine bodyPost_ret (v := .tuple #[.int .i64 m, .int .i64 0]) (by simp [results, Tryz.results180, go_sem]; try rfl) rfl ?_
     refine ⟨by rw [HE.out]; rfl, ?_⟩
     rcases hwq with rfl | ⟨t, rfl⟩
     ·exact Below.refl _ _
     ·exact Lib.bytesWorld_below _ _ _
   case neg =>
    rw [if_neg hv] at hI
    rw [if_pos (by omega)] at hE
    have HE := hide hE
    obtain ⟨ev, hv1, hv2⟩ := hev
    have HR := hide (HRg.out hI ev w hv1 hv2)
    obtain ⟨sat, hsat⟩ : ∃ x, x = Lib.intSat 64 L := ⟨_, rfl⟩
    rw [← hsat] at HR
    clear hE hI hn hp hall hne hv hL HRg HOk hv1 hv2 hsat
    go_enter Tryz.func180, Tryz.ntmps180
    go_wp2_with (first
     | (go_at_call 205; refine (HC.out _).mono ?_; rintro e wq ⟨rfl, hwq⟩; rw [hwq]; clear hwq)
     | (go_at_call 206; refine HR.out.mono ?_; rintro e wq ⟨N, rfl, _, _, hbel⟩))
    refine bodyPost_ret (v := .tuple #[.int .i64 0, .int .i64 12]) (by simp [results, Tryz.results180, go_sem]; try rfl) rfl ?_
    exact ⟨by rw [HE.out]; rfl, hbel⟩
set_option maxRecDepth 100000 in
set_option maxHeartbeats 1600000 in
theorem number_c (s : ByteArray) (most : Int) (w : World) (hs : s.size ≤ 1000000000) (hev : ErrV w) : Calls Tryz.prog 146 #[.string s, .int .i64 most] w fun e w' => e = .returned (.tuple #[.int .i64 (numberP s.data.toList most).1, .int .i64 (numberP s.data.toList most).2]) ∧ Below w.heap.size w w' := by
 have HC := hide (tick_c s w hs hev)
 have HN := hide (show numberP s.data.toList most = if (tickP s.data.toList).2 = 0 ∧ most ≠ 9223372036854775807 ∧ most < (tickP s.data.toList).1 then (0, 12) else tickP s.data.toList from rfl)
 obtain ⟨r, hr⟩ : ∃ r, r = numberP s.data.toList most := ⟨_, rfl⟩
 obtain ⟨t, ht⟩ : ∃ t, t = tickP s.data.toList := ⟨_, rfl⟩
 rw [← hr] at HN ⊢
 rw [← ht] at HN HC
 clear hr ht hev
 obtain ⟨tv, te⟩ := t
 simp only at HN HC
 go_enter Tryz.func146, Tryz.ntmps146
 by_cases h0 : te = 0
 case neg =>
  have HE := hide (show r = (tv, te) by rw [HN.out, if_neg (fun h => h0 h.1)])
  have q1 : ((te : Int) == 0) = false := beq_eq_false_iff_ne.2 (by omega)
  clear h0
  go_wp2_with (go_at_call 180; refine HC.out.mono ?_; rintro e wq ⟨rfl, hbel⟩)
  refine bodyPost_ret (v := .tuple #[.int .i64 tv, .int .i64 te]) (by simp [results, Tryz.results146, go_sem]; try rfl) rfl ?_
  exact ⟨by rw [HE.out], hbel⟩
 case pos =>
  have q1 : ((te : Int) == 0) = true := beq_iff_eq.2 (by omega)
  by_cases h1 : most = 9223372036854775807
  case pos =>
   have HE := hide (show r = (tv, te) by rw [HN.out, if_neg (fun h => h.2.1 h1)])
   have q2 : (most != 9223372036854775807) = false := by rw [h1]; rfl
   clear h0 h1
   go_wp2_with (go_at_call 180; refine HC.out.mono ?_; rintro e wq ⟨rfl, hbel⟩)
   refine bodyPost_ret (v := .tuple #[.int .i64 tv, .int .i64 te]) (by simp [results, Tryz.results146, go_sem]; try rfl) rfl ?_
   exact ⟨by rw [HE.out], hbel⟩
  case neg =>
   have q2 : (most != 9223372036854775807) = true := bne_iff_ne.2 h1
   by_cases h2 : most < tv
   case pos =>
    have HE := hide (show r = (0, 12) by rw [HN.out, if_pos ⟨h0, h1, h2⟩])
    have q3 : decide (most < tv) = true := decide_eq_true h2
    clear h0 h1 h2
    go_wp2_with (go_at_call 180; refine HC.out.mono ?_; rintro e wq ⟨rfl, hbel⟩)
    refine bodyPost_ret (v := .tuple #[.int .i64 0, .int .i64 12]) (by simp [results, Tryz.results146, go_sem]; try rfl) rfl ?_
    exact ⟨by rw [HE.out]; rfl, hbel⟩
   case neg =>
    have HE := hide (show r = (tv, te) by rw [HN.out, if_neg (fun h => h2 h.2.2)])
    have q3 : decide (most < tv) = false := decide_eq_false h2
    clear h0 h1 h2
    go_wp2_with (go_at_call 180; refine HC.out.mono ?_; rintro e wq ⟨rfl, hbel⟩)
    refine bodyPost_ret (v := .tuple #[.int .i64 tv, .int .i64 te]) (by simp [results, Tryz.results146, go_sem]; try rfl) rfl ?_
    exact ⟨by rw [HE.out], hbel⟩
set_option maxRecDepth 100000 in
set_option maxHeartbeats 1600000 in
theorem refNumber_c (s : ByteArray) (most : Int) (w : World) (hs : s.size ≤ 1000000000) : Calls Tryz.prog 152 #[.string s, .int .i64 most] w fun e w' => e = .returned (.tuple #[.int .i64 (numberP s.data.toList most).1, .int .i64 (numberP s.data.toList most).2]) ∧ w' = w := by
 have HC := hide (refTick_c s w hs)
 have HN := hide (show numberP s.data.toList most = if (tickP s.data.toList).2 = 0 ∧ most ≠ 9223372036854775807 ∧ most < (tickP s.data.toList).1 then (0, 12) else tickP s.data.toList from rfl)
 obtain ⟨r, hr⟩ : ∃ r, r = numberP s.data.toList most := ⟨_, rfl⟩
 obtain ⟨t, ht⟩ : ∃ t, t = tickP s.data.toList := ⟨_, rfl⟩
 rw [← hr] at HN ⊢
 rw [← ht] at HN HC
 clear hr ht
 obtain ⟨tv, te⟩ := t
 simp only at HN HC
 go_enter Tryz.func152, Tryz.ntmps152
 by_cases h0 : te = 0
 case neg =>
  have HE := hide (show r = (tv, te) by rw [HN.out, if_neg (fun h => h0 h.1)])
  have q1 : ((te : Int) == 0) = false := beq_eq_false_iff_ne.2 (by omega)
  clear h0
  go_wp2_with (go_at_call 185; refine HC.out.mono ?_; rintro e wq ⟨rfl, hwq⟩; rw [hwq]; clear hwq)
  refine bodyPost_ret (v := .tuple #[.int .i64 tv, .int .i64 te]) (by simp [results, Tryz.results152, go_sem]; try rfl) rfl ?_
  exact ⟨by rw [HE.out], rfl⟩
 case pos =>
  have q1 : ((te : Int) == 0) = true := beq_iff_eq.2 (by omega)
  by_cases h1 : most = 9223372036854775807
  case pos =>
   have HE := hide (show r = (tv, te) by rw [HN.out, if_neg (fun h => h.2.1 h1)])
   have q2 : (most != 9223372036854775807) = false := by rw [h1]; rfl
   clear h0 h1
   go_wp2_with (go_at_call 185; refine HC.out.mono ?_; rintro e wq ⟨rfl, hwq⟩; rw [hwq]; clear hwq)
   refine bodyPost_ret (v := .tuple #[.int .i64 tv, .int .i64 te]) (by simp [results, Tryz.results152, go_sem]; try rfl) rfl ?_
   exact ⟨by rw [HE.out], rfl⟩
  case neg =>
   have q2 : (most != 9223372036854775807) = true := bne_iff_ne.2 h1
   by_cases h2 : most < tv
   case pos =>
    have HE := hide (show r = (0, 12) by rw [HN.out, if_pos ⟨h0, h1, h2⟩])
    have q3 : decide (most < tv) = true := decide_eq_true h2
    clear h0 h1 h2
    go_wp2_with (go_at_call 185; refine HC.out.mono ?_; rintro e wq ⟨rfl, hwq⟩; rw [hwq]; clear hwq)
    refine bodyPost_ret (v := .tuple #[.int .i64 0, .int .i64 12]) (by simp [results, Tryz.results152, go_sem]; try rfl) rfl ?_
    exact ⟨by rw [HE.out]; rfl, rfl⟩
   case neg =>
    have HE := hide (show r = (tv, te) by rw [HN.out, if_neg (fun h => h2 h.2.2)])
    have q3 : decide (most < tv) = false := decide_eq_false h2
    clear h0 h1 h2
    go_wp2_with (go_at_call 185; refine HC.out.mono ?_; rintro e wq ⟨rfl, hwq⟩; rw [hwq]; clear hwq)
    refine bodyPost_ret (v := .tuple #[.int .i64 tv, .int .i64 te]) (by simp [results, Tryz.results152, go_sem]; try rfl) rfl ?_
    exact ⟨by rw [HE.out], rfl⟩
end Go.Proofs.YtaioaojfdngfdaaGreatDoor
