/- A pattern's text, by the program: glob.Parse. Conditions: those of each theorem. -/
import Derived.Test.YtdmdohjdmnmabaaGreatDoorQh17
import Derived.Test.YtdmdohjdmnmabaaGreatDoorQh04
import Derived.Test.YtdmdohjdmnmabaaGreatDoorQh02
namespace Go.Proofs.YtdmdohjdmnmabaaGreatDoor
open Go.RowKit
set_option linter.unusedVariables false

theorem Tryz.infoItem : (Tryz.prog.info? 201).map (fun i => (i.zero, i.size, i.bytes)) = some (some (.agg #[.bool false, .int .u64 0, .int .u64 0, .int .u64 0, .int .u64 0]), 5, 40) := by kernel_rfl
theorem encIt_one (x : ItM) : ∀ u ∈ encIt x, u.oneCell' = true := by intro u hu; simp [encIt] at hu; rcases hu with rfl | rfl | rfl | rfl | rfl <;> rfl
theorem encIt_len (x : ItM) : (encIt x).length = 5 := rfl
/-- so many runs ahead -/
def combS (rs : List Bool) (p : Nat) (x : List Bool × Nat × Nat) : List Bool × Nat × Nat := if x.2.2 ≠ 0 then ([], p + x.2.1, x.2.2) else (rs ++ x.1, 0, 0)
theorem comb_more {rs : List Bool} {p k : Nat} {l : List UInt8} (h : l ≠ []) (hk : k ≠ 60) (he : (itemS l).2.2 = 0) :
 combS rs p (parsesS k l) = combS (rs ++ [(itemS l).1]) (p + (itemS l).2.1) (parsesS (k + 1) (l.drop (itemS l).2.1)) := by
 rw [parsesS_more h hk he]
 unfold combS
 by_cases hx : (parsesS (k + 1) (l.drop (itemS l).2.1)).2.2 = 0
 ·simp [hx]
 ·simp [hx, Nat.add_assoc]
theorem parseS_shape (f k : Nat) (l : List UInt8) : ((parseS f k l).2.2 ≠ 0 → (parseS f k l).1 = []) ∧ ((parseS f k l).2.2 = 0 → (parseS f k l).2.1 = 0) := by
 cases f with
 | zero => simp [parseS]
 | succ f =>
  unfold parseS
  repeat' split
  all_goals simp_all
theorem comb_start (l : List UInt8) : parsesS 0 l = combS [] 0 (parsesS 0 l) := by
 obtain ⟨h1, h2⟩ := parseS_shape (l.length + 1) 0 l
 obtain ⟨r, a, e, hx⟩ : ∃ r a e, parsesS 0 l = (r, a, e) := ⟨_, _, _, rfl⟩
 have hx' : parseS (l.length + 1) 0 l = (r, a, e) := hx
 rw [hx'] at h1 h2
 rw [hx]
 unfold combS
 by_cases he : e = 0
 ·simp only at h2
  simp [he, h2 he]
 ·simp only at h1
  simp [he, h1 he]
theorem ext_suf (s : ByteArray) (q : Nat) (h : q ≤ s.size) : (s.extract q s.size).data.toList = suf s q := by
 unfold suf
 rw [ByteArray.data_extract, Array.toList_extract, List.extract_eq_take_drop]
 apply List.take_of_length_le
 rw [List.length_drop, ba_size]
 exact Nat.le_refl _
theorem ext_size (s : ByteArray) (q : Nat) (h : q ≤ s.size) : (s.extract q s.size).size = s.size - q := by
 rw [← ba_size, ext_suf s q h, suf_len]
theorem own_keep {S : Nat → Prop} {w w' : World} {base size n : Nat} {e : TypeId} {v : Value} {xs : List Value} (h : w.ownsRow base e size v n xs) (k : Only S w w') (hS : ∀ g cs, S g → ¬ Blk w g e cs) : w'.ownsRow base e size v n xs := by
 obtain ⟨hl, h2⟩ := h
 refine ⟨hl, ?_⟩
 rcases h2 with ⟨hv, hn⟩ | ⟨g, cap, cur, hv, hb, hh, r⟩
 ·exact Or.inl ⟨hv, hn⟩
 ·refine Or.inr ⟨g, cap, cur, hv, hb, ?_, r⟩
  have hlt : g < w.heap.size := Blk.lt (t := e) (cs := cur) hh
  rw [k.block g hlt (fun hs => hS g cur hs hh)]
  exact hh
theorem own_nil {w : World} {base size : Nat} {e : TypeId} (h : base ≤ w.heap.size) : w.ownsRow base e size (.slice none 0 0) 0 [] := ⟨by simp, Or.inl ⟨rfl, rfl⟩⟩
def RetParse (l : List UInt8) (w : World) (e : Ending) (w' : World) : Prop :=
 ∃ (A : Option Addr) (c : Nat) (its : List ItM), e = .returned (.tuple #[.slice A its.length c, .int .i64 (parsesS 0 l).2.1, .int .i64 (parsesS 0 l).2.2]) ∧ ((parsesS 0 l).2.2 = 0 → its.map (·.run) = (parsesS 0 l).1) ∧ (∀ x ∈ its, ItOk x) ∧ its.length ≤ 60 ∧ Rd w' NoBlk A (flat encIt its) ∧ Only NoBlk w w'
set_option maxRecDepth 100000 in
set_option maxHeartbeats 6400000 in
theorem Parse_c (s : ByteArray) (w : World) (hs : s.size ≤ 9223372036854775807) : Calls Tryz.prog 176 #[.string s] w (RetParse s.data.toList w) := by
 obtain ⟨i0, hi, hz0, hz1, hz2⟩ := info_parts Tryz.infoItem
 rw [← suf_all]
 go_enter Tryz.func176, Tryz.ntmps176
 go_wp2_with fail
 go_loopw [5, 6] (fun v i wr => ∃ (q : Nat) (its : List ItM), its.length ≤ 60 ∧ q ≤ s.size ∧ i = .int .i64 q ∧ Hid (wr.ownsRow w.heap.size 201 5 v its.length (flat encIt its)) ∧ Hid (∀ x ∈ its, ItOk x) ∧ Hid (Only NoBlk w wr) ∧ Hid (parsesS 0 (suf s 0) = combS (its.map (·.run)) q (parsesS its.length (suf s q)))) (fun _ i _ => s.size - (intOf i).toNat)
 case atStart => exact ⟨0, [], by simp, Nat.zero_le _, rfl, hide (own_nil (Nat.le_refl _)), hide (by simp), hide (Only.refl _ _), hide (comb_start _)⟩
 case round =>
  obtain ⟨q, its, hk, hq, rfl, HOW, HIT, HO, HP⟩ := hrel
  by_cases hlt : q < s.size
  ·have d1 : decide ((q : Int) < (s.size : Int)) = true := by simp; exact hlt
   have d2 : decide (q < s.size) = true := by simp; exact hlt
   have hne : suf s q ≠ [] := by rw [suf_cons hlt]; simp
   obtain ⟨A5, c5, rfl, hcap⟩ := own_cap HOW.out
   obtain ⟨k, hkk⟩ : ∃ k, k = its.length := ⟨_, rfl⟩
   rw [← hkk] at hk HOW HP ⊢
   have HKK := hide hkk
   clear hkk
   by_cases hk6 : k = 60
   ·subst hk6
    have HQ := hide (show parsesS 0 (suf s 0) = ([], q, 4) by rw [HP.out, parsesS_full hne]; rfl)
    clear hne
    go_wp2_with fail
    refine bodyPost_ret (v := .tuple #[.slice none 0 0, .int .i64 q, .int .i64 (4 : Nat)]) (by simp [results, Tryz.results176, go_sem]) rfl ?_
    unfold RetParse
    rw [HQ.out]
    exact ⟨none, 0, [], rfl, by simp, by simp, by simp, Or.inl rfl, HO.out⟩
   ·have hkb : ((k : Int) == 60) = false := by simp only [beq_eq_false_iff_ne, ne_eq]; omega
    have HI := hide (fun (w' : World) => item_c (s.extract q s.size) w' (by rw [ext_size s q hq]; omega) (by rw [ext_size s q hq]; omega))
    rw [ext_suf s q hq] at HI
    have hle := itemS_le (suf s q)
    have hpos := itemS_pos (l := suf s q) hne
    have hcm := comb_more (rs := its.map (·.run)) (p := q) (k := k) hne hk6
    have hbd := parsesS_bad (l := suf s q) (k := k) hne hk6
    unfold RetItem at HI
    rw [suf_len] at hle
    obtain ⟨rn, n, e0, hit⟩ : ∃ rn n e0, itemS (suf s q) = (rn, n, e0) := ⟨_, _, _, rfl⟩
    rw [hit] at HI hle hpos hcm hbd
    simp only at hle hpos hcm hbd
    rw [suf_drop] at hcm
    have w1 : IntKind.i64.wrap ((q : Int) + (n : Int)) = (q : Int) + (n : Int) := IntWalk.i64_in _ (by omega)
    have j1 : (0 : Int) ≤ (q : Int) := by omega
    have j2 : (q : Int) ≤ (s.size : Int) := by omega
    by_cases he : e0 = 0
    ·subst he
     have HCM := hide (hcm rfl)
     have HPO := hide (hpos rfl)
     clear hcm hbd hpos hit hne
     go_wp2_with fail
     refine (HI.out _).mono ?_
     rintro e w4 ⟨⟨xr, xa, xb, xc, xd⟩, rfl, hxr, hxo, ho4⟩
     have HXR := hide hxr
     have HXO := hide hxo
     have HOW4 := hide (own_keep HOW.out ho4 (fun _ _ h => h.elim))
     replace HO := hide (HO.out.trans ho4)
     clear hxr hxo
     unfold encIt
     have hb4 : w.heap.size ≤ w4.heap.size := HO.out.size
     clear ho4 HOW
     have HOW := hide ((HOW4.out.alloc (.cells #[.bool xr, .int .u64 xa, .int .u64 xb, .int .u64 xc, .int .u64 xd] 201)).alloc (.cells #[.bool xr, .int .u64 xa, .int .u64 xb, .int .u64 xc, .int .u64 xd] 201))
     have Hrd := hide (show Rd ((w4.alloc (.cells #[.bool xr, .int .u64 xa, .int .u64 xb, .int .u64 xc, .int .u64 xd] 201)).alloc (.cells #[.bool xr, .int .u64 xa, .int .u64 xb, .int .u64 xc, .int .u64 xd] 201)) NoBlk (some ⟨w4.heap.size + 1, 0, none⟩) (encIt ⟨xr, xa, xb, xc, xd⟩) from rd_blkN (Blk.new' (by simp)) (fun h => h))
     have HO2 := hide ((HO.out.alloc (.cells #[.bool xr, .int .u64 xa, .int .u64 xb, .int .u64 xc, .int .u64 xd] 201)).alloc (.cells #[.bool xr, .int .u64 xa, .int .u64 xb, .int .u64 xc, .int .u64 xd] 201))
     have Hone := hide (encIt_one ⟨xr, xa, xb, xc, xd⟩)
     go_wp2_with (at_builtin; refine wpList_append_rd _ rfl (.tmp 32) (.tmp 34) _ rfl w.heap.size 201 i0 _ 5 40 Tryz.underlying145 hi hz0 hz1 hz2 rfl (by omega) _ k _ rfl HOW.out NoBlk (some ⟨w4.heap.size + 1, 0, none⟩) 1 1 (encIt ⟨xr, xa, xb, xc, xd⟩) rfl Hrd.out rfl Hone.out (by simp only [maxLen]; omega) (by omega) (by simp; omega) ?_; intro v2 w2 hown2 hgr _; have Own2 := hide hown2; have Gr := hide hgr; clear hown2 hgr)
     go_roundw
     case rel =>
      refine ⟨q + n, its ++ [⟨xr, xa, xb, xc, xd⟩], ?_, by omega, by go_num, ?_, ?_, ?_, ?_⟩
      ·rw [List.length_append, ← HKK.out]; simp; omega
      ·exact hide (by rw [flat_append, List.length_append, ← HKK.out]; have := Own2.out; simpa [flat] using this)
      ·exact hide (by intro y hy; rcases List.mem_append.1 hy with hy | hy; exact HIT.out y hy; rw [List.mem_singleton.1 hy]; exact HXO.out)
      ·exact hide (HO2.out.grown Gr.out (fun j hj => Or.inr (own_ge HOW.out j hj)))
      ·exact hide (by rw [HP.out, HCM.out, List.map_append, List.length_append, ← HKK.out, ← HXR.out]; rfl)
     case measure => simp [intOf]; have := HPO.out; omega
    ·have hne0 : ((e0 : Int) != 0) = true := by simp only [bne_iff_ne, ne_eq]; omega
     have HQ := hide (show parsesS 0 (suf s 0) = ([], q + n, e0) by rw [HP.out, hbd he]; unfold combS; rw [if_pos he])
     clear hcm hbd hpos hit hne he
     go_wp2_with fail
     refine (HI.out _).mono ?_
     rintro e w4 ⟨⟨xr, xa, xb, xc, xd⟩, rfl, hxr, hxo, ho4⟩
     replace HO := hide (HO.out.trans ho4)
     clear hxr hxo ho4
     unfold encIt
     go_wp2_with fail
     refine bodyPost_ret (v := .tuple #[.slice none 0 0, .int .i64 ((q : Int) + (n : Int)), .int .i64 e0]) (by simp [results, Tryz.results176, go_sem]) rfl ?_
     unfold RetParse
     rw [HQ.out]
     exact ⟨none, 0, [], rfl, fun h => absurd h (by simpa using hne0), by simp, by simp, Or.inl rfl, HO.out.alloc _⟩
  ·obtain rfl : q = s.size := by omega
   have d1 : decide ((s.size : Int) < (s.size : Int)) = false := by simp
   have d2 : decide (s.size < s.size) = false := by simp
   obtain ⟨A5, c5, rfl, hcap⟩ := own_cap HOW.out
   obtain ⟨k, hkk⟩ : ∃ k, k = its.length := ⟨_, rfl⟩
   rw [← hkk] at hk HOW HP ⊢
   have HKK := hide hkk
   clear hkk
   have HQ := hide (show parsesS 0 (suf s 0) = (its.map (·.run), 0, 0) by rw [HP.out, suf_nil (Nat.le_refl _), parsesS_nil]; simp [combS])
   have HRd := hide (Rd.of_own (M := NoBlk) HOW.out (fun k h => h.elim))
   go_wp2_with fail
   refine bodyPost_ret (v := .tuple #[.slice A5 k c5, .int .i64 (0 : Nat), .int .i64 (0 : Nat)]) (by simp [results, Tryz.results176, go_sem]) rfl ?_
   unfold RetParse
   rw [HQ.out, HKK.out]
   exact ⟨A5, c5, its, rfl, fun _ => rfl, HIT.out, by rw [← HKK.out]; exact hk, HRd.out, HO.out⟩
end Go.Proofs.YtdmdohjdmnmabaaGreatDoor
