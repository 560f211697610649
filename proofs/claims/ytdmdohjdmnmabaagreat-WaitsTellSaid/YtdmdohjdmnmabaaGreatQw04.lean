/- Parts of a chain of lemmas: Few, Name. Conditions: those of each theorem. -/
import Derived.Test.YtdmdohjdmnmabaaGreatQw03
import Derived.Deep.DeepCutAuto
import Derived.Deep.CutBlock
import Derived.Test.YtdmdohjdmnmabaaGreatQw02
namespace Go.Proofs.YtdmdohjdmnmabaaGreat
open Go.RowKit
set_option linter.unusedVariables false

section
variable {w : World} {M : Nat → Prop} {A : Option Addr} {l : List Ev}
theorem ev_cells (hr : Rd w M A (flat encEv l)) (k : Nat) (hk : k < l.length) : ∃ b o, A = some ⟨b, o, none⟩ ∧ ¬ M b ∧ b < w.heap.size ∧
 w.cell? ⟨b, o + k * 12, none⟩ = some (.int .i64 (evAt l k).k) ∧ w.cell? ⟨b, o + k * 12 + 1, none⟩ = some (.int .i64 (evAt l k).id) ∧ w.cell? ⟨b, o + k * 12 + 2, none⟩ = some (.int .i64 (evAt l k).n) ∧ w.cell? ⟨b, o + k * 12 + 3, none⟩ = some (.int .i64 (evAt l k).tick) ∧
 w.cell? ⟨b, o + k * 12 + 4, none⟩ = some (.string (evAt l k).s) ∧ w.cell? ⟨b, o + k * 12 + 5, none⟩ = some (.int .i64 (evAt l k).err) ∧ w.cell? ⟨b, o + k * 12 + 6, none⟩ = some (.int .i64 (evAt l k).st.tick) ∧ w.cell? ⟨b, o + k * 12 + 7, none⟩ = some (.int .i64 (evAt l k).st.at_) ∧
 w.cell? ⟨b, o + k * 12 + 8, none⟩ = some (.int .i64 (evAt l k).st.what) ∧ w.cell? ⟨b, o + k * 12 + 9, none⟩ = some (.int .i64 (evAt l k).st.arm) ∧ w.cell? ⟨b, o + k * 12 + 10, none⟩ = some (.int .i64 (evAt l k).st.n) ∧ w.cell? ⟨b, o + k * 12 + 11, none⟩ = some (.int .i64 (evAt l k).st.status) := by
 obtain ⟨b, o, hA, hm, hb, hc⟩ := flat_cells encEv_len hr k _ (evAt_some hk) (by omega)
 exact ⟨b, o, hA, hm, hb, hc 0 (by omega), hc 1 (by omega), hc 2 (by omega), hc 3 (by omega), hc 4 (by omega), hc 5 (by omega), hc 6 (by omega), hc 7 (by omega), hc 8 (by omega), hc 9 (by omega), hc 10 (by omega), hc 11 (by omega)⟩
end
theorem bkeepL {B : Nat} {w0 w1 : World} {b o : Nat} {v : Value} (h : Below B w0 w1) (hb : b < B) (hc : w0.cell? ⟨b, o, none⟩ = some v) : w1.cell? ⟨b, o, none⟩ = some v :=
 (h.cell (p := ⟨b, o, none⟩) hb).trans hc
/-- the twelve values of an event -/
def evV (x : Ev) : Array Value := #[.int .i64 x.k, .int .i64 x.id, .int .i64 x.n, .int .i64 x.tick, .string x.s, .int .i64 x.err, .int .i64 x.st.tick, .int .i64 x.st.at_, .int .i64 x.st.what, .int .i64 x.st.arm, .int .i64 x.st.n, .int .i64 x.st.status]
theorem fewL_succ (l : List Ev) (k : Nat) (h : k < l.length) : fewL l (k + 1) = fewL l k ++ [{ evAt l k with s := cutS (evAt l k).s 24 }] := by
 unfold fewL
 rw [List.take_succ_eq_append_getElem h, List.map_append]
 have e : evAt l k = l[k] := by simp [evAt, List.getD, h]
 rw [e]; rfl
theorem fewL_len (l : List Ev) (k : Nat) (h : k ≤ l.length) : (fewL l k).length = k := by
 unfold fewL
 rw [List.length_map, List.length_take]; omega
set_option maxRecDepth 100000 in
set_option maxHeartbeats 1600000 in
theorem Few_c (M : Nat → Prop) (A : Option Addr) (c : Nat) (l : List Ev) (most : Nat) (w : World) (hr : Rd w M A (flat encEv l)) (hn0 : l.length ≤ maxLen) (hm : most ≤ 1000) (hM : ∀ k, M k → k < w.heap.size) :
 Calls Tryz.prog 13 #[.slice A l.length c, .int .i64 most] w (RetEvs M (fewL l most) w) := by
 have hn : l.length ≤ 9223372036854775807 := hn0
 have Hc := hide (fun k hk => ev_cells hr k hk)
 have HM := hide hM
 obtain ⟨i0, hi, hz0, hz1, hz2⟩ := info_parts Tryz.infoEv
 obtain ⟨n, hnl⟩ : ∃ n, n = l.length := ⟨_, rfl⟩
 rw [← hnl] at hn ⊢
 have Hn := hide hnl
 clear hr hM hn0 hnl
 go_enter Tryz.func13, Tryz.ntmps13
 go_wp2_with fail
 go_loopw [5, 6] (fun v i wr => ∃ k : Nat, k ≤ n ∧ k ≤ most ∧ i = .int .i64 k ∧ wr.ownsRow w.heap.size 82 12 v k (flat encEv (fewL l k)) ∧ Below w.heap.size w wr) (fun _ i _ => n - (intOf i).toNat)
 case atStart => exact ⟨0, Nat.zero_le _, Nat.zero_le _, rfl, own_empty (Nat.le_refl _), below_alloc _ _⟩
 case round =>
  obtain ⟨k, hk, hkm, rfl, hown, hbel⟩ := hrel
  by_cases hboth : k < n ∧ k < most
  ·obtain ⟨hlt, hltm⟩ := hboth
   obtain ⟨b, o, rfl, _, hb, g0, g1, g2, g3, g4, g5, g6, g7, g8, g9, g10, g11⟩ := Hc.out k (by rw [← Hn.out]; exact hlt)
   replace g0 := bkeepL hbel hb g0
   replace g1 := bkeepL hbel hb g1
   replace g2 := bkeepL hbel hb g2
   replace g3 := bkeepL hbel hb g3
   replace g4 := bkeepL hbel hb g4
   replace g5 := bkeepL hbel hb g5
   replace g6 := bkeepL hbel hb g6
   replace g7 := bkeepL hbel hb g7
   replace g8 := bkeepL hbel hb g8
   replace g9 := bkeepL hbel hb g9
   replace g10 := bkeepL hbel hb g10
   replace g11 := bkeepL hbel hb g11
   have HF := hide (fewL_succ l k (by rw [← Hn.out]; exact hlt))
   obtain ⟨x, hx⟩ : ∃ x, x = evAt l k := ⟨_, rfl⟩
   rw [← hx] at g0 g1 g2 g3 g4 g5 g6 g7 g8 g9 g10 g11
   have HX := hide hx
   clear hx
   obtain ⟨y, hy⟩ : ∃ y : Ev, y = { x with s := cutS x.s 24 } := ⟨_, rfl⟩
   have HY := hide hy
   have hsy := hide (show cutS x.s 24 = y.s by rw [hy])
   clear hy
   have hrd : Rd (((wr.alloc (.cells (encEv { x with s := cutS x.s 24 }).toArray 82)).alloc (.cells (encEv { x with s := cutS x.s 24 }).toArray 82))) NoBlk (some ⟨wr.heap.size + 1, 0, none⟩) (encEv { x with s := cutS x.s 24 }) := rd_blkN (Blk.new' (by simp)) (fun h => h)
   have Hrd := hide hrd
   have Hone := hide (encEv_one { x with s := cutS x.s 24 })
   clear hrd
   go_wp2_with (first
    | (go_at_call 38; refine (cutS_c x.s 24 _ (by omega)).mono ?_; rintro e w2 ⟨rfl, rfl⟩)
    | (at_builtin; refine wpList_append_rd _ rfl (.tmp 28) (.tmp 30) _ rfl w.heap.size 82 i0 _ 12 104 Tryz.underlying38 hi hz0 hz1 hz2 rfl (by omega) _ k _ rfl ((hown.alloc _).alloc _) NoBlk (some ⟨wr.heap.size + 1, 0, none⟩) 1 1 (encEv { x with s := cutS x.s 24 }) rfl Hrd.out rfl Hone.out (by simp only [maxLen]; omega) (by omega) (by have := hbel.size; simp; omega) ?_; intro v2 w2 hown2 hgr _; have Own2 := hide hown2; have Gr := hide hgr; clear hown2 hgr))
   go_roundw
   case rel =>
    refine ⟨k + 1, by omega, by omega, by go_num, ?_, ?_⟩
    ·rw [HF.out, ← HX.out, flat_append]
     have := Own2.out
     simpa [flat] using this
    ·exact ((hbel.alloc hbel.size _).alloc (by have := hbel.size; simp; omega) _).grown Gr.out (by have := hbel.size; simp; omega) (fun j hj => by have := own_ge hown j hj; omega)
   case measure => simp [intOf]; omega
  ·have hke : (fewL l most).length = k ∧ fewL l most = fewL l k := by
    have hln := Hn.out
    by_cases h1 : k = n
    ·have e : fewL l most = fewL l k := by
      unfold fewL
      rw [List.take_of_length_le (by omega), List.take_of_length_le (by omega)]
     exact ⟨by rw [e, fewL_len l k (by omega)], e⟩
    ·have h2 : k = most := by omega
     rw [h2]
     exact ⟨fewL_len l most (by omega), rfl⟩
   have HK := hide hke
   clear hke
   obtain ⟨A1, c1, rfl, hcap⟩ := own_cap hown
   have Hr := hide (Rd.of_own hown HM.out)
   have fin : RetEvs M (fewL l most) w (.returned (.slice A1 k c1)) wr := by
    refine ⟨A1, c1, by rw [HK.out.1], ?_, hbel, by rw [HK.out.1]; exact hcap⟩
    rw [HK.out.2]; exact Hr.out
   have Fin := hide fin
   clear fin
   by_cases hlt : k < n
   ·have hd : decide ((k : Int) < most) = false := by simp; omega
    have hd2 : decide (k < most) = false := by simp; omega
    clear hboth hown hbel
    go_wp2_with fail
    go_ret
    exact Fin.out
   ·have hd : decide ((k : Int) < n) = false := by simp; omega
    have hd2 : decide (k < n) = false := by simp; omega
    clear hboth hown hbel
    go_wp2_with fail
    go_ret
    exact Fin.out
/-- the first who was opened under a number: its place -/
def idxO (id : Int) (l : List Ev) : Int := if l.any (opens id) then (l.findIdx (opens id) : Int) else -1
theorem pred_c (x : Ev) (id : Int) (b : Nat) (w : World) (hb : w.cell? ⟨b, 0, none⟩ = some (.int .i64 id)) (hlt : b < w.heap.size) :
 Calls Tryz.prog 130 #[.agg #[.int .i64 x.k, .int .i64 x.id, .int .i64 x.n, .int .i64 x.tick, .string x.s, .int .i64 x.err, .int .i64 x.st.tick, .int .i64 x.st.at_, .int .i64 x.st.what, .int .i64 x.st.arm, .int .i64 x.st.n, .int .i64 x.st.status], .pointer (some ⟨b, 0, none⟩)] w fun e w' => e = .returned (.bool (opens id x)) ∧ Below w.heap.size w w' := by
 unfold opens
 have hne : ¬ b = w.heap.size := by omega
 have hne2 : ¬ w.heap.size = b := by omega
 by_cases h : x.k = 2
 ·by_cases h2 : x.id = id
  ·rw [decide_eq_true ⟨h, h2⟩]
   have hb1 : (x.k == 2) = true := by simp [h]
   have hb2 : (x.id == id) = true := by simp [h2]
   clear h h2
   go_enter Tryz.func130, Tryz.ntmps130
   go_wp2_with fail
   go_ret
   exact ⟨rfl, below_alloc _ _⟩
  ·rw [decide_eq_false (fun h => h2 h.2)]
   have hb1 : (x.k == 2) = true := by simp [h]
   have hb2 : (x.id == id) = false := by simp [h2]
   clear h h2
   go_enter Tryz.func130, Tryz.ntmps130
   go_wp2_with fail
   go_ret
   exact ⟨rfl, below_alloc _ _⟩
 ·rw [decide_eq_false (fun h' => h h'.1)]
  have hb1 : (x.k == 2) = false := by simp [h]
  clear h
  go_enter Tryz.func130, Tryz.ntmps130
  go_wp2_with fail
  go_ret
  exact ⟨rfl, below_alloc _ _⟩
theorem idxO_at (id : Int) (l : List Ev) (k : Nat) (hk : k < l.length) (h : ∀ y ∈ l.take k, opens id y = false) (hx : opens id (evAt l k) = true) : idxO id l = k := by
 have e : evAt l k = l[k] := by simp [evAt, List.getD, hk]
 rw [e] at hx
 unfold idxO
 have ha : l.any (opens id) = true := List.any_eq_true.2 ⟨l[k], List.getElem_mem hk, hx⟩
 rw [if_pos ha]
 have : l.findIdx (opens id) = k := by
  rw [List.findIdx_eq hk]
  refine ⟨hx, fun j hj => ?_⟩
  exact h _ (by rw [List.mem_take_iff_getElem]; exact ⟨j, by omega, rfl⟩)
 rw [this]
theorem idxO_none (id : Int) (l : List Ev) (h : ∀ y ∈ l, opens id y = false) : idxO id l = -1 := by
 unfold idxO
 have ha : ¬ l.any (opens id) = true := by
  rw [List.any_eq_true]
  rintro ⟨x, hx, ho⟩
  rw [h x hx] at ho
  cases ho
 rw [if_neg ha]
set_option maxRecDepth 100000 in
set_option maxHeartbeats 1600000 in
theorem IndexO_c (M : Nat → Prop) (A : Option Addr) (c : Nat) (l : List Ev) (id : Int) (b : Nat) (w : World) (hr : Rd w M A (flat encEv l)) (hn0 : l.length ≤ maxLen) (hb : w.cell? ⟨b, 0, none⟩ = some (.int .i64 id)) (hlt : b < w.heap.size) :
 Calls Tryz.prog 129 #[.slice A l.length c, .func (.func 130) #[] #[.pointer (some ⟨b, 0, none⟩)]] w fun e w' => e = .returned (.int .i64 (idxO id l)) ∧ Below w.heap.size w w' := by
 have hn : l.length ≤ 9223372036854775807 := hn0
 have Hc := hide (fun k hk => ev_cells hr k hk)
 obtain ⟨n, hnl⟩ : ∃ n, n = l.length := ⟨_, rfl⟩
 rw [← hnl] at hn ⊢
 have Hn := hide hnl
 have Hb := hide hb
 clear hr hn0 hnl hb
 go_enter Tryz.func129, Tryz.ntmps129
 go_wp2_with fail
 go_loopw [8] (fun i wr => ∃ k : Nat, k ≤ n ∧ i = .int .i64 k ∧ Hid (∀ y ∈ l.take k, opens id y = false) ∧ Below w.heap.size w wr) (fun i _ => n - (intOf i).toNat)
 case atStart => exact ⟨0, Nat.zero_le _, rfl, hide (by simp), Below.refl _ _⟩
 case round =>
  obtain ⟨k, hk, rfl, hnone, hbel⟩ := hrel
  by_cases hlt2 : k < n
  ·obtain ⟨b2, o, rfl, _, hb2, g0, g1, g2, g3, g4, g5, g6, g7, g8, g9, g10, g11⟩ := Hc.out k (by rw [← Hn.out]; exact hlt2)
   replace g0 := bkeepL hbel hb2 g0
   replace g1 := bkeepL hbel hb2 g1
   replace g2 := bkeepL hbel hb2 g2
   replace g3 := bkeepL hbel hb2 g3
   replace g4 := bkeepL hbel hb2 g4
   replace g5 := bkeepL hbel hb2 g5
   replace g6 := bkeepL hbel hb2 g6
   replace g7 := bkeepL hbel hb2 g7
   replace g8 := bkeepL hbel hb2 g8
   replace g9 := bkeepL hbel hb2 g9
   replace g10 := bkeepL hbel hb2 g10
   replace g11 := bkeepL hbel hb2 g11
   have hpred := pred_c (evAt l k) id b wr (bkeepL hbel hlt Hb.out) (Nat.lt_of_lt_of_le hlt hbel.size)
   cases ho : opens id (evAt l k) with
   | true =>
    rw [ho] at hpred
    have HP := hide hpred
    have HI := hide (idxO_at id l k (by rw [← Hn.out]; exact hlt2) hnone.out ho)
    clear hpred ho
    go_wp2_with (go_at_call 130; refine HP.out.mono ?_; rintro e w2 ⟨rfl, hb2⟩)
    go_ret
    exact ⟨ret_int HI.out.symm, hbel.trans (hb2.mono hbel.size)⟩
   | false =>
    rw [ho] at hpred
    have HP := hide hpred
    have HI : Hid (∀ y ∈ l.take (k + 1), opens id y = false) := by
     intro y hy
     rw [List.take_succ_eq_append_getElem (by rw [← Hn.out]; exact hlt2)] at hy
     rcases List.mem_append.1 hy with hy | hy
     ·exact hnone.out y hy
     ·simp at hy
      subst hy
      rw [← ho]
      have e : evAt l k = l[k]'(by rw [← Hn.out]; exact hlt2) := by simp [evAt, List.getD, show k < l.length by rw [← Hn.out]; exact hlt2]
      rw [e]
    clear hpred ho hnone
    go_wp2_with (go_at_call 130; refine HP.out.mono ?_; rintro e w2 ⟨rfl, hb2⟩)
    go_roundw
    case rel => exact ⟨k + 1, by omega, by go_num, HI, hbel.trans (hb2.mono hbel.size)⟩
    case measure => simp [intOf]; omega
  ·have hd : decide ((k : Int) < n) = false := by simp; omega
   have hd2 : decide (k < n) = false := by simp; omega
   have HI := hide (idxO_none id l (fun y hy => hnone.out y (by rw [List.take_of_length_le (by rw [← Hn.out]; omega)]; exact hy)))
   go_wp2_with fail
   go_ret
   exact ⟨ret_int HI.out.symm, hbel⟩
end Go.Proofs.YtdmdohjdmnmabaaGreat
namespace Go.Proofs.YtdmdohjdmnmabaaGreat
open Go.RowKit
set_option linter.unusedVariables false

theorem ba_nil {s : ByteArray} (h : s.size = 0) : s.toList = [] := by
 rw [ByteArray.toList_eq]
 exact List.eq_nil_of_length_eq_zero (by rw [ba_size]; exact h)
theorem ba_some {s : ByteArray} (h : s.size ≠ 0) : s.toList.isEmpty = false := by
 rw [ByteArray.toList_eq]
 cases hq : s.data.toList with
 | nil => exact absurd (by rw [← ba_size, hq]; rfl) h
 | cons a r => rfl
theorem ba_get (s : ByteArray) (k : Nat) (h : k < s.size) : s.data.toList[k]? = some s[k] := by
 rw [List.getElem?_eq_getElem (by rw [ba_size]; exact h)]
 rfl
theorem name_no {s : ByteArray} {k : Nat} (h : k < s.size) (hc : okC s[k] = false) : nameB s = false := by
 unfold nameB nameL
 have hm : s[k] ∈ s.data.toList := List.mem_of_getElem? (ba_get s k h)
 have : s.data.toList.all okC = false := by
  cases hq : s.data.toList.all okC with
  | false => rfl
  | true => rw [List.all_eq_true] at hq; rw [hq _ hm] at hc; cases hc
 rw [this]; simp
theorem name_first {s : ByteArray} (h : 0 < s.size) (hc : s[0].toNat < 97) : nameB s = false := by
 unfold nameB nameL
 have e : s.data.toList.getD 0 0 = s[0] := by rw [List.getD_eq_getElem?_getD, ba_get s 0 h]; rfl
 rw [e]
 have : decide (97 ≤ s[0].toNat) = false := by simp; omega
 rw [this]; simp
theorem name_size {s : ByteArray} (h : s.size = 0 ∨ 16 < s.size) : nameB s = false := by
 unfold nameB nameL
 rcases h with h | h
 ·have e : s.data.toList = [] := List.eq_nil_of_length_eq_zero (by rw [ba_size]; exact h)
  rw [e]; rfl
 ·have : decide (s.data.toList.length ≤ 16) = false := by rw [ba_size]; simp; omega
  rw [this]; simp
theorem name_yes {s : ByteArray} (h0 : 0 < s.size) (h16 : s.size ≤ 16) (hf : 97 ≤ s[0].toNat) (h : ∀ k, (hk : k < s.size) → okC s[k] = true) : nameB s = true := by
 unfold nameB nameL
 have e : s.data.toList.getD 0 0 = s[0] := by rw [List.getD_eq_getElem?_getD, ba_get s 0 h0]; rfl
 have hne : s.data.toList ≠ [] := fun e => by have := ba_size s; rw [e] at this; simp at this; omega
 have hall : s.data.toList.all okC = true := by
  rw [List.all_eq_true]
  intro x hx
  obtain ⟨k, hk, rfl⟩ := List.mem_iff_getElem.1 hx
  exact h k (by rw [← ba_size]; exact hk)
 rw [e, hall]
 simp [hne, hf, h16]
theorem okC_t {c : UInt8} (h : 97 ≤ c.toNat ∧ c.toNat ≤ 122 ∨ 48 ≤ c.toNat ∧ c.toNat ≤ 57) : okC c = true := by
 unfold okC; rcases h with ⟨a, b⟩ | ⟨a, b⟩ <;> simp [a, b]
theorem okC_f {c : UInt8} (h : ¬ (97 ≤ c.toNat ∧ c.toNat ≤ 122 ∨ 48 ≤ c.toNat ∧ c.toNat ≤ 57)) : okC c = false := by
 cases hq : okC c with
 | false => rfl
 | true =>
  exfalso
  apply h
  unfold okC at hq
  simp at hq
  omega

set_option maxRecDepth 100000 in
set_option maxHeartbeats 1600000 in
theorem Name_c (s : ByteArray) (w : World) (hs : s.size ≤ 9223372036854775807) :
 Calls Tryz.prog 101 #[.string s] w fun e w' => e = .returned (.bool (nameB s)) ∧ w = w' := by
 by_cases h0 : s.size = 0
 ·have H := hide (name_size (Or.inl h0))
  have e1 := ba_nil h0
  have e2 : s.toList.isEmpty = true := by rw [e1]; rfl
  clear h0
  go_enter Tryz.func101, Tryz.ntmps101
  go_wp2
  go_ret
  exact ⟨by rw [H.out]; rfl, rfl⟩
 ·have e2 := ba_some h0
  by_cases h16 : 16 < s.size
  ·have H := hide (name_size (Or.inr h16))
   have d1 : decide ((16 : Int) < (s.size : Int)) = true := by simp; omega
   have d2 : decide (16 < s.size) = true := by simp; omega
   go_enter Tryz.func101, Tryz.ntmps101
   go_wp2
   go_ret
   exact ⟨by rw [H.out]; rfl, rfl⟩
  ·have d1 : decide ((16 : Int) < (s.size : Int)) = false := by simp; omega
   have d2 : decide (16 < s.size) = false := by simp; omega
   have hp : 0 < s.size := by omega
   have hp2 : (0 : Int) < (s.size : Int) := by omega
   by_cases hf : s[0].toNat < 97
   ·have H := hide (name_first hp hf)
    have d3 : decide ((s[0].toNat : Int) < 97) = true := by simp; omega
    have d4 : decide (s[0].toNat < 97) = true := by simp; omega
    go_enter Tryz.func101, Tryz.ntmps101
    go_wp2
    go_ret
    exact ⟨by rw [H.out]; rfl, rfl⟩
   ·have H := hide (fun h => name_yes hp (by omega) (by omega) h)
    have d3 : decide ((s[0].toNat : Int) < 97) = false := by simp; omega
    have d4 : decide (s[0].toNat < 97) = false := by simp; omega
    go_enter Tryz.func101, Tryz.ntmps101
    go_wp2
    go_loop [3, 18] (fun _ i => ∃ k : Nat, k ≤ s.size ∧ i = .int .i64 k ∧ Hid (∀ j, (hj : j < s.size) → j < k → okC s[j] = true)) (fun _ i => s.size - (intOf i).toNat)
    case atStart => exact ⟨0, Nat.zero_le _, rfl, hide (fun j hj h => by omega)⟩
    case round =>
     obtain ⟨k, hk, rfl, hall⟩ := hrel
     by_cases hlt : k < s.size
     ·have HF := hide (fun h => name_no hlt (okC_f h))
      have HT := hide (show (97 ≤ s[k].toNat ∧ s[k].toNat ≤ 122 ∨ 48 ≤ s[k].toNat ∧ s[k].toNat ≤ 57) → okC s[k] = true from okC_t)
      have hb : s[k].toNat < 256 := UInt8.toNat_lt _
      go_wp2
      all_goals first
       | (go_ret
          exact ⟨by rw [HF.out (by omega)]; rfl, rfl⟩)
       | (go_round
          case rel => exact ⟨k + 1, by omega, by go_num, hide (fun j hj h => by
           rcases Nat.lt_or_ge j k with hjk | hjk
           ·exact hall.out j hj hjk
           ·obtain rfl : j = k := by omega
            exact HT.out (by omega))⟩
          case measure => simp [intOf]; omega)
     ·go_wp2
      go_ret
      exact ⟨by rw [H.out (fun j hj => hall.out j hj (by omega))]; rfl, rfl⟩
end Go.Proofs.YtdmdohjdmnmabaaGreat
