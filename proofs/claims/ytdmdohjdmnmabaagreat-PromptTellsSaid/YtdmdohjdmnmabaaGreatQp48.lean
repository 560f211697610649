/- Parts of a chain of lemmas: SdB, Late41, Late41b. Conditions: those of each theorem. -/
import Derived.Test.YtdmdohjdmnmabaaGreatQp47
import Derived.Test.YtdmdohjdmnmabaaGreatQp05
import Derived.Test.YtdmdohjdmnmabaaGreatQp43
import Derived.Deep.RegionHeld3
import Derived.Test.YtdmdohjdmnmabaaGreatQp46
import Derived.Test.YtdmdohjdmnmabaaGreatQp20
namespace Go.Proofs.YtdmdohjdmnmabaaGreat
open Go.RowKit
set_option linter.unusedVariables false
set_option linter.unusedSimpArgs false

theorem Blk.sevenB {w : World} {g : Nat} {t : TypeId} {a0 a1 a2 a3 a4 a5 a6 : Value} (h : Blk w g t #[a0, a1, a2, a3, a4, a5, a6]) :
    w.cell? ⟨g, 0, none⟩ = some a0 ∧ w.cell? ⟨g, 1, none⟩ = some a1 ∧ w.cell? ⟨g, 2, none⟩ = some a2 ∧ w.cell? ⟨g, 3, none⟩ = some a3 ∧ w.cell? ⟨g, 4, none⟩ = some a4 ∧ w.cell? ⟨g, 5, none⟩ = some a5 ∧ w.cell? ⟨g, 6, none⟩ = some a6 := by
  refine ⟨?_, ?_, ?_, ?_, ?_, ?_, ?_⟩ <;> (rw [h.cell]; rfl)
theorem cWait_c (s : SetM) (w : World) (hg : goodB s = true) : Calls Tryz.prog 50 #[.agg (setV s)] w fun e w' => e = .returned (.int .i64 (waitS s)) ∧ Below w.heap.size w w' := by
  have hL : Below w.heap.size w (w.alloc (.cells (setV s) 33)) := below_alloc _ _
  have C := hide (fun w' => wait_c s w' hg)
  have HL := hide hL
  clear hL hg
  go_enter Tryz.func50, Tryz.ntmps50
  go_wp2_with fail
  refine (C.out _).mono ?_
  rintro e w1 ⟨rfl, hb1⟩
  go_wp2_with fail
  go_ret
  exact ⟨rfl, HL.out.trans (hb1.mono HL.out.size)⟩
def boundOk (s : SetM) (long write : Int) : Bool := goodB s && (decide (1 ≤ write) && (decide (write ≤ 1000000) && (decide (1 ≤ long) && decide (long ≤ 256))))
def boundS (s : SetM) (long write : Int) : Int := if boundOk s long write = true then long * (write + waitS s + 1) else 0
theorem boundOk_iff {s : SetM} {long write : Int} : boundOk s long write = true ↔ goodB s = true ∧ 1 ≤ write ∧ write ≤ 1000000 ∧ 1 ≤ long ∧ long ≤ 256 := by
  unfold boundOk
  simp only [Bool.and_eq_true, decide_eq_true_eq]
theorem boundS_gt (s : SetM) (long write : Int) : boundS s long write = 0 ∨ long < boundS s long write := by
  unfold boundS
  split
  · rename_i h
    obtain ⟨hg, h1, h2, h3, h4⟩ := boundOk_iff.1 h
    have := waitS_le2 hg
    right
    have h5 : long * 2 ≤ long * (write + waitS s + 1) := Int.mul_le_mul_of_nonneg_left (by omega) (by omega)
    omega
  · left; rfl
theorem boundS_bd (s : SetM) (long write : Int) : 0 ≤ boundS s long write ∧ boundS s long write ≤ 1600000000 := by
  unfold boundS
  split
  · rename_i h
    obtain ⟨hg, h1, h2, h3, h4⟩ := boundOk_iff.1 h
    have := waitS_le2 hg
    have h5 : 0 ≤ long * (write + waitS s + 1) := Int.mul_nonneg (by omega) (by omega)
    have h6 : long * (write + waitS s + 1) ≤ 256 * 6000001 := Int.mul_le_mul h4 (by omega) (by omega) (by omega)
    omega
  · omega
set_option maxRecDepth 100000 in
set_option maxHeartbeats 6400000 in
theorem sbound_c (s : SetM) (x : SdM) (write : Int) (w : World) : Calls Tryz.prog 67 #[.agg (setV s), .agg #[.int .i64 x.id, .int .i64 x.op, .int .i64 x.long, .int .i64 x.from_, .int .i64 x.taken, .bool x.done, .int .i64 x.at_], .int .i64 write] w fun e w' => e = .returned (.int .i64 (boundS s x.long write)) ∧ Below w.heap.size w w' := by
  obtain ⟨T, hT⟩ : ∃ T, T = boundS s x.long write := ⟨_, rfl⟩
  have HT := hide (show T = if boundOk s x.long write = true then x.long * (write + waitS s + 1) else 0 from hT)
  rw [← hT]
  clear hT
  have HOk := hide (@boundOk_iff s x.long write)
  obtain ⟨W, hW⟩ : ∃ W, W = (w.alloc (.cells (setV s) 33)).alloc (.cells #[.int .i64 x.id, .int .i64 x.op, .int .i64 x.long, .int .i64 x.from_, .int .i64 x.taken, .bool x.done, .int .i64 x.at_] 109) := ⟨_, rfl⟩
  have HL := hide (show Below w.heap.size w W by rw [hW]; exact (below_alloc _ _).alloc (by simp) _)
  have HBs := hide (show Blk W w.heap.size 33 (setV s) by rw [hW]; exact (Blk.new _ _ _).alloc _)
  have HBx := hide (show Blk W (w.heap.size + 1) 109 #[.int .i64 x.id, .int .i64 x.op, .int .i64 x.long, .int .i64 x.from_, .int .i64 x.taken, .bool x.done, .int .i64 x.at_] by rw [hW]; exact Blk.new' (by simp))
  have C := hide (cGood_c s W)
  have HW := hide hW
  have HWt := hide (fun w' hg => cWait_c s w' hg)
  have HWb := hide (fun hg => @waitS_le2 s hg)
  clear hW
  cases hg : goodB s with
  | false =>
    rw [hg] at C
    have HQ := hide (show T = 0 by rw [HT.out, if_neg]; intro h; have := (HOk.out.1 h).1; rw [hg] at this; cases this)
    clear hg HT
    go_enter Tryz.func67, Tryz.ntmps67
    go_wp2_with fail
    change Calls _ _ _ ((w.alloc (.cells (setV s) 33)).alloc (.cells #[.int .i64 x.id, .int .i64 x.op, .int .i64 x.long, .int .i64 x.from_, .int .i64 x.taken, .bool x.done, .int .i64 x.at_] 109)) _
    rw [← HW.out]
    refine C.out.mono ?_
    rintro e w1 ⟨rfl, hb1⟩
    have HB1 := hide (HL.out.trans (hb1.mono HL.out.size))
    clear hb1
    go_wp2_with fail
    go_ret
    exact ⟨by rw [HQ.out]; rfl, HB1.out⟩
  | true =>
    rw [hg] at C
    have HWq := hide (fun w' => HWt.out w' hg)
    have hwb := HWb.out hg
    have HGd := hide hg
    obtain ⟨q, hq⟩ : ∃ q, q = waitS s := ⟨_, rfl⟩
    rw [← hq] at HWq hwb HT
    clear hg hq HWt HWb
    go_enter Tryz.func67, Tryz.ntmps67
    go_wp2_with fail
    change Calls _ _ _ ((w.alloc (.cells (setV s) 33)).alloc (.cells #[.int .i64 x.id, .int .i64 x.op, .int .i64 x.long, .int .i64 x.from_, .int .i64 x.taken, .bool x.done, .int .i64 x.at_] 109)) _
    rw [← HW.out]
    refine C.out.mono ?_
    rintro e w1 ⟨rfl, hb1⟩
    have HB1 := hide (HL.out.trans (hb1.mono HL.out.size))
    have HBs1 := hide (HBs.out.below hb1)
    have HBx1 := hide (HBx.out.below hb1)
    clear hb1
    obtain ⟨y0, y1, y2, y3, y4, y5⟩ := HBs1.out.six
    obtain ⟨x0, x1, x2, x3, x4, x5, x6⟩ := HBx1.out.sevenB
    by_cases hr : 1 ≤ write ∧ write ≤ 1000000 ∧ 1 ≤ x.long ∧ x.long ≤ 256
    · have HQ := hide (show T = x.long * (write + q + 1) by rw [HT.out, if_pos (HOk.out.2 ⟨HGd.out, hr⟩)])
      obtain ⟨h1, h2, h3, h4⟩ := hr
      have d1 : decide (write < 1) = false := by simp; omega
      have d2 : decide (1000000 < write) = false := by simp; omega
      have d3 : decide (x.long < 1) = false := by simp; omega
      have d4 : decide (256 < x.long) = false := by simp; omega
      have v1 : IntKind.i64.wrap (write + q) = write + q := IntWalk.i64_in _ (by omega)
      have v2 : IntKind.i64.wrap (write + q + 1) = write + q + 1 := IntWalk.i64_in _ (by omega)
      have h5 : 0 ≤ x.long * (write + q + 1) := Int.mul_nonneg (by omega) (by omega)
      have h6 : x.long * (write + q + 1) ≤ 256 * 6000001 := Int.mul_le_mul h4 (by omega) (by omega) (by omega)
      have v3 : IntKind.i64.wrap (x.long * (write + q + 1)) = x.long * (write + q + 1) := IntWalk.i64_in _ (by omega)
      clear h1 h2 h3 h4 h5 h6 hwb
      go_wp2_with fail
      go_region_held3 (fun w' => w'.cell? ⟨w.heap.size, 0, none⟩ = some (.int .i64 s.live) ∧ w'.cell? ⟨w.heap.size, 1, none⟩ = some (.int .i64 s.ring) ∧ w'.cell? ⟨w.heap.size, 2, none⟩ = some (.int .i64 s.win) ∧ w'.cell? ⟨w.heap.size, 3, none⟩ = some (.int .i64 s.out) ∧ w'.cell? ⟨w.heap.size, 4, none⟩ = some (.int .i64 s.quantum) ∧ w'.cell? ⟨w.heap.size, 5, none⟩ = some (.int .i64 s.visits) ∧ w'.cell? ⟨w.heap.size + 1, 2, none⟩ = some (.int .i64 x.long)) (go_keep)
        (first
          | (go_at_call 50
             refine (HWq.out _).mono ?_
             rintro e w2 ⟨rfl, hb2⟩
             have z0 := bkeep hb2 y0
             have z1 := bkeep hb2 y1
             have z2 := bkeep hb2 y2
             have z3 := bkeep hb2 y3
             have z4 := bkeep hb2 y4
             have z5 := bkeep hb2 y5
             have z6 := bkeep hb2 x2
             have HB2 := hide ((below_drew' HB1.out).trans (hb2.mono HB1.out.size))
             clear hb2))
      all_goals
        go_wp2_with fail
        go_ret
        exact ⟨by rw [HQ.out]; rfl, HB2.out⟩
    · have HQ := hide (show T = 0 by rw [HT.out, if_neg]; intro h; exact hr (HOk.out.1 h).2)
      have HR := hide hr
      clear hr
      go_wp2
      all_goals first
        | (exfalso; have := HR.out; omega)
        | (go_ret; exact ⟨by rw [HQ.out]; rfl, HB1.out⟩)
end Go.Proofs.YtdmdohjdmnmabaaGreat
namespace Go.Proofs.YtdmdohjdmnmabaaGreat
open Go.RowKit
set_option linter.unusedVariables false
set_option linter.unusedSimpArgs false

/-- within its rounds -/
def promptB (most : Int) (x : LagM) : Bool := decide (roundsM x ≤ most)
def lateP (s : SetM) (Ps : List PrV) (l : List Ev) : List LagM := if goodB s = true then keepL (promptB (waitS s)) (promptM Ps l) else []
set_option maxRecDepth 100000 in
set_option maxHeartbeats 3200000 in
theorem latep_c (x : LagM) (most : Int) (b : Nat) (w : World) (hb : w.cell? ⟨b, 0, none⟩ = some (.int .i64 most)) (hlt : b < w.heap.size) (h1 : x.read ≤ 9223372036854775807) (h2 : x.from_ ≤ 9223372036854775807) (h3 : x.match_ ≤ 9223372036854775807) :
    Calls Tryz.prog 52 #[.agg #[.int .i64 x.id, .int .i64 x.step, .int .i64 x.gone, .int .i64 x.read, .int .i64 x.from_, .int .i64 x.match_], .pointer (some ⟨b, 0, none⟩)] w fun e w' => e = .returned (.bool (promptB most x)) ∧ Below w.heap.size w w' := by
  have HQ := hide (show promptB most x = decide (roundsM x ≤ most) from rfl)
  have HR := hide (fun w' => rounds_c x.id x.step x.gone x.read x.from_ x.match_ w' h1 h2 h3)
  obtain ⟨W, hW⟩ : ∃ W, W = w.alloc (.cells #[.int .i64 x.id, .int .i64 x.step, .int .i64 x.gone, .int .i64 x.read, .int .i64 x.from_, .int .i64 x.match_] 96) := ⟨_, rfl⟩
  have HL := hide (show Below w.heap.size w W by rw [hW]; exact below_alloc _ _)
  have HB := hide (show Blk W w.heap.size 96 #[.int .i64 x.id, .int .i64 x.step, .int .i64 x.gone, .int .i64 x.read, .int .i64 x.from_, .int .i64 x.match_] by rw [hW]; exact Blk.new _ _ _)
  have HC := hide (show W.cell? ⟨b, 0, none⟩ = some (.int .i64 most) from bkeepL HL.out hlt hb)
  have HW := hide hW
  obtain ⟨T, hT⟩ : ∃ T, T = promptB most x := ⟨_, rfl⟩
  rw [← hT] at HQ ⊢
  obtain ⟨r, hr⟩ : ∃ r, r = roundsM x := ⟨_, rfl⟩
  have hr2 : roundsM ⟨x.id, x.step, x.gone, x.read, x.from_, x.match_⟩ = r := hr.symm
  rw [hr2] at HR
  rw [← hr] at HQ
  clear hb hlt h1 h2 h3 hW hT hr hr2
  go_enter Tryz.func52, Tryz.ntmps52
  go_upto_region 1 with fail
  change Code.wp _ _ _ _ (w.alloc (.cells #[.int .i64 x.id, .int .i64 x.step, .int .i64 x.gone, .int .i64 x.read, .int .i64 x.from_, .int .i64 x.match_] 96))
  rw [← HW.out]
  obtain ⟨x0, x1, x2, x3, x4, x5⟩ := HB.out.six
  have c0 := HC.out
  go_region_held3 (fun w' => w'.cell? ⟨w.heap.size, 0, none⟩ = some (.int .i64 x.id) ∧ w'.cell? ⟨w.heap.size, 1, none⟩ = some (.int .i64 x.step) ∧ w'.cell? ⟨w.heap.size, 2, none⟩ = some (.int .i64 x.gone) ∧ w'.cell? ⟨w.heap.size, 3, none⟩ = some (.int .i64 x.read) ∧ w'.cell? ⟨w.heap.size, 4, none⟩ = some (.int .i64 x.from_) ∧ w'.cell? ⟨w.heap.size, 5, none⟩ = some (.int .i64 x.match_) ∧ w'.cell? ⟨b, 0, none⟩ = some (.int .i64 most)) (go_keep)
    (first
      | (go_at_call 48
         refine (HR.out _).mono ?_
         rintro e w2 ⟨rfl, hb2⟩
         have z0 := bkeep hb2 x0
         have z1 := bkeep hb2 x1
         have z2 := bkeep hb2 x2
         have z3 := bkeep hb2 x3
         have z4 := bkeep hb2 x4
         have z5 := bkeep hb2 x5
         have z6 := bkeep hb2 c0
         have HB2 := hide ((below_drew' HL.out).trans (hb2.mono HL.out.size))
         clear hb2))
  all_goals
    go_wp2_with fail
    go_ret
    exact ⟨by rw [HQ.out]; rfl, HB2.out⟩
/-- how great a match can be -/
def LagSm (x : LagM) : Prop := x.read ≤ 9223372036854775807 ∧ x.from_ ≤ 9223372036854775807 ∧ x.match_ ≤ 9223372036854775807
end Go.Proofs.YtdmdohjdmnmabaaGreat
namespace Go.Proofs.YtdmdohjdmnmabaaGreat
open Go.RowKit
set_option linter.unusedVariables false
set_option linter.unusedSimpArgs false

theorem per_mem {β : Type} {Ps : List PrV} {l : List Ev} {one : PrV → Int → List β} {ids : List Int} {x : β} (h : x ∈ perM Ps l one ids) : ∃ v id, x ∈ one v id := by
  unfold perM at h
  obtain ⟨id, _, h⟩ := List.mem_flatMap.1 h
  split at h
  · exact ⟨_, id, h⟩
  · cases h
theorem lag_sm {Ps : List PrV} {l : List Ev} (hl : l.length ≤ 1000) {x : LagM} (h : x ∈ promptM Ps l) : LagSm x ∧ x.match_ ≤ 1000 ∧ x.read ≤ 1000 ∧ x.from_ ≤ 1000 := by
  obtain ⟨v, id, h⟩ := per_mem h
  unfold lagsP at h
  rw [lags_eq] at h
  obtain ⟨h1, h2, h3⟩ := one_out (prM v) id l _ x h
  unfold LagSm
  omega
theorem rounds_le {x : LagM} (h : x.match_ ≤ 1000) : roundsM x ≤ 1000 ∨ x.read < 0 ∨ x.from_ < 0 := by
  unfold roundsM
  split <;> omega
theorem promptM_len (Ps : List PrV) (l : List Ev) (hl : l.length ≤ 900) (hx : ∀ x ∈ l, x.s.size ≤ 100) : (promptM Ps l).length ≤ 1000000 := by
  have h := per_len Ps l (lagsP l) l.length (lags_le l hx) (idsL l)
  have h2 := ids_le l
  have h3 : (idsL l).length * l.length ≤ 900 * 900 := Nat.mul_le_mul (by omega) hl
  unfold promptM
  omega
set_option maxRecDepth 100000 in
set_option maxHeartbeats 6400000 in
theorem pLate_c (s : SetM) (SA : Option Addr) (sc : Nat) (Ps : List PrV) (A : Option Addr) (c : Nat) (l : List Ev) (w : World) (hs : PrsRd w NoBlk SA Ps) (hsn : Ps.length ≤ maxLen) (hsz : ∀ v ∈ Ps, PrSz v) (hr : Rd w NoBlk A (flat encEv l)) (hn : l.length ≤ 900) (hx : ∀ x ∈ l, x.s.size ≤ 100) (hlc : l.length ≤ c) :
    Calls Tryz.prog 20 #[.agg (setV s), .slice SA Ps.length sc, .slice A l.length c] w fun e w' => (∃ A1 c1, e = .returned (.slice A1 (lateP s Ps l).length c1) ∧ Rd w' NoBlk A1 (flat encLag (lateP s Ps l))) ∧ Only NoBlk w w' := by
  have HPr := hide (fun (w' : World) (k : Only NoBlk w w') => prompt_c SA sc Ps A c l w' (hs.only k (fun _ h => h)) hsn hsz (hr.only k (fun _ h => h)) (by omega) hx hlc)
  have HSm := hide (fun (x : LagM) (h : x ∈ promptM Ps l) => (lag_sm (by omega) h).1)
  have HLen := hide (promptM_len Ps l hn hx)
  have HQ := hide (show lateP s Ps l = if goodB s = true then keepL (promptB (waitS s)) (promptM Ps l) else [] from rfl)
  have HGd := hide (fun w' => cGood_c s w')
  have HWt := hide (fun w' hg => cWait_c s w' hg)
  obtain ⟨TT, hTT⟩ : ∃ TT, TT = lateP s Ps l := ⟨_, rfl⟩
  rw [← hTT] at HQ ⊢
  obtain ⟨n, hnl⟩ : ∃ n, n = l.length := ⟨_, rfl⟩
  obtain ⟨np, hnp⟩ : ∃ np, np = Ps.length := ⟨_, rfl⟩
  rw [← hnl, ← hnp] at HPr
  rw [← hnl, ← hnp]
  obtain ⟨W, hW⟩ : ∃ W, W = w.alloc (.cells (setV s) 33) := ⟨_, rfl⟩
  have HO := hide (show Only NoBlk w W by rw [hW]; exact (Only.refl _ _).alloc _)
  have HBs := hide (show Blk W w.heap.size 33 (setV s) by rw [hW]; exact Blk.new _ _ _)
  have HW := hide hW
  clear hs hsn hsz hr hn hx hlc hTT hnl hnp hW
  cases hg : goodB s with
  | false =>
    have HGf := hide (fun w' => by have := HGd.out w'; rw [hg] at this; exact this)
    have HQ2 := hide (show TT = [] by rw [HQ.out, hg]; rfl)
    clear hg HQ
    go_enter Tryz.func20, Tryz.ntmps20
    go_wp2_with fail
    refine (HGf.out _).mono ?_
    rintro e w1 ⟨rfl, hb1⟩
    have HO1 := hide (HO.out.trans (by rw [HW.out]; exact Only.of_below hb1 NoBlk))
    clear hb1
    go_wp2_with fail
    go_ret
    rw [HQ2.out]
    exact ⟨⟨none, 0, rfl, Rd.nil⟩, HO1.out⟩
  | true =>
    have HGt := hide (fun w' => by have := HGd.out w'; rw [hg] at this; exact this)
    have HWq := hide (fun w' => HWt.out w' hg)
    have HQ2 := hide (show TT = keepL (promptB (waitS s)) (promptM Ps l) by rw [HQ.out, hg]; rfl)
    obtain ⟨q, hq⟩ : ∃ q, q = waitS s := ⟨_, rfl⟩
    rw [← hq] at HWq HQ2
    clear hg HQ hq HGd HWt
    go_enter Tryz.func20, Tryz.ntmps20
    go_wp2_with fail
    change Calls _ _ _ (w.alloc (.cells (setV s) 33)) _
    rw [← HW.out]
    refine (HGt.out _).mono ?_
    rintro e w1 ⟨rfl, hb1⟩
    have HO1 := hide (HO.out.trans (Only.of_below hb1 NoBlk))
    have HBs1 := hide (HBs.out.below hb1)
    clear hb1
    obtain ⟨y0, y1, y2, y3, y4, y5⟩ := HBs1.out.six
    go_wp2_with fail
    refine (HWq.out _).mono ?_
    rintro e w2 ⟨rfl, hb2⟩
    have HO2 := hide (HO1.out.trans (Only.of_below hb2 NoBlk))
    clear hb2 y0 y1 y2 y3 y4 y5
    go_upto_region 4 with fail
    obtain ⟨W3, hW3⟩ : ∃ W3, W3 = w2.alloc (.cells #[.int .i64 q] 3) := ⟨_, rfl⟩
    obtain ⟨mb, hmb⟩ : ∃ mb, mb = w2.heap.size := ⟨_, rfl⟩
    have HO3 := hide (show Only NoBlk w W3 by rw [hW3]; exact HO2.out.alloc _)
    have HMb := hide (show Blk W3 mb 3 #[.int .i64 q] by rw [hW3, hmb]; exact Blk.new _ _ _)
    rw [← hW3, ← hmb]
    clear hW3 hmb
    go_wp2_with fail
    refine (HPr.out _ HO3.out).mono ?_
    rintro e w4 ⟨⟨v, rfl, hown⟩, ho4⟩
    have HOw := hide hown
    have HO4 := hide (HO3.out.trans ho4)
    have HMb4 := hide (HMb.out.only ho4 (fun h => h))
    have hmlt : mb < W3.heap.size := HMb.out.lt
    have HSz := hide ho4.size
    clear hown ho4
    have HDel := hide (DeleteLag_c W3.heap.size (fun w' => w'.cell? ⟨mb, 0, none⟩ = some (.int .i64 q) ∧ mb < w'.heap.size) (promptB q) (.pointer (some ⟨mb, 0, none⟩))
      (fun w1 w2 h k => ⟨okeep k (by show ¬ W3.heap.size ≤ mb; omega) h.1, Nat.lt_of_lt_of_le h.2 k.size⟩) (promptM Ps l)
      (fun w' x hxm h => latep_c x q mb w' h.1 h.2 (HSm.out x hxm).1 (HSm.out x hxm).2.1 (HSm.out x hxm).2.2) v w4 HSz.out ⟨by rw [HMb4.out.cell]; rfl, HMb4.out.lt⟩ HOw.out (by have := HLen.out; omega))
    obtain ⟨OA, oc, rfl, _⟩ := own_cap HOw.out
    obtain ⟨pn, hpn⟩ : ∃ pn, pn = (promptM Ps l).length := ⟨_, rfl⟩
    rw [← hpn] at HDel ⊢
    rw [← HQ2.out] at HDel
    clear hpn hmlt
    go_wp2_with fail
    refine HDel.out.mono ?_
    rintro e w5 ⟨⟨A1, c1, rfl, hr5⟩, ho5⟩
    have HR5 := hide hr5
    have HO5 := hide (HO4.out.fresh ho5 (fun i _ h => Or.inr (Nat.le_trans HO3.out.size h)))
    clear hr5 ho5
    go_wp2_with fail
    go_ret
    exact ⟨⟨A1, c1, rfl, HR5.out⟩, HO5.out⟩
/-- the most rounds that one took -/
def worstP (L : List LagM) : Int := L.foldl (fun m x => max m (roundsM x)) 0
theorem worst_succ (L : List LagM) (k : Nat) (x : LagM) (hx : L[k]? = some x) : worstP (L.take (k + 1)) = max (worstP (L.take k)) (roundsM x) := by
  have e : L.take (k + 1) = L.take k ++ [x] := by rw [List.take_add_one, hx]; rfl
  rw [e]
  simp [worstP]
set_option maxRecDepth 100000 in
set_option maxHeartbeats 6400000 in
theorem pWorst_c (SA : Option Addr) (sc : Nat) (Ps : List PrV) (A : Option Addr) (c : Nat) (l : List Ev) (w : World) (hs : PrsRd w NoBlk SA Ps) (hsn : Ps.length ≤ maxLen) (hsz : ∀ v ∈ Ps, PrSz v) (hr : Rd w NoBlk A (flat encEv l)) (hn : l.length ≤ 900) (hx : ∀ x ∈ l, x.s.size ≤ 100) (hlc : l.length ≤ c) :
    Calls Tryz.prog 19 #[.slice SA Ps.length sc, .slice A l.length c] w fun e w' => e = .returned (.int .i64 (worstP (promptM Ps l))) ∧ Only NoBlk w w' := by
  have HPr := hide (prompt_c SA sc Ps A c l w hs hsn hsz hr (by omega) hx hlc)
  have HSm := hide (fun (x : LagM) (h : x ∈ promptM Ps l) => (lag_sm (by omega) h).1)
  have hlen := promptM_len Ps l hn hx
  obtain ⟨L, hL⟩ : ∃ L, L = promptM Ps l := ⟨_, rfl⟩
  rw [← hL] at HPr HSm hlen ⊢
  obtain ⟨n, hnl⟩ : ∃ n, n = l.length := ⟨_, rfl⟩
  obtain ⟨np, hnp⟩ : ∃ np, np = Ps.length := ⟨_, rfl⟩
  rw [← hnl, ← hnp] at HPr
  rw [← hnl, ← hnp]
  obtain ⟨N, hN⟩ : ∃ N, N = L.length := ⟨_, rfl⟩
  rw [← hN] at HPr hlen
  have HN := hide hN
  have HLast := hide (show worstP (L.take N) = worstP L by rw [hN, List.take_length])
  clear hs hsn hsz hr hn hx hlc hL hnl hnp hN
  go_enter Tryz.func19, Tryz.ntmps19
  go_wp2_with fail
  refine HPr.out.mono ?_
  rintro e w1 ⟨⟨v, rfl, hown⟩, ho1⟩
  obtain ⟨OA, oc, rfl, _⟩ := own_cap hown
  have HR1 := hide (Rd.of_own (M := NoBlk) hown (fun _ h => h.elim))
  have HO1 := hide ho1
  clear hown ho1
  have HCe := hide (fun (w' : World) (hb : Only NoBlk w1 w') (k : Nat) (x : LagM) (hx : L[k]? = some x) => flat_cells encLag_len (HR1.out.only hb (fun _ h => h)) k x hx (by omega))
  go_wp2_with fail
  go_loopw [5, 12] (fun m i wr => ∃ k : Nat, k ≤ N ∧ i = .int .i64 k ∧ m = .int .i64 (worstP (L.take k)) ∧ Hid (Only NoBlk w1 wr)) (fun _ i _ => N - (intOf i).toNat)
  case atStart => exact ⟨0, Nat.zero_le _, rfl, by simp [worstP], hide (Only.refl _ _)⟩
  case round =>
    obtain ⟨k, hk, rfl, rfl, HB⟩ := hrel
    by_cases hlt : k < N
    · obtain ⟨x, hx⟩ : ∃ x, L[k]? = some x := ⟨L[k]'(by rw [← HN.out]; exact hlt), List.getElem?_eq_getElem _⟩
      obtain ⟨b2, o, rfl, _, hb2, hc⟩ := HCe.out wr HB.out k x hx
      have g0 : wr.cell? ⟨b2, o + k * 6, none⟩ = some (.int .i64 x.id) := hc 0 (by omega)
      have g1 : wr.cell? ⟨b2, o + k * 6 + 1, none⟩ = some (.int .i64 x.step) := hc 1 (by omega)
      have g2 : wr.cell? ⟨b2, o + k * 6 + 2, none⟩ = some (.int .i64 x.gone) := hc 2 (by omega)
      have g3 : wr.cell? ⟨b2, o + k * 6 + 3, none⟩ = some (.int .i64 x.read) := hc 3 (by omega)
      have g4 : wr.cell? ⟨b2, o + k * 6 + 4, none⟩ = some (.int .i64 x.from_) := hc 4 (by omega)
      have g5 : wr.cell? ⟨b2, o + k * 6 + 5, none⟩ = some (.int .i64 x.match_) := hc 5 (by omega)
      have hm := HSm.out x (List.mem_of_getElem? hx)
      have HRd := hide (fun w' => rounds_c x.id x.step x.gone x.read x.from_ x.match_ w' hm.1 hm.2.1 hm.2.2)
      have HSu := hide (worst_succ L k x hx)
      obtain ⟨r, hrr⟩ : ∃ r, r = roundsM x := ⟨_, rfl⟩
      have hr2 : roundsM ⟨x.id, x.step, x.gone, x.read, x.from_, x.match_⟩ = r := hrr.symm
      rw [hr2] at HRd
      rw [← hrr] at HSu
      obtain ⟨m0, hm0⟩ : ∃ m0, m0 = worstP (L.take k) := ⟨_, rfl⟩
      rw [← hm0] at HSu ⊢
      have d1 : decide ((k : Int) < (N : Int)) = true := by simp; exact hlt
      have d2 : decide (k < N) = true := by simp; exact hlt
      have j1 : (0 : Int) ≤ (k : Int) := by omega
      have j2 : (k : Int) < (N : Int) := by omega
      have w1' : IntKind.i64.wrap ((k : Int) + 1) = (k : Int) + 1 := IntWalk.i64_in _ (by omega)
      clear hc hx hm hrr hr2 hm0
      go_upto_region 5 with fail
      obtain ⟨W2, hW2⟩ : ∃ W2, W2 = wr.alloc (.cells #[.int .i64 x.id, .int .i64 x.step, .int .i64 x.gone, .int .i64 x.read, .int .i64 x.from_, .int .i64 x.match_] 96) := ⟨_, rfl⟩
      have HB2 := hide (show Only NoBlk w1 W2 by rw [hW2]; exact HB.out.alloc _)
      have HX2 := hide (show Blk W2 wr.heap.size 96 #[.int .i64 x.id, .int .i64 x.step, .int .i64 x.gone, .int .i64 x.read, .int .i64 x.from_, .int .i64 x.match_] by rw [hW2]; exact Blk.new _ _ _)
      rw [← hW2]
      clear hW2 g0 g1 g2 g3 g4 g5
      obtain ⟨y0, y1, y2, y3, y4, y5⟩ := HX2.out.six
      go_wp2_with fail
      refine (HRd.out _).mono ?_
      rintro e w3 ⟨rfl, hb3⟩
      have HB3 := hide (HB2.out.trans (Only.of_below hb3 NoBlk))
      clear hb3
      go_wp2_with fail
      go_roundw
      case rel => exact ⟨k + 1, by omega, by go_num, by rw [HSu.out], HB3⟩
      case measure => simp [intOf]; omega
    · obtain rfl : k = N := by omega
      have d1 : decide ((k : Int) < (k : Int)) = false := by simp
      have d2 : decide (k < k) = false := by simp
      go_wp2_with fail
      go_ret
      exact ⟨by rw [HLast.out]; rfl, HO1.out.trans HB.out⟩
end Go.Proofs.YtdmdohjdmnmabaaGreat
