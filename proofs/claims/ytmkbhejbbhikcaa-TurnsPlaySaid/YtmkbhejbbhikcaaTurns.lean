/- What the methods of turns do. Conditions: those of each theorem. -/
import Derived.Test.YtmkbhejbbhikcaaFifo6
import Derived.Test.YtmkbhejbbhikcaaPurse3
import Derived.Deep.RegionHeld3
import Derived.Deep.DrawnRows
namespace Go.Proofs.Ytmkbhejbbhikcaa
open Go.RowKit
set_option linter.unusedVariables false
attribute [local go_sem ↓] Go.wp_at_zero Go.wp_at_succ

/-- where turns lie: their own block, the row's, the purse's -/
structure TP where
  t : Nat
  b : Nat
  nb : Nat
  pb : Nat
  ib : Nat
  qb : Nat
  qh : Nat
def TP.fs (p : TP) : Nat → Prop := FS p.b p.nb p.pb p.ib
def TP.all (p : TP) : Nat → Prop := fun k => k = p.t ∨ k = p.qb ∨ k = p.qh ∨ p.fs k
structure TS where
  L : List Int
  m : PurseM
  who : Int
  done : Int
structure TurnsAt (w : World) (p : TP) (N : Nat) (s : TS) : Prop where
  own : Blk w p.t 121 #[.pointer (some ⟨p.b, 0, none⟩), .pointer (some ⟨p.qb, 0, none⟩), .int .i64 s.who, .int .i64 s.done]
  row : FifoAt w p.b p.nb p.pb p.ib N s.L
  pur : PurseAt w p.qb p.qh s.m
  ok : s.m.Ok
  len : s.m.l.length = N
  d1 : ¬ p.fs p.t
  d2 : ¬ p.fs p.qb
  d3 : ¬ p.fs p.qh
  d4 : p.t ≠ p.qb
  d5 : p.t ≠ p.qh
  who : s.who = -1 ∨ (0 ≤ s.who ∧ s.who < N)
  done0 : 0 ≤ s.done
  done1 : s.done ≤ 1000000
section
variable {w w' : World} {p : TP} {N : Nat} {s : TS} {L' : List Int} {m' : PurseM}
theorem TurnsAt.cells (h : TurnsAt w p N s) : w.cell? ⟨p.t, 0, none⟩ = some (.pointer (some ⟨p.b, 0, none⟩)) ∧ w.cell? ⟨p.t, 1, none⟩ = some (.pointer (some ⟨p.qb, 0, none⟩)) ∧ w.cell? ⟨p.t, 2, none⟩ = some (.int .i64 s.who) ∧ w.cell? ⟨p.t, 3, none⟩ = some (.int .i64 s.done) ∧
    w.frozen? ⟨p.t, 2, none⟩ = false ∧ w.frozen? ⟨p.t, 3, none⟩ = false :=
  ⟨by rw [h.own.cell]; rfl, by rw [h.own.cell]; rfl, by rw [h.own.cell]; rfl, by rw [h.own.cell]; rfl, h.own.frozen 2, h.own.frozen 3⟩
theorem TurnsAt.only {S : Nat → Prop} (h : TurnsAt w p N s) (k : Only S w w') (hs : ∀ i, p.all i → ¬ S i) : TurnsAt w' p N s :=
  ⟨h.own.only k (hs _ (Or.inl rfl)), h.row.only k (fun i hi => hs i (Or.inr (Or.inr (Or.inr hi)))), h.pur.only k (hs _ (Or.inr (Or.inl rfl))) (hs _ (Or.inr (Or.inr (Or.inl rfl)))), h.ok, h.len, h.d1, h.d2, h.d3, h.d4, h.d5, h.who, h.done0, h.done1⟩
theorem TurnsAt.only0 (h : TurnsAt w p N s) (k : Only NoBlk w w') : TurnsAt w' p N s := h.only k (fun _ _ h => h)
theorem TurnsAt.drew (h : TurnsAt w p N s) : TurnsAt w.drew p N s := ⟨h.own.drew, h.row.drew, h.pur, h.ok, h.len, h.d1, h.d2, h.d3, h.d4, h.d5, h.who, h.done0, h.done1⟩
theorem TurnsAt.lt (h : TurnsAt w p N s) : ∀ i, p.all i → i < w.heap.size := by
  intro i hi
  rcases hi with rfl | rfl | rfl | hi
  · exact h.own.lt
  · exact h.pur.1.lt
  · exact h.pur.2.1.lt
  · exact h.row.lt i hi
/-- behind a method of the row -/
theorem TurnsAt.fifo (h : TurnsAt w p N s) (hr : FifoAt w' p.b p.nb p.pb p.ib N L') (k : Only (FS p.b p.nb p.pb p.ib) w w') : TurnsAt w' p N { s with L := L' } ∧ Only p.all w w' :=
  ⟨⟨h.own.only k h.d1, hr, h.pur.only k h.d2 h.d3, h.ok, h.len, h.d1, h.d2, h.d3, h.d4, h.d5, h.who, h.done0, h.done1⟩, k.mono fun _ _ hi => Or.inr (Or.inr (Or.inr hi))⟩
/-- behind a method of the purse -/
theorem TurnsAt.purse (h : TurnsAt w p N s) (hp : PurseAt w' p.qb p.qh m') (k : Only (· = p.qh) w w') (ok : m'.Ok) (hl : m'.l.length = s.m.l.length) : TurnsAt w' p N { s with m := m' } ∧ Only p.all w w' :=
  ⟨⟨h.own.only k h.d5, h.row.only k (fun i hi e => h.d3 (by rw [← e]; exact hi)), hp, ok, hl.trans h.len, h.d1, h.d2, h.d3, h.d4, h.d5, h.who, h.done0, h.done1⟩, k.mono fun _ _ hi => Or.inr (Or.inr (Or.inl hi))⟩
theorem TurnsAt.set_who (h : TurnsAt w p N s) (v : Int) (hv : v = -1 ∨ (0 ≤ v ∧ v < N)) : TurnsAt (w.setCell ⟨p.t, 2, none⟩ (.int .i64 v)) p N { s with who := v } ∧ Only p.all w (w.setCell ⟨p.t, 2, none⟩ (.int .i64 v)) := by
  have k := only_set w p.t 2 (.int .i64 v)
  exact ⟨⟨h.own.set_ 2 _, h.row.only k (fun i hi e => h.d1 (by rw [← e]; exact hi)), h.pur.only k (fun e => h.d4 e.symm) (fun e => h.d5 e.symm), h.ok, h.len, h.d1, h.d2, h.d3, h.d4, h.d5, hv, h.done0, h.done1⟩, k.mono fun _ _ hi => Or.inl hi⟩
theorem TurnsAt.set_done (h : TurnsAt w p N s) (v : Int) (h0 : 0 ≤ v) (h1 : v ≤ 1000000) : TurnsAt (w.setCell ⟨p.t, 3, none⟩ (.int .i64 v)) p N { s with done := v } ∧ Only p.all w (w.setCell ⟨p.t, 3, none⟩ (.int .i64 v)) := by
  have k := only_set w p.t 3 (.int .i64 v)
  exact ⟨⟨h.own.set_ 3 _, h.row.only k (fun i hi e => h.d1 (by rw [← e]; exact hi)), h.pur.only k (fun e => h.d4 e.symm) (fun e => h.d5 e.symm), h.ok, h.len, h.d1, h.d2, h.d3, h.d4, h.d5, h.who, h0, h1⟩, k.mono fun _ _ hi => Or.inl hi⟩
end

def TS.wake (s : TS) (N : Nat) (id : Int) : TS := if s.who ≠ -1 ∧ s.who = id then s else { s with L := pushL N s.L id }
def TS.wakes (s : TS) (N : Nat) (id : Int) : Bool := if s.who ≠ -1 ∧ s.who = id then false else comes N s.L id
section
variable {w : World} {p : TP} {N : Nat} {s : TS}
set_option maxHeartbeats 400000 in
theorem Wake_c (id : Int) (h : TurnsAt w p N s) : Calls Try.prog 66 #[.pointer (some ⟨p.t, 0, none⟩), .int .i64 id] w fun e w' => e = .returned (.bool (s.wakes N id)) ∧ TurnsAt w' p N (s.wake N id) ∧ Only p.all w w' := by
  obtain ⟨c0, c1, c2, c3, f2, f3⟩ := h.cells
  have hw := h.who
  have H := hide h
  clear h
  unfold TS.wakes TS.wake
  by_cases h1 : s.who = -1
  · rw [if_neg (fun e => e.1 h1), if_neg (fun e => e.1 h1)]
    rw [h1] at c2
    clear h1 hw
    go_enter Try.func66, Try.ntmps66
    go_wp2_with (first
      | (go_at_call 48; refine (Push_c id H.out.row).mono ?_; rintro e w' ⟨rfl, h1, h2⟩)
      | go_in)
    go_ret
    have R := H.out.fifo h1 h2
    exact ⟨rfl, R.1, R.2⟩
  · have hb1 : (s.who != -1) = true := by simp [h1]
    by_cases h2 : s.who = id
    · rw [if_pos ⟨h1, h2⟩, if_pos ⟨h1, h2⟩]
      have hb2 : (s.who == id) = true := by simp [h2]
      clear h1 h2 hw
      go_enter Try.func66, Try.ntmps66
      go_wp2
      go_ret
      exact ⟨rfl, H.out, Only.refl _ _⟩
    · rw [if_neg (fun e => h2 e.2), if_neg (fun e => h2 e.2)]
      have hb2 : (s.who == id) = false := by simp [h2]
      clear h1 h2 hw
      go_enter Try.func66, Try.ntmps66
      go_wp2_with (first
        | (go_at_call 48; refine (Push_c id H.out.row).mono ?_; rintro e w' ⟨rfl, h1, h2⟩)
        | go_in)
      go_ret
      have R := H.out.fifo h1 h2
      exact ⟨rfl, R.1, R.2⟩
end
theorem Wake_nil (id : Int) (w : World) : Calls Try.prog 66 #[.pointer none, .int .i64 id] w fun e w' => e = .returned (.bool false) ∧ w = w' := by
  go_enter Try.func66, Try.ntmps66
  go_wp2
  go_ret
  exact ⟨rfl, rfl⟩

def TS.begins (s : TS) : Bool := decide (s.who = -1) && !s.L.isEmpty
def TS.begin_ (s : TS) : TS := if s.who = -1 then match s.L with | [] => s | x :: r => ⟨r, s.m.give x, x, s.done + 1⟩ else s
def TS.bout (s : TS) : Ending := .returned (.tuple #[.int .i64 (if s.who = -1 then hd s.L 0 else 0), .bool s.begins])
section
variable {w : World} {p : TP} {N : Nat} {s : TS}
set_option maxHeartbeats 800000 in
theorem Begin_c (h : TurnsAt w p N s) (hd_ : s.done < 1000000) : Calls Try.prog 67 #[.pointer (some ⟨p.t, 0, none⟩)] w fun e w' => e = s.bout ∧ TurnsAt w' p N s.begin_ ∧ Only p.all w w' := by
  obtain ⟨c0, c1, c2, c3, f2, f3⟩ := h.cells
  have hw := h.who
  have H := hide h
  have hdn0 : (0:Int) ≤ s.done + 1 := by have := h.done0; omega
  have hdn1 : s.done + 1 ≤ 1000000 := by omega
  clear h
  unfold TS.bout TS.begins TS.begin_
  by_cases h1 : s.who = -1
  · rw [if_pos h1, if_pos h1, decide_eq_true h1]
    rw [h1] at c2
    have H1 := hide h1
    clear h1 hw
    obtain ⟨L, hL⟩ : ∃ L, L = s.L := ⟨_, rfl⟩
    rw [← hL]
    have HL := hide hL
    clear hL
    cases L with
    | nil =>
      go_enter Try.func67, Try.ntmps67
      go_wp2_with (first
        | (go_at_call 49; refine (Pop_none (by have := H.out.row; rwa [← HL.out] at this)).mono ?_; rintro e w' ⟨rfl, rfl⟩)
        | go_in)
      go_ret2
      exact ⟨rfl, H.out, Only.refl _ _⟩
    | cons x r =>
      have hx := H.out.row.nodup.2 x (by rw [← HL.out]; simp)
      have Hx := hide hx
      clear hx
      go_enter Try.func67, Try.ntmps67
      go_wp2_with (first
        | (go_at_call 49
           refine (Pop_some (x := x) (r := r) (by have := H.out.row; rwa [← HL.out] at this)).mono ?_
           rintro e w1 ⟨rfl, h1, h2⟩
           have R1 := hide (H.out.fifo h1 h2)
           obtain ⟨k0, k1, k2, k3, g2, g3⟩ := R1.out.1.cells
           rw [H1.out] at k2
           simp only at k3
           clear h1 h2)
        | (go_at_call 21
           have R2 := hide (R1.out.1.set_who x (Or.inr Hx.out))
           have R3 := hide (R2.out.1.set_done (s.done + 1) hdn0 hdn1)
           refine (Give_c x R3.out.1.pur R3.out.1.ok).mono ?_
           rintro e w2 ⟨rfl, h1, h2⟩)
        | go_in)
      have R2 := hide (R1.out.1.set_who x (Or.inr Hx.out))
      have R3 := hide (R2.out.1.set_done (s.done + 1) hdn0 hdn1)
      have R4 := hide (R3.out.1.purse h1 h2 (R3.out.1.ok.give x) (PurseM.put_len _ _ _))
      clear h1 h2
      go_ret2
      exact ⟨rfl, R4.out.1, ((R1.out.2.trans R2.out.2).trans R3.out.2).trans R4.out.2⟩
  · rw [if_neg h1, if_neg h1, decide_eq_false h1]
    have hb1 : (s.who != -1) = true := by simp [h1]
    clear h1 hw
    go_enter Try.func67, Try.ntmps67
    go_wp2
    go_ret2
    exact ⟨rfl, H.out, Only.refl _ _⟩
end
theorem Begin_nil (w : World) : Calls Try.prog 67 #[.pointer none] w fun e w' => e = .returned (.tuple #[.int .i64 0, .bool false]) ∧ w = w' := by
  go_enter Try.func67, Try.ntmps67
  go_wp2
  go_ret2
  exact ⟨rfl, rfl⟩
end Go.Proofs.Ytmkbhejbbhikcaa
