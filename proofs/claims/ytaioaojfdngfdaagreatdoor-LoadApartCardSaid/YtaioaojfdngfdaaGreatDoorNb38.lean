/- Parts of a chain of lemmas: Ld3, Ld4, Ld5. Conditions: those of each theorem. -/
import Derived.Test.YtaioaojfdngfdaaGreatDoorNb37
import Derived.BigRegion
set_option linter.unusedVariables false
set_option linter.unusedSimpArgs false
namespace Go.Proofs.YtaioaojfdngfdaaGreatDoor
open Go.RowKit
/-- a script of a text, as memory has it -/
structure ScrV where
 nm : ByteArray
 d : Int
 j : Int
 A : Option Addr
 c : Nat
 L : List OpV
 line : Int
 x : Int
 y : Int
 err : Int
def ScrV.m (v : ScrV) : ScrM := ⟨progM v.nm v.d v.j v.L, v.line, v.x, v.y, v.err⟩
def encScr (v : ScrV) : List Value := [.string v.nm, .int .i64 v.d, .int .i64 v.j, .slice v.A v.L.length v.c, .int .i64 v.line, .int .i64 v.x, .int .i64 v.y, .int .i64 v.err]
theorem encScr_len (v : ScrV) : (encScr v).length = 8 := rfl
theorem encScr_one (v : ScrV) : ∀ u ∈ encScr v, u.oneCell' = true := by intro u hu; simp [encScr] at hu; rcases hu with rfl | rfl | rfl | rfl | rfl | rfl | rfl | rfl <;> rfl
def scr0 : ScrV := ⟨⟨#[]⟩, 0, 0, none, 0, [], 0, 0, 0, 0⟩
def scrAt (l : List ScrV) (k : Nat) : ScrV := l.getD k scr0
theorem scrAt_some {l : List ScrV} {k : Nat} (hk : k < l.length) : l[k]? = some (scrAt l k) := by simp [scrAt, List.getD, hk]
theorem scrAt_get {l : List ScrV} {k : Nat} (hk : k < l.length) : scrAt l k = l[k] := by simp [scrAt, List.getD, hk]
theorem scr_cells {w : World} {M : Nat → Prop} {A : Option Addr} {l : List ScrV} (hr : Rd w M A (flat encScr l)) (k : Nat) (hk : k < l.length) : ∃ b o, A = some ⟨b, o, none⟩ ∧ b < w.heap.size ∧ ¬ M b ∧ ∀ j, j < 8 → w.cell? ⟨b, o + k * 8 + j, none⟩ = (encScr (scrAt l k))[j]? := by
 obtain ⟨b, o, hA, hm, hb, hc⟩ := flat_cells encScr_len hr k _ (scrAt_some hk) (by omega)
 exact ⟨b, o, hA, hb, hm, fun j hj => hc j hj⟩
theorem str_dec (a b : ByteArray) : (a.toList == b.toList) = decide (a = b) := by
 rw [ByteArray.toList_eq, ByteArray.toList_eq, beq_dec]
 by_cases e : a = b
 ·subst e; simp
 ·rw [decide_eq_false e, decide_eq_false]
  intro h2
  exact e (congrArg bs h2)
def idxN (name : ByteArray) (l : List ScrM) : Int := if hasM l name = true then (findM l name : Int) else -1
theorem idxN_at (name : ByteArray) (l : List ScrV) (k : Nat) (hk : k < l.length) (h : ∀ y ∈ l.take k, isScr name y.m = false) (hx : isScr name (scrAt l k).m = true) : idxN name (l.map (·.m)) = k := by
 rw [scrAt_get hk] at hx
 unfold idxN hasM findM
 rw [if_pos (List.any_eq_true.2 ⟨l[k].m, List.mem_map.2 ⟨l[k], List.getElem_mem hk, rfl⟩, hx⟩)]
 have : (l.map (·.m)).findIdx (isScr name) = k := by
  rw [List.findIdx_eq (by simpa using hk)]
  refine ⟨by simpa using hx, fun j hj => ?_⟩
  rw [List.getElem_map]
  exact h _ (by rw [List.mem_take_iff_getElem]; exact ⟨j, by omega, rfl⟩)
 rw [this]
theorem idxN_none (name : ByteArray) (l : List ScrV) (h : ∀ y ∈ l, isScr name y.m = false) : idxN name (l.map (·.m)) = -1 := by
 unfold idxN hasM
 rw [if_neg]
 intro ha
 obtain ⟨x, hx, ho⟩ := List.any_eq_true.1 ha
 obtain ⟨y, hy, rfl⟩ := List.mem_map.1 hx
 rw [h y hy] at ho
 cases ho
theorem idxN_ge (name : ByteArray) (l : List ScrM) : decide (0 ≤ idxN name l) = hasM l name := by
 unfold idxN
 cases h : hasM l name
 ·rfl
 ·simp
theorem idxN_max (name : ByteArray) (l : List ScrM) : max (idxN name l) 0 = if hasM l name = true then (findM l name : Int) else 0 := by
 unfold idxN
 split
 ·omega
 ·rfl
set_option maxRecDepth 100000 in
set_option maxHeartbeats 1600000 in
theorem fnd1_c (v : ScrV) (name : ByteArray) (b : Nat) (w : World) (hb : w.cell? ⟨b, 0, none⟩ = some (.string name)) (hlt : b < w.heap.size) :
 Calls Tryz.prog 87 #[.agg (encScr v).toArray, .pointer (some ⟨b, 0, none⟩)] w fun e w' => e = .returned (.bool (isScr name v.m)) ∧ Below w.heap.size w w' := by
 have HI := hide (show isScr name v.m = (decide (v.err = 0) && decide (v.nm = name)) from rfl)
 have HS := hide (str_dec v.nm name)
 obtain ⟨B, hB⟩ : ∃ B, B = decide (v.nm = name) := ⟨_, rfl⟩
 obtain ⟨R, hR⟩ : ∃ R, R = isScr name v.m := ⟨_, rfl⟩
 rw [← hB] at HI HS
 rw [← hR] at HI ⊢
 clear hB hR
 obtain ⟨nm, d, j, A, c, L, line, x, y, err⟩ := v
 simp only [encScr] at HI HS ⊢
 have hne : ¬ b = w.heap.size := by omega
 have hne2 : ¬ w.heap.size = b := by omega
 by_cases he : err = 0
 case pos =>
  have q1 : (err == 0) = true := by rw [he]; rfl
  have HR := hide (show R = B by rw [HI.out, decide_eq_true he]; rfl)
  have q2 := HS.out
  clear he HI HS
  go_enter Tryz.func87, Tryz.ntmps87
  go_wp2_with fail
  all_goals (go_ret; exact ⟨by rw [HR.out, ← q2]; rfl, below_alloc _ _⟩)
 case neg =>
  have q1 : (err == 0) = false := beq_eq_false_iff_ne.2 he
  have HR := hide (show R = false by rw [HI.out, decide_eq_false he]; rfl)
  clear he HI HS
  go_enter Tryz.func87, Tryz.ntmps87
  go_wp2_with fail
  go_ret
  exact ⟨by rw [HR.out]; rfl, below_alloc _ _⟩
set_option maxRecDepth 100000 in
set_option maxHeartbeats 3200000 in
theorem IndexN_c (M : Nat → Prop) (A : Option Addr) (c : Nat) (l : List ScrV) (name : ByteArray) (b : Nat) (w : World) (hr : Rd w M A (flat encScr l)) (hn0 : l.length ≤ 1000000) (hb : w.cell? ⟨b, 0, none⟩ = some (.string name)) (hlt : b < w.heap.size) :
 Calls Tryz.prog 86 #[.slice A l.length c, .func (.func 87) #[] #[.pointer (some ⟨b, 0, none⟩)]] w fun e w' => e = .returned (.int .i64 (idxN name (l.map (·.m)))) ∧ Below w.heap.size w w' := by
 have hn : l.length ≤ 9223372036854775807 := by omega
 have Hc := hide (fun k hk => scr_cells hr k hk)
 obtain ⟨n, hnl⟩ : ∃ n, n = l.length := ⟨_, rfl⟩
 rw [← hnl] at hn ⊢
 have Hn := hide hnl
 have Hb := hide hb
 have HNo := hide (idxN_none name l)
 have HAt := hide (idxN_at name l)
 have HPr := hide (fun (v : ScrV) (X : World) h1 h2 => fnd1_c v name b X h1 h2)
 clear hr hn0 hnl hb
 go_enter Tryz.func86, Tryz.ntmps86
 go_wp2_with fail
 go_loopw [8] (fun i wr => ∃ k : Nat, k ≤ n ∧ i = .int .i64 k ∧ Hid (∀ y ∈ l.take k, isScr name y.m = false) ∧ Hid (Below w.heap.size w wr)) (fun i _ => n - (intOf i).toNat)
 case atStart => exact ⟨0, Nat.zero_le _, rfl, hide (by simp), hide (Below.refl _ _)⟩
 case round =>
  obtain ⟨k, hk, rfl, hnone, hbel⟩ := hrel
  by_cases hlt2 : k < n
  ·have hkl : k < l.length := by rw [← Hn.out]; exact hlt2
   obtain ⟨b2, o, rfl, hb2, _, hc⟩ := Hc.out k hkl
   obtain ⟨v, hv⟩ : ∃ v, v = scrAt l k := ⟨_, rfl⟩
   rw [← hv] at hc
   have gc : ∀ j, j < 8 → wr.cell? ⟨b2, o + k * 8 + j, none⟩ = (encScr v)[j]? := fun j hj => (Only.cell (Only.of_below hbel.out NoBlk) (p := ⟨b2, o + k * 8 + j, none⟩) hb2 (fun h => h)).trans (hc j hj)
   have g0 : wr.cell? ⟨b2, o + k * 8, none⟩ = some (.string v.nm) := gc 0 (by omega)
   have g1 : wr.cell? ⟨b2, o + k * 8 + 1, none⟩ = some (.int .i64 v.d) := gc 1 (by omega)
   have g2 : wr.cell? ⟨b2, o + k * 8 + 2, none⟩ = some (.int .i64 v.j) := gc 2 (by omega)
   have g3 : wr.cell? ⟨b2, o + k * 8 + 3, none⟩ = some (.slice v.A v.L.length v.c) := gc 3 (by omega)
   have g4 : wr.cell? ⟨b2, o + k * 8 + 4, none⟩ = some (.int .i64 v.line) := gc 4 (by omega)
   have g5 : wr.cell? ⟨b2, o + k * 8 + 5, none⟩ = some (.int .i64 v.x) := gc 5 (by omega)
   have g6 : wr.cell? ⟨b2, o + k * 8 + 6, none⟩ = some (.int .i64 v.y) := gc 6 (by omega)
   have g7 : wr.cell? ⟨b2, o + k * 8 + 7, none⟩ = some (.int .i64 v.err) := gc 7 (by omega)
   have hpred := HPr.out v wr (bkeepL hbel.out hlt Hb.out) (Nat.lt_of_lt_of_le hlt hbel.out.size)
   have d1 : decide ((k : Int) < (n : Int)) = true := by simp; exact hlt2
   have d2 : decide (k < n) = true := by simp; exact hlt2
   have j1 : (0 : Int) ≤ (k : Int) := by omega
   have j2 : (k : Int) < (n : Int) := by omega
   have w1 : IntKind.i64.wrap ((k : Int) + 1) = (k : Int) + 1 := IntWalk.i64_in _ (by omega)
   have HX := hide hv
   clear hc gc hv
   cases ho : isScr name v.m with
   | true =>
    rw [ho] at hpred
    have HP := hide hpred
    have HI := hide (HAt.out k hkl hnone.out (by rw [← HX.out]; exact ho))
    clear hpred ho hkl
    go_wp2_with (go_at_call 87; refine HP.out.mono ?_; rintro e w2 ⟨rfl, hb2⟩)
    go_ret
    exact ⟨by rw [HI.out]; rfl, hbel.out.trans (hb2.mono hbel.out.size)⟩
   | false =>
    rw [ho] at hpred
    have HP := hide hpred
    have HIn : Hid (∀ y ∈ l.take (k + 1), isScr name y.m = false) := by
     intro y hy
     rw [List.take_add_one, scrAt_some hkl] at hy
     rcases List.mem_append.1 hy with hy | hy
     ·exact hnone.out y hy
     ·simp only [Option.toList_some, List.mem_singleton] at hy
      subst hy
      rw [← HX.out]
      exact ho
    clear hpred ho hnone hkl
    go_wp2_with (go_at_call 87; refine HP.out.mono ?_; rintro e w2 ⟨rfl, hb2⟩)
    have HB2 := hide (hbel.out.trans (hb2.mono hbel.out.size))
    go_roundw
    case rel => exact ⟨k + 1, by omega, by go_num, HIn, HB2⟩
    case measure => simp [intOf]; omega
  ·obtain rfl : k = n := by omega
   have HI := hide (HNo.out (by have := hnone.out; rw [Hn.out, List.take_length] at this; exact this))
   have d1 : decide ((k : Int) < (k : Int)) = false := by simp
   have d2 : decide (k < k) = false := by simp
   clear hnone
   go_wp2_with fail
   go_ret
   exact ⟨by rw [HI.out]; rfl, hbel.out⟩
set_option maxRecDepth 100000 in
set_option maxHeartbeats 1600000 in
theorem find_c (M : Nat → Prop) (A : Option Addr) (c : Nat) (l : List ScrV) (name : ByteArray) (w : World) (hr : Rd w M A (flat encScr l)) (hn0 : l.length ≤ 1000000) :
 Calls Tryz.prog 51 #[.slice A l.length c, .string name] w fun e w' => e = .returned (.tuple #[.int .i64 (if hasM (l.map (·.m)) name = true then (findM (l.map (·.m)) name : Int) else 0), .bool (hasM (l.map (·.m)) name)]) ∧ Below w.heap.size w w' := by
 obtain ⟨X, hX⟩ : ∃ X, X = w.alloc (.cells #[.string name] 9) := ⟨_, rfl⟩
 have HXb := hide (show Below w.heap.size w X by rw [hX]; exact below_alloc _ _)
 have HI := hide (IndexN_c (fun k => M k ∨ False) A c l name w.heap.size X (by rw [hX]; exact (hr.alloc _).mono (fun k h => h.elim id False.elim)) hn0 (by rw [hX]; exact (Blk.new w _ _).cell 0) (by rw [hX]; simp))
 have HG := hide (idxN_ge name (l.map (·.m)))
 have HMx := hide (idxN_max name (l.map (·.m)))
 obtain ⟨k, hk⟩ : ∃ k, k = idxN name (l.map (·.m)) := ⟨_, rfl⟩
 rw [← hk] at HI HG HMx
 rw [← HMx.out, ← HG.out]
 have HX := hide hX
 clear hk hr hX HG HMx
 go_enter Tryz.func51, Tryz.ntmps51
 go_wp2_with fail
 rw [← HX.out]
 refine HI.out.mono ?_
 rintro e w' ⟨rfl, hb⟩
 have HB := hide (HXb.out.trans (hb.mono HXb.out.size))
 clear hb
 go_wp2_with fail
 refine bodyPost_ret (v := .tuple #[.int .i64 (max k 0), .bool (decide (0 ≤ k))]) (by simp [results, Tryz.results51, go_sem]; try rfl) rfl ?_
 exact ⟨rfl, HB.out⟩
set_option maxRecDepth 100000 in
theorem Find_c (M : Nat → Prop) (A : Option Addr) (c : Nat) (l : List ScrV) (name : ByteArray) (w : World) (hr : Rd w M A (flat encScr l)) (hn0 : l.length ≤ 1000000) :
 Calls Tryz.prog 26 #[.slice A l.length c, .string name] w fun e w' => e = .returned (.tuple #[.int .i64 (if hasM (l.map (·.m)) name = true then (findM (l.map (·.m)) name : Int) else 0), .bool (hasM (l.map (·.m)) name)]) ∧ Below w.heap.size w w' := by
 have HI := hide (find_c M A c l name w hr hn0)
 obtain ⟨k, hk⟩ : ∃ k, k = (if hasM (l.map (·.m)) name = true then (findM (l.map (·.m)) name : Int) else 0) := ⟨_, rfl⟩
 obtain ⟨B, hB⟩ : ∃ B, B = hasM (l.map (·.m)) name := ⟨_, rfl⟩
 rw [← hk, ← hB] at HI
 rw [← hk, ← hB]
 clear hk hB hr
 go_enter Tryz.func26, Tryz.ntmps26
 go_wp2_with fail
 refine HI.out.mono ?_
 rintro e w' ⟨rfl, hb⟩
 have HB := hide hb
 clear hb
 go_wp2_with fail
 refine bodyPost_ret (v := .tuple #[.int .i64 k, .bool B]) (by simp [results, Tryz.results26, go_sem]; try rfl) rfl ?_
 exact ⟨rfl, HB.out⟩
structure PartV where
 line : Nat
 A : Option Addr
 c : Nat
 l : List (List UInt8)
def PartV.m (p : PartV) : PartM := ⟨p.line, p.l⟩
def encPart (p : PartV) : List Value := [.int .i64 (p.line : Nat), .slice p.A p.l.length p.c]
theorem encPart_len (p : PartV) : (encPart p).length = 2 := rfl
theorem encPart_one (p : PartV) : ∀ u ∈ encPart p, u.oneCell' = true := by intro u hu; simp [encPart] at hu; rcases hu with rfl | rfl <;> rfl
theorem Tryz.infoPart : (Tryz.prog.info? 100).map (fun i => (i.zero, i.size, i.bytes)) = some (some (.agg #[.int .i64 0, .slice none 0 0]), 2, 32) := by kernel_rfl
theorem rd_step {S M M' : Nat → Prop} {w w' : World} {A : Option Addr} {xs : List Value} (h : Rd w M A xs) (k : Only S w w') (hS : ∀ b, b < w.heap.size → S b → M b) (hM : ∀ b, M' b → M b ∨ w.heap.size ≤ b) : Rd w' M' A xs := by
 rcases h with h | ⟨b, o, hA, hm, hb, hc⟩
 ·exact Or.inl h
 ·refine Or.inr ⟨b, o, hA, fun hx => ?_, Nat.lt_of_lt_of_le hb k.size, fun j hj => (k.cell (p := ⟨b, o + j, none⟩) hb (fun hx => hm (hS b hb hx))).trans (hc j hj)⟩
  rcases hM b hx with hx | hx
  ·exact hm hx
  ·omega
/-- the rows that must not turn: those ahead of B, the two that grow -/
def Mc (B : Nat) (v u : Value) (k : Nat) : Prop := k < B ∨ v.ownBlock = some k ∨ u.ownBlock = some k
structure CutAt (w : World) (B g : Nat) (out : List PartV) (v : Value) (ln : Nat) (uA : Option Addr) (uc : Nat) (cur : List (List UInt8)) : Prop where
 blk : Blk w g 100 #[.int .i64 (ln : Nat), .slice uA cur.length uc]
 own : w.ownsRow B 100 2 v out.length (flat encPart out)
 row : w.ownsRow B 9 1 (.slice uA cur.length uc) cur.length (flat encLn cur)
 inn : ∀ p ∈ out, Rd w (Mc B v (.slice uA cur.length uc)) p.A (flat encLn p.l)
 lt : g < B
 sz : B ≤ w.heap.size
section
variable {w w1 w' : World} {B g ln uc : Nat} {out : List PartV} {v v' : Value} {uA : Option Addr} {cur : List (List UInt8)}
theorem CutAt.same (h : CutAt w B g out v ln uA uc cur) (q : Only NoBlk w w') : CutAt w' B g out v ln uA uc cur :=
 ⟨h.blk.only q (fun h => h), own_only h.own q (fun _ _ h => h.elim), own_only h.row q (fun _ _ h => h.elim), fun p hp => (h.inn p hp).only q (fun _ h => h.elim), h.lt, Nat.le_trans h.sz q.size⟩
theorem flat_snoc {α : Type} (enc : α → List Value) (l : List α) (a : α) : flat enc (l ++ [a]) = flat enc l ++ enc a := by simp [flat]
theorem CutAt.rows {w2 : World} (h : CutAt w B g out v ln uA uc cur) (hv : v'.ownBlock = v.ownBlock ∨ v'.ownBlock = some w.heap.size) (kk : Only (fun k => v.ownBlock = some k ∨ k = g) w w2) :
 ∀ p ∈ out ++ [(⟨ln, uA, uc, cur⟩ : PartV)], Rd w2 (Mc B v' (.slice none 0 0)) p.A (flat encLn p.l) := by
 have hcur : Rd w (fun k => k < B ∨ v.ownBlock = some k) uA (flat encLn cur) := by
  have r := Rd.of_own (M := fun k => k < B) h.row (fun k hk => hk)
  rcases r with r | ⟨b, o, hA, hm, hb, hc⟩
  ·exact Or.inl r
  ·refine Or.inr ⟨b, o, hA, ?_, hb, hc⟩
   rintro (hx | hx)
   ·exact hm hx
   ·subst hA
    obtain ⟨c1, x1⟩ := own_blk h.own hx
    obtain ⟨c2, x2⟩ := own_blk (g := b) h.row rfl
    exact Blk.ne_ x1 x2 (by decide) rfl
 have hM : ∀ b, Mc B v' (.slice none 0 0) b → (b < B ∨ v.ownBlock = some b) ∨ w.heap.size ≤ b := by
  rintro b (hx | hx | hx)
  ·exact Or.inl (Or.inl hx)
  ·rcases hv with e | e
   ·exact Or.inl (Or.inr (e ▸ hx))
   ·rw [e] at hx; injection hx with hx; exact Or.inr (by omega)
  ·cases hx
 intro p hp
 rcases List.mem_append.1 hp with hp | hp
 ·refine rd_step (h.inn p hp) kk (fun b _ hx => ?_) (fun b hb => ?_)
  ·rcases hx with hx | hx
   ·exact Or.inr (Or.inl hx)
   ·exact Or.inl (by have := h.lt; omega)
  ·rcases hM b hb with (h1 | h1) | h1
   ·exact Or.inl (Or.inl h1)
   ·exact Or.inl (Or.inr (Or.inl h1))
   ·exact Or.inr h1
 ·rw [List.mem_singleton] at hp
  subst hp
  refine rd_step hcur kk (fun b _ hx => ?_) hM
  rcases hx with hx | hx
  ·exact Or.inr hx
  ·exact Or.inl (by have := h.lt; omega)
theorem CutAt.push {i : Nat} (h : CutAt w B g out v ln uA uc cur) (ho : w1.ownsRow B 100 2 v' (out.length + 1) (flat encPart out ++ [.int .i64 (ln : Nat), .slice uA cur.length uc])) (hg : w.grownBy w1 v.ownBlock)
 (hv : v'.ownBlock = v.ownBlock ∨ v'.ownBlock = some w.heap.size) (hgv : v.ownBlock ≠ some g) :
 CutAt ((w1.setCell ⟨g, 0, none⟩ (.int .i64 (i : Nat))).setCell ⟨g, 1, none⟩ (.slice none 0 0)) B g (out ++ [⟨ln, uA, uc, cur⟩]) v' i none 0 [] ∧ Only (fun k => k = g ∨ B ≤ k) w ((w1.setCell ⟨g, 0, none⟩ (.int .i64 (i : Nat))).setCell ⟨g, 1, none⟩ (.slice none 0 0)) := by
 have k1 : Only (fun k => v.ownBlock = some k) w w1 := (Only.refl _ w).grown hg (fun k hk => Or.inl hk)
 have hgb : g < w.heap.size := h.blk.lt
 have b1 : Blk w1 g 100 #[.int .i64 (ln : Nat), .slice uA cur.length uc] := h.blk.only k1 hgv
 have k2 : Only (· = g) w1 ((w1.setCell ⟨g, 0, none⟩ (.int .i64 (i : Nat))).setCell ⟨g, 1, none⟩ (.slice none 0 0)) := Only.setCell (S := (· = g)) (Only.setCell (S := (· = g)) (Only.refl _ w1) (p := ⟨g, 0, none⟩) (Or.inl rfl) _) (p := ⟨g, 1, none⟩) (Or.inl rfl) _
 have hv' : v'.ownBlock ≠ some g := by
  rcases hv with e | e
  ·rw [e]; exact hgv
  ·rw [e]; intro hx; injection hx with hx; omega
 have kk : Only (fun k => v.ownBlock = some k ∨ k = g) w ((w1.setCell ⟨g, 0, none⟩ (.int .i64 (i : Nat))).setCell ⟨g, 1, none⟩ (.slice none 0 0)) := (k1.mono (fun k _ hk => Or.inl hk)).trans (k2.mono (fun k _ hk => Or.inr hk))
 refine ⟨⟨?_, ?_, World.ownsRow_nil _ _ _ _, h.rows hv kk, h.lt, Nat.le_trans h.sz kk.size⟩, kk.mono fun k hk hx => ?_⟩
 ·exact (b1.set_ 0 (.int .i64 (i : Nat))).set_ 1 (.slice none 0 0)
 ·have ho2 : w1.ownsRow B 100 2 v' (out ++ [(⟨ln, uA, uc, cur⟩ : PartV)]).length (flat encPart (out ++ [(⟨ln, uA, uc, cur⟩ : PartV)])) := by
   rw [flat_snoc, List.length_append]; exact ho
  exact own_apart2 ho2 k2 (fun k hk he => hv' (he ▸ hk))
 ·rcases hx with hx | hx
  ·exact Or.inr (own_ge h.own k hx)
  ·exact Or.inl hx
theorem CutAt.done (h : CutAt w B g out v ln uA uc cur) (ho : w1.ownsRow B 100 2 v' (out.length + 1) (flat encPart out ++ [.int .i64 (ln : Nat), .slice uA cur.length uc])) (hg : w.grownBy w1 v.ownBlock)
 (hv : v'.ownBlock = v.ownBlock ∨ v'.ownBlock = some w.heap.size) :
 w1.ownsRow B 100 2 v' (out ++ [(⟨ln, uA, uc, cur⟩ : PartV)]).length (flat encPart (out ++ [(⟨ln, uA, uc, cur⟩ : PartV)])) ∧ (∀ p ∈ out ++ [(⟨ln, uA, uc, cur⟩ : PartV)], Rd w1 (· < B) p.A (flat encLn p.l)) ∧ Only (fun k => k = g ∨ B ≤ k) w w1 := by
 have k1 : Only (fun k => v.ownBlock = some k) w w1 := (Only.refl _ w).grown hg (fun k hk => Or.inl hk)
 refine ⟨?_, fun p hp => (h.rows hv (k1.mono fun k _ hk => Or.inl hk) p hp).mono fun b hb => Or.inl hb, k1.mono fun k _ hx => Or.inr (own_ge h.own k hx)⟩
 rw [flat_snoc, List.length_append]
 exact ho
theorem CutAt.add {uA' : Option Addr} {uc' : Nat} {s : List UInt8} (h : CutAt w B g out v ln uA uc cur) (ho : w1.ownsRow B 9 1 (.slice uA' (cur.length + 1) uc') (cur.length + 1) (flat encLn cur ++ [.string (bs s)])) (hg : w.grownBy w1 (Value.slice uA cur.length uc).ownBlock)
 (hv : (Value.slice uA' (cur.length + 1) uc').ownBlock = (Value.slice uA cur.length uc).ownBlock ∨ (Value.slice uA' (cur.length + 1) uc').ownBlock = some w.heap.size) :
 CutAt (w1.setCell ⟨g, 1, none⟩ (.slice uA' (cur.length + 1) uc')) B g out v ln uA' uc' (cur ++ [s]) ∧ Only (fun k => k = g ∨ B ≤ k) w (w1.setCell ⟨g, 1, none⟩ (.slice uA' (cur.length + 1) uc')) := by
 have k1 : Only (fun k => (Value.slice uA cur.length uc).ownBlock = some k) w w1 := (Only.refl _ w).grown hg (fun k hk => Or.inl hk)
 have b1 := h.blk.grown h.row (by decide) hg
 have o1 := own_grown h.own h.row (by decide) hg
 have k2 : Only (· = g) w1 (w1.setCell ⟨g, 1, none⟩ (.slice uA' (cur.length + 1) uc')) := Only.setCell (S := (· = g)) (Only.refl _ w1) (p := ⟨g, 1, none⟩) (Or.inl rfl) _
 have kk : Only (fun k => (Value.slice uA cur.length uc).ownBlock = some k ∨ k = g) w (w1.setCell ⟨g, 1, none⟩ (.slice uA' (cur.length + 1) uc')) := (k1.mono (fun k _ hk => Or.inl hk)).trans (k2.mono (fun k _ hk => Or.inr hk))
 have e : (cur ++ [s]).length = cur.length + 1 := by simp
 refine ⟨⟨?_, ?_, ?_, ?_, h.lt, Nat.le_trans h.sz kk.size⟩, kk.mono fun k hk hx => ?_⟩
 ·rw [e]; exact b1.set_ 1 _
 ·exact own_apart2 o1 k2 (fun k hk he => by have := own_ge h.own k hk; have := h.lt; omega)
 ·rw [e, flat_ln]
  exact own_apart2 ho k2 (fun k hk he => by
   rcases hv with x | x
   ·have := own_ge h.row k (x ▸ hk); have := h.lt; omega
   ·rw [x] at hk; injection hk with hk; have := h.lt; have := h.sz; omega)
 ·intro p hp
  rw [e]
  refine rd_step (h.inn p hp) kk (fun b _ hx => ?_) (fun b hb => ?_)
  ·rcases hx with hx | hx
   ·exact Or.inr (Or.inr hx)
   ·exact Or.inl (by have := h.lt; omega)
  ·rcases hb with hb | hb | hb
   ·exact Or.inl (Or.inl hb)
   ·exact Or.inl (Or.inr (Or.inl hb))
   ·rcases hv with x | x
    ·exact Or.inl (Or.inr (Or.inr (x ▸ hb)))
    ·rw [x] at hb; injection hb with hb; exact Or.inr (by omega)
 ·rcases hx with hx | hx
  ·exact Or.inr (own_ge h.row k hx)
  ·exact Or.inl hx
end
theorem cutGo_at (ls : List (List UInt8)) (k : Nat) (h : k < ls.length) (p : PartM) : cutGo (ls.drop k) k p = if headB (ls.getD k []) = true then p :: cutGo (ls.drop (k + 1)) (k + 1) ⟨k + 1, [ls.getD k []]⟩ else cutGo (ls.drop (k + 1)) (k + 1) ⟨p.line, p.l ++ [ls.getD k []]⟩ := by
 have e : ls.getD k [] = ls[k] := by simp [List.getD, h]
 rw [List.drop_eq_getElem_cons h, e]
 rfl
theorem rd_tail {w : World} {M : Nat → Prop} {b o : Nat} {xs ys : List Value} (h : Rd w M (some ⟨b, o, none⟩) (xs ++ ys)) : Rd w M (some ⟨b, o + xs.length, none⟩) ys := by
 rcases h with h | ⟨b', o', hA, hm, hb, hc⟩
 ·exact Or.inl (List.append_eq_nil_iff.1 h).2
 ·injection hA with hA; injection hA with h1 h2
  subst h1 h2
  refine Or.inr ⟨b, o + xs.length, rfl, hm, hb, fun j hj => ?_⟩
  have := hc (xs.length + j) (by simp; omega)
  rw [← Nat.add_assoc] at this
  rw [this, List.getElem?_append_right (by omega)]
  congr 1
  omega
theorem Tryz.infoStr' : (Tryz.prog.info? 9).map (fun i => (i.zero, i.size, i.bytes)) = some (some (.string ⟨#[]⟩), 1, 16) := by kernel_rfl
theorem own_le {w : World} {base size n c : Nat} {e : TypeId} {A : Option Addr} {xs : List Value} (h : w.ownsRow base e size (.slice A n c) n xs) : n ≤ c := by
 obtain ⟨A', c', he, hc⟩ := own_cap h
 injection he with _ _ he
 omega
set_option maxRecDepth 100000 in
set_option maxHeartbeats 25600000 in
theorem cut_c (s : ByteArray) (w : World) (hs : s.size ≤ 40000) (hl : LenV w) : Calls Tryz.prog 47 #[.string s] w fun e w' => (∃ (A : Option Addr) (c : Nat) (V : List PartV), e = .returned (.slice A V.length c) ∧ V.map (·.m) = cutM s.data.toList ∧ Rd w' (· < w.heap.size) A (flat encPart V) ∧ ∀ p ∈ V, Rd w' (· < w.heap.size) p.A (flat encLn p.l) ∧ p.l.length ≤ p.c) ∧ Only NoBlk w w' := by
 obtain ⟨ls, hls⟩ : ∃ ls, ls = linesM s.data.toList := ⟨_, rfl⟩
 have hln : ls.length ≤ 40001 := by
  have h1 := linesGo_len s.data.toList []
  rw [hls]
  unfold linesM
  have h2 : s.data.toList.length = s.size := by simp
  omega
 have HLs := hide (fun (X : World) (hX : LenV X) => Lines_q s X (by omega) hX)
 rw [← hls] at HLs
 obtain ⟨P, hP⟩ : ∃ P, P = cutGo ls 0 ⟨1, []⟩ := ⟨_, rfl⟩
 have HPs := hide (show cutM s.data.toList = dropP P by rw [hP, hls]; rfl)
 have HP0 := hide (show P = [] ++ cutGo (ls.drop 0) 0 ⟨1, []⟩ from hP)
 have HSt := hide (cutGo_at ls)
 obtain ⟨i0, hi, hz0, hz1, hz2⟩ := info_parts Tryz.infoPart
 obtain ⟨i1, hi1, hz10, hz11, hz12⟩ := info_parts Tryz.infoStr'
 rw [HPs.out]
 have HL := hide hl
 have HSz0 := hide (show ∀ q, (ls.getD q []).length ≤ 40000 from fun q => (by
  have h1 := linesM_sz s.data.toList q
  have h2 : s.data.toList.length = s.size := by simp
  rw [← hls] at h1
  omega))
 obtain ⟨n, hn⟩ : ∃ n, n = ls.length := ⟨_, rfl⟩
 clear hls hP HPs hl
 go_enter Tryz.func47, Tryz.ntmps47
 go_wp2_with fail
 generalize hX : World.alloc w _ = X
 obtain ⟨g, hg⟩ : ∃ g, g = w.heap.size := ⟨_, rfl⟩
 have HX := hide (show Only NoBlk w X by rw [← hX]; exact (Only.refl _ w).alloc _)
 have HG := hide (show Blk X g 100 #[.int .i64 1, .slice none 0 0] by rw [← hX, hg]; exact Blk.new _ _ _)
 rw [← hg]
 have HLX := hide (show LenV X from HL.out.elim fun m h => ⟨m, okeep HX.out (fun h => h) h⟩)
 clear hX
 refine (HLs.out X HLX.out).mono ?_
 rintro e W ⟨rfl, hbl, hb⟩
 have HB0 := hide hb
 have HLn := hide hbl
 obtain ⟨gl, hgl⟩ : ∃ gl, gl = X.heap.size := ⟨_, rfl⟩
 rw [← hgl] at HLn ⊢
 obtain ⟨B, hB⟩ : ∃ B, B = W.heap.size := ⟨_, rfl⟩
 have hglB : gl < B := by rw [hB]; exact HLn.out.lt
 have hgg : g < gl := by rw [hgl]; exact HG.out.lt
 have hgB : g < B := by rw [hB, hg]; have := HX.out.size; have := HB0.out.size; have h3 := HG.out.lt; omega
 have HC0 := hide (show CutAt W B g [] (.slice none 0 0) 1 none 0 [] from
  ⟨HG.out.below HB0.out, World.ownsRow_nil _ _ _ _, World.ownsRow_nil _ _ _ _, fun p hp => (by cases hp), hgB, by rw [hB]; exact Nat.le_refl _⟩)
 have HK0 := hide (show Only NoBlk w W from HX.out.trans (Only.of_below HB0.out _))
 have hwg : w.heap.size ≤ g := by rw [hg]; exact Nat.le_refl _
 have hwB : w.heap.size ≤ B := by rw [hB]; exact HK0.out.size
 have HCsz := hide (show B ≤ W.heap.size by rw [hB]; exact Nat.le_refl _)
 clear hbl hb hg hB HX HG HLX HB0 HL HLs hgl
 have HLc := hide (fun (q : Nat) (hq : q < ls.length) => show W.cell? ⟨gl, q, none⟩ = some (.string (bs (ls.getD q []))) by rw [HLn.out.cell, List.getElem?_toArray, flat_ln_cells ls q hq])
 clear HLn
 have HHd := hide (fun (x : List UInt8) (X : World) (h : x.length ≤ 40000) => heads_c (bs x) X (by show x.length ≤ _; omega))
 have HSz := hide (show ∀ q, (ls.getD q []).length ≤ 40000 from HSz0.out)
 clear HSz0
 rw [← hn] at hln HLc HSt ⊢
 have Hn := hide hn
 clear hn
 go_wp2_with fail
 go_loopw [3, 5, 6, 11] (fun v _ _ i wr => ∃ (k : Nat) (out : List PartV) (ln : Nat) (uA : Option Addr) (uc : Nat) (cur : List (List UInt8)), k ≤ n ∧ i = .int .i64 k ∧ Hid (CutAt wr B g out v ln uA uc cur) ∧ Hid (P = out.map (·.m) ++ cutGo (ls.drop k) k ⟨ln, cur⟩) ∧ Hid (out.length ≤ k ∧ cur.length ≤ k ∧ ln ≤ k + 1 ∧ v.ownBlock ≠ some g ∧ ∀ p ∈ out, p.l.length ≤ 40001 ∧ p.l.length ≤ p.c) ∧ Hid (Only (fun j => j = g ∨ B ≤ j) W wr)) (fun _ _ _ i _ => n - (intOf i).toNat)
 case atStart => exact ⟨0, [], 1, none, 0, [], Nat.zero_le _, rfl, HC0, HP0, hide ⟨Nat.le_refl _, Nat.le_refl _, Nat.le_refl _, (by intro h; cases h), fun p hp => (by cases hp)⟩, hide (Only.refl _ _)⟩
 case round =>
  clear HC0 HP0
  obtain ⟨k, out, ln, uA, uc, cur, hk, rfl, HC, HP, HQ, HK⟩ := hrel
  obtain ⟨VA, vc, rfl, hvc⟩ := own_cap HC.out.own
  have w1 : IntKind.i64.wrap ((k : Int) + 1) = (k : Int) + 1 := IntWalk.i64_in _ (by omega)
  by_cases hlt : k < n
  case pos =>
   have d1 : decide ((k : Int) < (n : Int)) = true := by simp; exact hlt
   have d2 : decide (k < n) = true := by simp; exact hlt
   have j1 : (0 : Int) ≤ (k : Int) := by omega
   have j2 : (k : Int) < (n : Int) := by omega
   have hgl : gl < W.heap.size := by have := HCsz.out; omega
   have gL : wr.cell? ⟨gl, k, none⟩ = some (.string (bs (ls.getD k []))) := okeep HK.out (fun h => by
    rcases h with h | h
    ·have h' : gl = g := h; omega
    ·have h' : B ≤ gl := h; omega) (HLc.out k hlt)
   have HS := hide (HSt.out k hlt ⟨ln, cur⟩)
   have HZ := hide (HSz.out k)
   obtain ⟨x, hx⟩ : ∃ x, x = ls.getD k [] := ⟨_, rfl⟩
   rw [← hx] at gL HS HZ
   have Hx := hide hx
   clear hx hlt hgl
   have hcall := HHd.out x wr HZ.out
   cases hh : headB x with
   | true =>
    rw [hh] at hcall
    have HCa := hide hcall
    have HS2 := hide (HS.out.trans (if_pos hh))
    clear hcall hh HS
    obtain ⟨g0, g1⟩ := HC.out.blk.two
    have f0 := HC.out.blk.frozen 0
    have f1 := HC.out.blk.frozen 1
    go_upto_region 7 with (go_at_call 81; refine HCa.out.mono ?_; rintro e w2 ⟨rfl, hw2⟩; obtain rfl := hw2.symm)
    clear HCa
    have hX := hide (show Rd (wr.alloc (.cells #[.int .i64 (ln : Nat), .slice uA cur.length uc] 100)) NoBlk (some ⟨wr.heap.size, 0, none⟩) [.int .i64 (ln : Nat), .slice uA cur.length uc] from rd_blkN (Blk.new _ _ _) (fun h => h))
    have HCx := hide (HC.out.same ((Only.refl _ wr).alloc (.cells #[.int .i64 (ln : Nat), .slice uA cur.length uc] 100)))
    have hsz : out.length ≤ 40001 := by have := HQ.out.1; omega
    go_upto_region 8 with (at_builtin; refine wpList_append_rd _ rfl (.tmp 18) (.tmp 20) _ rfl B 100 i0 (.agg #[.int .i64 0, .slice none 0 0]) 2 32 Tryz.underlying97 hi hz0 hz1 hz2 rfl (by omega) _ out.length (flat encPart out) rfl HCx.out.own NoBlk (some ⟨wr.heap.size, 0, none⟩) 1 1 [.int .i64 (ln : Nat), .slice uA cur.length uc] rfl hX.out rfl (by intro u hu; simp at hu; rcases hu with rfl | rfl <;> rfl) (by simp only [maxLen]; omega) (by omega) HCx.out.sz ?_; intro v5 w5 hown5 hgr5 hv5; have Own5 := hide hown5; have Gr5 := hide hgr5; have Hv5 := hide hv5; clear hown5 hgr5 hv5)
    have HB5 := hide (show Blk w5 g 100 #[.int .i64 (ln : Nat), .slice uA cur.length uc] from HCx.out.blk.only ((Only.refl (fun j => (Value.slice VA out.length vc).ownBlock = some j) _).grown Gr5.out (fun j hj => Or.inl hj)) HQ.out.2.2.2.1)
    have h0 := HB5.out.frozen 0
    have h1 := HB5.out.frozen 1
    obtain ⟨c0, c1⟩ := HB5.out.two
    have HPu := hide (HCx.out.push (i := k + 1) Own5.out Gr5.out Hv5.out HQ.out.2.2.2.1)
    have HK5 := hide (HK.out.alloc (.cells #[.int .i64 (ln : Nat), .slice uA cur.length uc] 100))
    clear g0 g1 f0 f1
    go_upto_region 9 with fail
    rw [show ((k : Int) + 1) = ((k + 1 : Nat) : Int) by omega]
    generalize hXX : World.setCell (World.setCell _ _ _) _ _ = XX
    rw [hXX] at HPu
    have HC2 := hide HPu.out.1
    have HK2 := hide (HK5.out.fresh HPu.out.2 (fun j _ h => Or.inl h))
    obtain ⟨VA5, vc5, hv5, hvc5⟩ := own_cap HC2.out.own
    have HP2 := hide (show P = (out ++ [(⟨ln, uA, uc, cur⟩ : PartV)]).map (·.m) ++ cutGo (ls.drop (k + 1)) (k + 1) ⟨k + 1, [] ++ [x]⟩ by rw [HP.out, HS2.out]; simp [PartV.m])
    have HQ2 := hide (show (out ++ [(⟨ln, uA, uc, cur⟩ : PartV)]).length ≤ k + 1 ∧ ([] : List (List UInt8)).length ≤ k ∧ k + 1 ≤ k + 1 + 1 ∧ v5.ownBlock ≠ some g ∧ ∀ p ∈ out ++ [(⟨ln, uA, uc, cur⟩ : PartV)], p.l.length ≤ 40001 ∧ p.l.length ≤ p.c from ⟨by simp; exact HQ.out.1, Nat.zero_le _, by omega, (by
     rcases Hv5.out with e | e
     ·rw [e]; exact HQ.out.2.2.2.1
     ·rw [e]; intro hx; injection hx with hx; have := HCx.out.lt; have := HCx.out.sz; omega), fun p hp => (by
      rcases List.mem_append.1 hp with hp | hp
      ·exact HQ.out.2.2.2.2 p hp
      ·rw [List.mem_singleton] at hp; subst hp; exact ⟨by have := HQ.out.2.1; show cur.length ≤ _; omega, own_le HC.out.row⟩)⟩)
    clear hXX HPu HK5 HB5 h0 h1 c0 c1 Own5 Gr5 Hv5 HCx hX HP HQ HS2 HC HK hsz hvc hv5
    obtain ⟨g0, g1⟩ := HC2.out.blk.two
    have f0 := HC2.out.blk.frozen 0
    have f1 := HC2.out.blk.frozen 1
    have hXr := hide (show Rd (XX.alloc (.cells #[.string (bs x)] 9)) NoBlk (some ⟨XX.heap.size, 0, none⟩) [.string (bs x)] from rd_blkN (Blk.new _ _ _) (fun h => h))
    have HCx := hide (HC2.out.same ((Only.refl _ XX).alloc (.cells #[.string (bs x)] 9)))
    have hsz2 : 0 ≤ 40001 := by have := HQ2.out.2.1; omega
    go_wp2_with (at_builtin; refine wpList_append_rd _ rfl (.tmp 26) (.tmp 28) _ rfl B 9 i1 (.string ⟨#[]⟩) 1 16 Tryz.underlying35 hi1 hz10 hz11 hz12 rfl (by omega) _ 0 (flat encLn ([] : List (List UInt8))) rfl HCx.out.row NoBlk (some ⟨XX.heap.size, 0, none⟩) 1 1 [.string (bs x)] rfl hXr.out rfl (by intro u hu; simp at hu; subst hu; rfl) (by simp only [maxLen]; omega) (by omega) HCx.out.sz ?_; intro v6 w6 hown6 hgr6 hv6; obtain ⟨UA, ucc, rfl, hucc⟩ := own_cap hown6; have Own6 := hide hown6; have Gr6 := hide hgr6; have Hv6 := hide hv6; have h1 : w6.frozen? ⟨g, 1, none⟩ = false := (HCx.out.blk.grown HCx.out.row (by decide) hgr6).frozen 1; have h2 := (HCx.out.blk.grown HCx.out.row (by decide) hgr6).two.2; clear hown6 hgr6 hv6)
    have HAd := hide (HCx.out.add Own6.out Gr6.out Hv6.out)
    have HC3 := hide HAd.out.1
    have HK3 := hide ((HK2.out.alloc (.cells #[.string (bs x)] 9)).fresh HAd.out.2 (fun j _ h => Or.inl h))
    have HQ3 := hide (show (out ++ [(⟨ln, uA, uc, cur⟩ : PartV)]).length ≤ k + 1 ∧ (([] : List (List UInt8)) ++ [x]).length ≤ k + 1 ∧ (k + 1) ≤ k + 1 + 1 ∧ v5.ownBlock ≠ some g ∧ ∀ p ∈ (out ++ [(⟨ln, uA, uc, cur⟩ : PartV)]), p.l.length ≤ 40001 ∧ p.l.length ≤ p.c from ⟨HQ2.out.1, by have := HQ2.out.2.1; rw [List.length_append]; exact Nat.add_le_add_right this 1, HQ2.out.2.2.1, HQ2.out.2.2.2⟩)
    clear HAd HCx hXr HC2 HK2 HQ2 g0 g1 f0 f1 h1 Own6 Gr6 Hv6 hsz2 h2
    go_roundw
    case rel => exact ⟨k + 1, (out ++ [(⟨ln, uA, uc, cur⟩ : PartV)]), (k + 1), UA, ucc, ([] : List (List UInt8)) ++ [x], by omega, by go_num, HC3, HP2, HQ3, HK3⟩
    case measure => simp [intOf]; omega
   | false =>
    rw [hh] at hcall
    have HCa := hide hcall
    have HS2 := hide (HS.out.trans (if_neg (by rw [hh]; decide)))
    clear hcall hh HS
    have HC2 := hide HC.out
    have HK2 := hide HK.out
    have HP2 := hide (show P = out.map (·.m) ++ cutGo (ls.drop (k + 1)) (k + 1) ⟨ln, cur ++ [x]⟩ by rw [HP.out, HS2.out])
    have HQ2 := hide (show out.length ≤ k + 1 ∧ cur.length ≤ k ∧ ln ≤ k + 1 + 1 ∧ (Value.slice VA out.length vc).ownBlock ≠ some g ∧ ∀ p ∈ out, p.l.length ≤ 40001 ∧ p.l.length ≤ p.c from ⟨by have := HQ.out.1; omega, HQ.out.2.1, by have := HQ.out.2.2.1; omega, HQ.out.2.2.2.1, HQ.out.2.2.2.2⟩)
    clear HP HQ HS2 HC HK
    go_upto_region 9 with (go_at_call 81; refine HCa.out.mono ?_; rintro e w2 ⟨rfl, hw2⟩; obtain rfl := hw2.symm)
    obtain ⟨g0, g1⟩ := HC2.out.blk.two
    have f0 := HC2.out.blk.frozen 0
    have f1 := HC2.out.blk.frozen 1
    have hXr := hide (show Rd (wr.alloc (.cells #[.string (bs x)] 9)) NoBlk (some ⟨wr.heap.size, 0, none⟩) [.string (bs x)] from rd_blkN (Blk.new _ _ _) (fun h => h))
    have HCx := hide (HC2.out.same ((Only.refl _ wr).alloc (.cells #[.string (bs x)] 9)))
    have hsz2 : cur.length ≤ 40001 := by have := HQ2.out.2.1; omega
    go_wp2_with (at_builtin; refine wpList_append_rd _ rfl (.tmp 26) (.tmp 28) _ rfl B 9 i1 (.string ⟨#[]⟩) 1 16 Tryz.underlying35 hi1 hz10 hz11 hz12 rfl (by omega) _ cur.length (flat encLn cur) rfl HCx.out.row NoBlk (some ⟨wr.heap.size, 0, none⟩) 1 1 [.string (bs x)] rfl hXr.out rfl (by intro u hu; simp at hu; subst hu; rfl) (by simp only [maxLen]; omega) (by omega) HCx.out.sz ?_; intro v6 w6 hown6 hgr6 hv6; obtain ⟨UA, ucc, rfl, hucc⟩ := own_cap hown6; have Own6 := hide hown6; have Gr6 := hide hgr6; have Hv6 := hide hv6; have h1 : w6.frozen? ⟨g, 1, none⟩ = false := (HCx.out.blk.grown HCx.out.row (by decide) hgr6).frozen 1; have h2 := (HCx.out.blk.grown HCx.out.row (by decide) hgr6).two.2; clear hown6 hgr6 hv6)
    have HAd := hide (HCx.out.add Own6.out Gr6.out Hv6.out)
    have HC3 := hide HAd.out.1
    have HK3 := hide ((HK2.out.alloc (.cells #[.string (bs x)] 9)).fresh HAd.out.2 (fun j _ h => Or.inl h))
    have HQ3 := hide (show out.length ≤ k + 1 ∧ (cur ++ [x]).length ≤ k + 1 ∧ ln ≤ k + 1 + 1 ∧ (Value.slice VA out.length vc).ownBlock ≠ some g ∧ ∀ p ∈ out, p.l.length ≤ 40001 ∧ p.l.length ≤ p.c from ⟨HQ2.out.1, by have := HQ2.out.2.1; rw [List.length_append]; exact Nat.add_le_add_right this 1, HQ2.out.2.2.1, HQ2.out.2.2.2⟩)
    clear HAd HCx hXr HC2 HK2 HQ2 g0 g1 f0 f1 h1 Own6 Gr6 Hv6 hsz2 h2
    go_roundw
    case rel => exact ⟨k + 1, out, ln, UA, ucc, cur ++ [x], by omega, by go_num, HC3, HP2, HQ3, HK3⟩
    case measure => simp [intOf]; omega
  case neg =>
   obtain rfl : k = n := by omega
   have d1 : decide ((k : Int) < (k : Int)) = false := by simp
   have d2 : decide (k < k) = false := by simp
   have HPE := hide (show P = (out ++ [(⟨ln, uA, uc, cur⟩ : PartV)]).map (·.m) by
    rw [HP.out, Hn.out, List.drop_length]
    simp [cutGo, PartV.m])
   obtain ⟨g0, g1⟩ := HC.out.blk.two
   have hX := hide (show Rd (wr.alloc (.cells #[.int .i64 (ln : Nat), .slice uA cur.length uc] 100)) NoBlk (some ⟨wr.heap.size, 0, none⟩) [.int .i64 (ln : Nat), .slice uA cur.length uc] from rd_blkN (Blk.new _ _ _) (fun h => h))
   have HCx := hide (HC.out.same ((Only.refl _ wr).alloc (.cells #[.int .i64 (ln : Nat), .slice uA cur.length uc] 100)))
   have hsz : out.length ≤ 40001 := by have := HQ.out.1; omega
   go_upto_region 12 with (at_builtin; refine wpList_append_rd _ rfl (.tmp 32) (.tmp 34) _ rfl B 100 i0 (.agg #[.int .i64 0, .slice none 0 0]) 2 32 Tryz.underlying97 hi hz0 hz1 hz2 rfl (by omega) _ out.length (flat encPart out) rfl HCx.out.own NoBlk (some ⟨wr.heap.size, 0, none⟩) 1 1 [.int .i64 (ln : Nat), .slice uA cur.length uc] rfl hX.out rfl (by intro u hu; simp at hu; rcases hu with rfl | rfl <;> rfl) (by simp only [maxLen]; omega) (by omega) HCx.out.sz ?_; intro v5 w5 hown5 hgr5 hv5; have Own5 := hide hown5; have Gr5 := hide hgr5; have Hv5 := hide hv5; clear hown5 hgr5 hv5)
   have HEn := hide (HCx.out.done Own5.out Gr5.out Hv5.out)
   have HKE := hide ((HK.out.alloc (.cells #[.int .i64 (ln : Nat), .slice uA cur.length uc] 100)).fresh HEn.out.2.2 (fun j _ h => Or.inl h))
   obtain ⟨V, hV⟩ : ∃ V, V = out ++ [(⟨ln, uA, uc, cur⟩ : PartV)] := ⟨_, rfl⟩
   have hVn : V ≠ [] := by rw [hV]; simp
   have hVs : V.length ≤ 40002 := by rw [hV]; simp; omega
   have HVl := hide (show ∀ p ∈ V, p.l.length ≤ 40001 ∧ p.l.length ≤ p.c from fun p hp => (by
    rw [hV] at hp
    rcases List.mem_append.1 hp with hp | hp
    ·exact HQ.out.2.2.2.2 p hp
    ·rw [List.mem_singleton] at hp; subst hp; exact ⟨by have := HQ.out.2.1; show cur.length ≤ _; omega, own_le HC.out.row⟩))
   rw [← hV] at HPE HEn
   have HOk := hide (show Only NoBlk w w5 from HK0.out.fresh HKE.out (fun j _ h => Or.inr (by
    rcases h with h | h
    ·have h' : j = g := h; omega
    ·have h' : B ≤ j := h; omega)))
   obtain ⟨VA5, vc5, hv5, hvc5⟩ := own_cap HEn.out.1
   subst hv5
   have HR := hide (show Rd w5 (· < w.heap.size) VA5 (flat encPart V) from Rd.of_own HEn.out.1 (fun j hj => Nat.lt_of_lt_of_le hj hwB))
   have HI := hide (show ∀ p ∈ V, Rd w5 (· < w.heap.size) p.A (flat encLn p.l) ∧ p.l.length ≤ p.c from fun p hp => ⟨(HEn.out.2.1 p hp).mono (fun b hb => Nat.lt_of_lt_of_le hb hwB), (HVl.out p hp).2⟩)
   clear hV HEn HKE hX HCx HC HK HP HQ Own5 Gr5 Hv5 hsz g0 g1 HK0 HCsz
   obtain ⟨q, r, rfl⟩ : ∃ q r, V = q :: r := by cases V with
    | nil => exact absurd rfl hVn
    | cons q r => exact ⟨q, r, rfl⟩
   obtain ⟨b, o, rfl, _, hb, hc⟩ := HR.out.at_ (j := 0) (by simp [flat, encPart])
   have g0 : w5.cell? ⟨b, o, none⟩ = some (.int .i64 (q.line : Nat)) := hc 0 (by simp [flat, encPart])
   have g1 : w5.cell? ⟨b, o + 1, none⟩ = some (.slice q.A q.l.length q.c) := hc 1 (by simp [flat, encPart])
   have HCn := hide (Contains_c q.A q.c q.l w5 ((HI.out q (List.mem_cons_self ..)).1.mono (fun _ h => h.elim)) (by have := (HVl.out q (List.mem_cons_self ..)).1; simp only [maxLen]; omega))
   have HP2 := hide (show dropP P = dropP (q.m :: r.map (·.m)) by rw [HPE.out]; rfl)
   have HTl := hide (rd_tail (xs := encPart q) (ys := flat encPart r) HR.out)
   have hl : (q :: r).length = r.length + 1 := rfl
   rw [hl] at hvc5 hVs ⊢
   clear hc HPE HVl hVn hl
   cases hs : saysL q.l with
   | true =>
    rw [hs] at HCn
    have HPq := hide (show dropP P = (q :: r).map (·.m) by rw [HP2.out]; exact drop_pos hs _)
    clear hs HP2
    go_wp2_with (go_at_call 82; refine HCn.out.mono ?_; rintro e w2 ⟨rfl, hw2⟩; obtain rfl := hw2.symm)
    go_ret
    exact ⟨⟨_, _, q :: r, rfl, by rw [HPq.out], HR.out, HI.out⟩, HOk.out⟩
   | false =>
    rw [hs] at HCn
    have HPq := hide (show dropP P = r.map (·.m) by rw [HP2.out]; exact drop_neg (by show ¬ saysL q.l = true; rw [hs]; decide) _)
    clear hs HP2
    have j1 : (1 : Int) ≤ ((r.length + 1 : Nat) : Int) := by omega
    have j2 : ((r.length + 1 : Nat) : Int) ≤ (vc5 : Int) := by omega
    by_cases hc1 : vc5 = 1
    case pos =>
     subst hc1
     obtain rfl : r = [] := by cases r with
      | nil => rfl
      | cons a t => simp at hvc5
     go_wp2_with (go_at_call 82; refine HCn.out.mono ?_; rintro e w2 ⟨rfl, hw2⟩; obtain rfl := hw2.symm)
     go_ret
     exact ⟨⟨_, _, [], rfl, by rw [HPq.out], Or.inl rfl, fun p hp => (by cases hp)⟩, HOk.out⟩
    case neg =>
     have d1 : decide (vc5 = 1) = false := by simp [hc1]
     have d2 : (vc5 == 1) = false := by simp [hc1]
     go_wp2_with (go_at_call 82; refine HCn.out.mono ?_; rintro e w2 ⟨rfl, hw2⟩; obtain rfl := hw2.symm)
     go_ret
     exact ⟨⟨some ⟨b, o + 2, none⟩, vc5 - 1, r, by simp, by rw [HPq.out], HTl.out, fun p hp => HI.out p (List.mem_cons_of_mem _ hp)⟩, HOk.out⟩
end Go.Proofs.YtaioaojfdngfdaaGreatDoor
