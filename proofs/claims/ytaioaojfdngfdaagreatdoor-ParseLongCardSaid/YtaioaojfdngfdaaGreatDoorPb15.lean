/- Parts of a chain of lemmas: Lex1, Add. Conditions: those of each theorem. -/
import Derived.Test.YtaioaojfdngfdaaGreatDoorPb02
import Derived.Test.YtaioaojfdngfdaaGreatDoorPb14
import Derived.Test.YtaioaojfdngfdaaGreatDoorPb03
namespace Go.Proofs.YtaioaojfdngfdaaGreatDoor
open Go.RowKit
set_option linter.unusedVariables false
set_option linter.unusedSimpArgs false

theorem plainB_nat (b : UInt8) (n : Nat) (h : n = b.toNat) : plainB b = (decide (33 ≤ n) && (decide (n ≤ 126) && (decide (n ≠ 34) && decide (n ≠ 92)))) := by
 have i34 : b = 34 ↔ n = 34 := by rw [h, ← UInt8.toNat_inj]; rfl
 have i92 : b = 92 ↔ n = 92 := by rw [h, ← UInt8.toNat_inj]; rfl
 unfold plainB
 rw [← h]
 simp only [ne_eq, i34, i92]
set_option maxHeartbeats 3200000 in
theorem plain_c (b : UInt8) (m : Int) (hm : m = b.toNat) (w : World) : Calls Tryz.prog 109 #[.int .u8 m] w fun e w' => e = .returned (.bool (plainB b)) ∧ w' = w := by
 subst hm
 obtain ⟨n, hn⟩ : ∃ n, n = b.toNat := ⟨_, rfl⟩
 have HP := hide (plainB_nat b n hn)
 rw [← hn]
 obtain ⟨p, hp⟩ : ∃ p, p = plainB b := ⟨_, rfl⟩
 rw [← hp] at HP ⊢
 clear hn hp
 by_cases h1 : 33 ≤ n
 case neg =>
  have HE := hide (show p = false by rw [HP.out, decide_eq_false h1]; rfl)
  have d1 : decide ((33 : Int) ≤ (n : Int)) = false := by simp; omega
  clear h1
  go_enter Tryz.func109, Tryz.ntmps109
  go_wp2_with fail
  go_ret
  exact ⟨by rw [HE.out]; rfl, rfl⟩
 case pos =>
  have d1 : decide ((33 : Int) ≤ (n : Int)) = true := by simp; omega
  by_cases h2 : n ≤ 126
  case neg =>
   have HE := hide (show p = false by rw [HP.out, decide_eq_false h2]; simp)
   have d2 : decide ((n : Int) ≤ 126) = false := by simp; omega
   clear h1 h2
   go_enter Tryz.func109, Tryz.ntmps109
   go_wp2_with fail
   go_ret
   exact ⟨by rw [HE.out]; rfl, rfl⟩
  case pos =>
   have d2 : decide ((n : Int) ≤ 126) = true := by simp; omega
   by_cases h3 : n = 34
   case pos =>
    have HE := hide (show p = false by rw [HP.out, h3]; rfl)
    have d3 : ((n : Int) != 34) = false := by simp; omega
    clear h1 h2 h3
    go_enter Tryz.func109, Tryz.ntmps109
    go_wp2_with fail
    go_ret
    exact ⟨by rw [HE.out]; rfl, rfl⟩
   case neg =>
    have d3 : ((n : Int) != 34) = true := by simp; omega
    by_cases h4 : n = 92
    case pos =>
     have HE := hide (show p = false by rw [HP.out, h4]; rfl)
     have d4 : ((n : Int) != 92) = false := by simp; omega
     clear h1 h2 h3 h4
     go_enter Tryz.func109, Tryz.ntmps109
     go_wp2_with fail
     go_ret
     exact ⟨by rw [HE.out]; rfl, rfl⟩
    case neg =>
     have d4 : ((n : Int) != 92) = true := by simp; omega
     have HE := hide (show p = true by rw [HP.out]; simp [h1, h2, h3, h4])
     clear h1 h2 h3 h4
     go_enter Tryz.func109, Tryz.ntmps109
     go_wp2_with fail
     go_ret
     exact ⟨by rw [HE.out]; rfl, rfl⟩
set_option maxHeartbeats 1600000 in
theorem lexStop_q (s : ByteArray) (i : Nat) (w : World) (hi : i ≤ s.size) : Calls Tryz.prog 70 #[.string s, .int .i64 i] w fun e w' => e = .returned (.tuple #[.slice none 0 0, .int .i64 i, .int .i64 (if i = s.size then 3 else 2 : Nat)]) ∧ w' = w := by
 by_cases h : i = s.size
 ·have d1 : decide ((s.size : Int) ≤ (i : Int)) = true := by simp; omega
  have d2 : decide ((i : Int) ≥ (s.size : Int)) = true := by simp; omega
  have d3 : decide (s.size ≤ i) = true := by simp; omega
  have H := hide h
  rw [if_pos h]
  clear h hi
  go_enter Tryz.func70, Tryz.ntmps70
  go_wp2_with fail
  refine bodyPost_ret (v := .tuple #[.slice none 0 0, .int .i64 s.size, .int .i64 3]) (by simp [results, Tryz.results70, go_sem]) rfl ?_
  exact ⟨by rw [← H.out]; rfl, rfl⟩
 ·have d1 : decide ((s.size : Int) ≤ (i : Int)) = false := by simp; omega
  have d2 : decide ((i : Int) ≥ (s.size : Int)) = false := by simp; omega
  have d3 : decide (s.size ≤ i) = false := by simp; omega
  rw [if_neg h]
  clear h hi
  go_enter Tryz.func70, Tryz.ntmps70
  go_wp2_with fail
  refine bodyPost_ret (v := .tuple #[.slice none 0 0, .int .i64 i, .int .i64 2]) (by simp [results, Tryz.results70, go_sem]) rfl ?_
  exact ⟨rfl, rfl⟩
set_option maxRecDepth 100000 in
set_option maxHeartbeats 3200000 in
theorem lexBare_c (s : ByteArray) (w : World) (hs : s.size ≤ 1000000000) : Calls Tryz.prog 69 #[.string s] w fun e w' => e = .returned (.int .i64 (bareN s.data.toList)) ∧ w' = w := by
 obtain ⟨L, hL⟩ : ∃ L, L = s.data.toList := ⟨_, rfl⟩
 have hLn : L.length = s.size := by rw [hL]; simp
 have HAt := hide (show ∀ k (h : k < s.size), s[k]'h = atB L k from fun k h => by rw [hL]; exact byte_at s k h)
 have HPl := hide (fun (b : UInt8) (m : Int) (hm : m = b.toNat) (w' : World) => plain_c b m hm w')
 rw [← hL]
 have HE := hide (show ∀ k, k ≤ s.size → (∀ j, j < k → plainB (atB L j) = true) → (k < s.size → plainB (atB L k) = false) → bareN L = k from fun k h1 h2 h3 => bareN_at L k (by omega) h2 (by rw [hLn]; exact h3))
 clear hL hLn
 go_enter Tryz.func69, Tryz.ntmps69
 go_wp2_with fail
 go_loopw [3] (fun i wr => ∃ k : Nat, k ≤ s.size ∧ i = .int .i64 k ∧ Hid (∀ j, j < k → plainB (atB L j) = true) ∧ Hid (wr = w)) (fun i _ => s.size - (intOf i).toNat)
 case atStart => exact ⟨0, Nat.zero_le _, rfl, hide (fun j hj => absurd hj (by omega)), hide rfl⟩
 case round =>
  obtain ⟨k, hk, rfl, hall, hw⟩ := hrel
  rw [hw.out]
  clear hw
  have w1 : IntKind.i64.wrap ((k : Int) + 1) = (k : Int) + 1 := IntWalk.i64_in _ (by omega)
  by_cases hlt : k < s.size
  case neg =>
   have e1 : decide ((k : Int) < (s.size : Int)) = false := by simp; omega
   have e2 : decide (k < s.size) = false := by simp; omega
   have HEk := hide (HE.out k hk hall.out (fun h => absurd h hlt))
   go_wp2_with fail
   go_ret
   exact ⟨by rw [HEk.out]; rfl, rfl⟩
  case pos =>
   have e1 : decide ((k : Int) < (s.size : Int)) = true := by simp; omega
   have e2 : decide (k < s.size) = true := by simp; omega
   have j1 : (0 : Int) ≤ (k : Int) := by omega
   have j2 : (k : Int) < (s.size : Int) := by omega
   have HA := hide (HAt.out k hlt)
   have HPk := hide (HPl.out (atB L k) ((s[k]'hlt).toNat : Int) (by rw [HA.out]) w)
   cases hp : plainB (atB L k) with
   | false =>
    rw [hp] at HPk
    have HEk := hide (HE.out k hk hall.out (fun _ => hp))
    clear hp
    go_wp2_with (go_at_call 109; refine HPk.out.mono ?_; rintro e wq ⟨rfl, hwq⟩; rw [hwq]; clear hwq)
    go_ret
    exact ⟨by rw [HEk.out]; rfl, rfl⟩
   | true =>
    rw [hp] at HPk
    have HN := hide (show ∀ j, j < k + 1 → plainB (atB L j) = true from fun j hj => by
     by_cases e : j = k
     ·subst e; exact hp
     ·exact hall.out j (by omega))
    clear hp
    go_wp2_with (go_at_call 109; refine HPk.out.mono ?_; rintro e wq ⟨rfl, hwq⟩; rw [hwq]; clear hwq)
    go_roundw
    case rel => exact ⟨k + 1, by omega, by go_num, HN, hide (by first | rfl | trivial)⟩
    case measure => simp [intOf]; omega
end Go.Proofs.YtaioaojfdngfdaaGreatDoor
namespace Go.Proofs.YtaioaojfdngfdaaGreatDoor
open Go.RowKit
set_option linter.unusedVariables false

theorem own_only {S : Nat → Prop} {w w' : World} {base size n : Nat} {e : TypeId} {v : Value} {xs : List Value} (h : w.ownsRow base e size v n xs) (k : Only S w w') (hS : ∀ g cs, S g → ¬ Blk w g e cs) : w'.ownsRow base e size v n xs := by
 obtain ⟨hl, h2⟩ := h
 refine ⟨hl, ?_⟩
 rcases h2 with ⟨hv, hn⟩ | ⟨g, cap, cur, hv, hb, hh, r⟩
 ·exact Or.inl ⟨hv, hn⟩
 ·refine Or.inr ⟨g, cap, cur, hv, hb, ?_, r⟩
  have hlt : g < w.heap.size := Blk.lt (t := e) (cs := cur) hh
  rw [k.block g hlt (fun hs => hS g cur hs hh)]
  exact hh
theorem Blk.nine {w : World} {g : Nat} {t : TypeId} {a b c d e f h i j : Value} (hb : Blk w g t #[a, b, c, d, e, f, h, i, j]) :
 (w.cell? ⟨g, 0, none⟩ = some a ∧ w.cell? ⟨g, 1, none⟩ = some b ∧ w.cell? ⟨g, 2, none⟩ = some c ∧ w.cell? ⟨g, 3, none⟩ = some d ∧ w.cell? ⟨g, 4, none⟩ = some e ∧ w.cell? ⟨g, 5, none⟩ = some f ∧ w.cell? ⟨g, 6, none⟩ = some h ∧ w.cell? ⟨g, 7, none⟩ = some i ∧ w.cell? ⟨g, 8, none⟩ = some j) ∧
 (w.frozen? ⟨g, 0, none⟩ = false ∧ w.frozen? ⟨g, 1, none⟩ = false ∧ w.frozen? ⟨g, 2, none⟩ = false ∧ w.frozen? ⟨g, 3, none⟩ = false ∧ w.frozen? ⟨g, 4, none⟩ = false ∧ w.frozen? ⟨g, 5, none⟩ = false ∧ w.frozen? ⟨g, 6, none⟩ = false ∧ w.frozen? ⟨g, 7, none⟩ = false ∧ w.frozen? ⟨g, 8, none⟩ = false) :=
 ⟨⟨by rw [hb.cell]; rfl, by rw [hb.cell]; rfl, by rw [hb.cell]; rfl, by rw [hb.cell]; rfl, by rw [hb.cell]; rfl, by rw [hb.cell]; rfl, by rw [hb.cell]; rfl, by rw [hb.cell]; rfl, by rw [hb.cell]; rfl⟩,
  hb.frozen 0, hb.frozen 1, hb.frozen 2, hb.frozen 3, hb.frozen 4, hb.frozen 5, hb.frozen 6, hb.frozen 7, hb.frozen 8⟩
theorem Blk.fourF {w : World} {g : Nat} {t : TypeId} {a b c d : Value} (hb : Blk w g t #[a, b, c, d]) :
 (w.cell? ⟨g, 0, none⟩ = some a ∧ w.cell? ⟨g, 1, none⟩ = some b ∧ w.cell? ⟨g, 2, none⟩ = some c ∧ w.cell? ⟨g, 3, none⟩ = some d) ∧ (w.frozen? ⟨g, 0, none⟩ = false ∧ w.frozen? ⟨g, 1, none⟩ = false ∧ w.frozen? ⟨g, 2, none⟩ = false ∧ w.frozen? ⟨g, 3, none⟩ = false) :=
 ⟨⟨by rw [hb.cell]; rfl, by rw [hb.cell]; rfl, by rw [hb.cell]; rfl, by rw [hb.cell]; rfl⟩, hb.frozen 0, hb.frozen 1, hb.frozen 2, hb.frozen 3⟩
theorem Blk.twelve {w : World} {g : Nat} {t : TypeId} {a b c d e f h i j k l m : Value} (hb : Blk w g t #[a, b, c, d, e, f, h, i, j, k, l, m]) :
 w.cell? ⟨g, 0, none⟩ = some a ∧ w.cell? ⟨g, 1, none⟩ = some b ∧ w.cell? ⟨g, 2, none⟩ = some c ∧ w.cell? ⟨g, 3, none⟩ = some d ∧ w.cell? ⟨g, 4, none⟩ = some e ∧ w.cell? ⟨g, 5, none⟩ = some f ∧ w.cell? ⟨g, 6, none⟩ = some h ∧ w.cell? ⟨g, 7, none⟩ = some i ∧ w.cell? ⟨g, 8, none⟩ = some j ∧ w.cell? ⟨g, 9, none⟩ = some k ∧ w.cell? ⟨g, 10, none⟩ = some l ∧ w.cell? ⟨g, 11, none⟩ = some m :=
 ⟨by rw [hb.cell]; rfl, by rw [hb.cell]; rfl, by rw [hb.cell]; rfl, by rw [hb.cell]; rfl, by rw [hb.cell]; rfl, by rw [hb.cell]; rfl, by rw [hb.cell]; rfl, by rw [hb.cell]; rfl, by rw [hb.cell]; rfl, by rw [hb.cell]; rfl, by rw [hb.cell]; rfl, by rw [hb.cell]; rfl⟩
section
variable {w w' : World} {base F Wn : Nat} {id : Int} {f f' : LifeM}
end
abbrev outV (n : Int) (s : ByteArray) (t : Stp) (d : Bool) : List Value := [.int .i64 n, .string s, .int .i64 t.tick, .int .i64 t.at_, .int .i64 t.what, .int .i64 t.arm, .int .i64 t.n, .int .i64 t.status, .bool d]
abbrev st0 : Stp := ⟨0, 0, 0, 0, 0, 0⟩
theorem Blk.grown {w w1 : World} {g base size n : Nat} {t e : TypeId} {cs : Array Value} {v : Value} {xs : List Value} (h : Blk w g t cs) (hown : w.ownsRow base e size v n xs) (hne : t ≠ e) (hg : w.grownBy w1 v.ownBlock) : Blk w1 g t cs := by
 refine (hg.block g h.lt (fun ho => ?_)).trans h
 rcases hown.2 with ⟨hv, _⟩ | ⟨g', cap, cur, hv, _, hh, _⟩
 ·subst hv; simp [Value.ownBlock] at ho
 ·subst hv
  simp [Value.ownBlock] at ho
  subst ho
  exact Blk.ne_ (g' := g) h hh hne rfl
theorem own_grown {w w1 : World} {base base' size size' n n' : Nat} {e e' : TypeId} {v v' : Value} {xs xs' : List Value} (h : w.ownsRow base e size v n xs) (hown : w.ownsRow base' e' size' v' n' xs') (hne : e ≠ e') (hg : w.grownBy w1 v'.ownBlock) : w1.ownsRow base e size v n xs := by
 obtain ⟨hl, h2⟩ := h
 refine ⟨hl, ?_⟩
 rcases h2 with ⟨hv, hn⟩ | ⟨g, cap, cur, hv, hb, hh, r⟩
 ·exact Or.inl ⟨hv, hn⟩
 ·exact Or.inr ⟨g, cap, cur, hv, hb, Blk.grown (t := e) (cs := cur) hh hown hne hg, r⟩
theorem below_grown {B : Nat} {w0 w w1 : World} {base size n : Nat} {e : TypeId} {v : Value} {xs : List Value} (h : Below B w0 w) (hown : w.ownsRow base e size v n xs) (hB : B ≤ w.heap.size) (hb : B ≤ base) (hg : w.grownBy w1 v.ownBlock) : Below B w0 w1 :=
 h.grown hg hB (fun k hk => by have := own_ge hown k hk; omega)
theorem below_drewN' {B : Nat} {w0 w : World} (h : Below B w0 w) (n : Nat) : Below B w0 (w.drewN n) := ⟨h.os, h.tape, h.output, h.size, h.block⟩
theorem list9 {α : Type} {l : List α} (h : l.length = 9) : ∃ a b c d e f g i j, l = [a, b, c, d, e, f, g, i, j] := by
 match l, h with
 | [x0, x1, x2, x3, x4, x5, x6, x7, x8], _ => exact ⟨_, _, _, _, _, _, _, _, _, rfl⟩
end Go.Proofs.YtaioaojfdngfdaaGreatDoor
