/- Parts of a chain of lemmas: Sort31, TxtA. Conditions: those of each theorem. -/
import Derived.Test.YtdmdohjdmnmabaaGreatDoorQh08
import Derived.Ground.NamesProg
import Derived.Ground.Names2Prog
import Derived.Shelf.Sort.Plain
import Derived.Shelf.Slices.CompactI
import Derived.Lib.SortBridge
import Derived.Test.YtdmdohjdmnmabaaGreatDoorQh07
import Derived.Lib.ItoaNum
import Derived.Test.YtdmdohjdmnmabaaGreatDoorQh05
import Derived.WalkSmall
namespace Go.Proofs.YtdmdohjdmnmabaaGreatDoor
open Go.RowKit Go.Shelf Go.Sort
theorem sortI_c (blk off cap : Nat) (zs : List Int) (w : World) (hH : Holds (Value.int .i64) w blk off zs.toArray) (hblk : blk < w.heap.size) (hsz : zs.length < 4611686018427387904) :
 Calls Tryz.prog 59 #[.slice (some ⟨blk, off, none⟩) zs.length cap] w fun e w' =>
  e = .returned (.tuple #[]) ∧ ∃ n os, w' = grow (putRow (Value.int .i64) (Sort.ahead w n) blk off (zs.mergeSort fun x y => decide (x ≤ y)).toArray) os :=
 Any.slices_Sort_int Tryz.laysSort blk off cap zs w hH hblk hsz
theorem compactI_c (blk off cap : Nat) (zs : List Int) (w : World) (hH : Holds (Value.int .i64) w blk off zs.toArray) (hsz : zs.length ≤ 9223372036854775807) (hcap : zs.length ≤ cap) :
 Calls Tryz.prog 60 #[.slice (some ⟨blk, off, none⟩) zs.length cap] w fun e w' => e = .returned (.slice (some ⟨blk, off, none⟩) (Lib.compact zs).length cap) ∧ ∃ q, w' = putRow (Value.int .i64) (Sort.ahead w q) blk off (Lib.compact zs ++ List.replicate (zs.length - (Lib.compact zs).length) 0).toArray :=
 Any.slices_Compact_int Tryz.laysCompact blk off cap zs w hH hsz hcap
theorem below_putRow {B g off : Nat} {w0 w : World} (h : Below B w0 w) (hg : B ≤ g) (d : Array Int) : Below B w0 (putRow (Value.int .i64) w g off d) := by
 refine ⟨h.os, h.tape, h.output, by simpa using h.size, fun i hi => ?_⟩
 have e : (putRow (Value.int .i64) w g off d).heap[i]? = w.heap[i]? := by
  simp only [putRow, mapBlock, Array.getElem?_modify]
  rw [if_neg (by omega)]
 rw [e]; exact h.block i hi
theorem below_ahead {B : Nat} {w0 w : World} (h : Below B w0 w) (n : Nat) : Below B w0 (Sort.ahead w n) := ⟨h.os, h.tape, h.output, h.size, h.block⟩
theorem below_grow {B : Nat} {w0 w : World} (h : Below B w0 w) (hB : B ≤ w.heap.size) (os : Array Obj) : Below B w0 (grow w os) := by
 refine ⟨h.os, h.tape, h.output, ?_, fun i hi => ?_⟩
 ·have := h.size; simp [grow]; omega
 ·rw [heap_grow_old w os (by omega)]; exact h.block i hi
end Go.Proofs.YtdmdohjdmnmabaaGreatDoor
namespace Go.Proofs.YtdmdohjdmnmabaaGreatDoor
open Go.RowKit
set_option linter.unusedVariables false

/-- the bytes of a text -/
abbrev bs (l : List UInt8) : ByteArray := ⟨l.toArray⟩
theorem bs_append (a b : List UInt8) : bs a ++ bs b = bs (a ++ b) := by
 apply ByteArray.ext
 simp [ByteArray.data_append]
theorem bs_size (a : List UInt8) : (bs a).size = a.length := by simp [ByteArray.size]
/-- the byte of a digit -/
def digB (d : Nat) : UInt8 := UInt8.ofNat (48 + d)
theorem digit_fin : ∀ d : Fin 10, ((⟨#[48, 49, 50, 51, 52, 53, 54, 55, 56, 57]⟩ : ByteArray).extract d.val (d.val + 1)) = bs [digB d.val] := by decide
theorem dec_one {u : Nat} (h : u < 10) : Lib.decDigits u = [digB u] := Lib.decDigits_one h
theorem digit_at {d : Nat} (h : d < 10) : ((⟨#[48, 49, 50, 51, 52, 53, 54, 55, 56, 57]⟩ : ByteArray).extract d (d + 1)) = bs [digB d] := digit_fin ⟨d, h⟩
theorem dec_len_go : ∀ (k u : Nat), u < 10 ^ (k + 1) → (Lib.decDigits u).length ≤ k + 1
 | 0, u, h => by rw [Lib.decDigits_one (by simpa using h)]; simp
 | k + 1, u, h => by
  by_cases h9 : u < 10
  ·rw [Lib.decDigits_one h9]; simp
  ·rw [Lib.decDigits, dif_neg h9, List.length_append]
   have := dec_len_go k (u / 10) (by rw [Nat.pow_succ] at h; omega)
   simp; omega
theorem dec_len {u : Nat} (h : u ≤ 18446744073709551616) : (Lib.decDigits u).length ≤ 20 := dec_len_go 19 u (by omega)
theorem dec_big {u : Nat} (h : ¬ u < 10) : Lib.decDigits u = Lib.decDigits (u / 10) ++ [digB (u % 10)] := by rw [Lib.decDigits, dif_neg h]; rfl
set_option maxRecDepth 100000 in
set_option maxHeartbeats 1600000 in
theorem Digits_c (N : Nat) (w : World) (hN : N ≤ 9223372036854775807) : Calls Tryz.prog 33 #[.int .i64 N] w fun e w' => e = .returned (.string (bs (Lib.decDigits N))) ∧ w' = w := by
 have hlen := dec_len (u := N) (by omega)
 have Hlen := hide hlen
 clear hlen
 go_enter Tryz.func33, Tryz.ntmps33
 go_wp2_with fail
 go_loopw [0, 3] (fun n v wr => ∃ (m : Nat) (s : List UInt8), n = .int .i64 m ∧ v = .string (bs s) ∧ m ≤ N ∧ Hid (Lib.decDigits N = Lib.decDigits m ++ s) ∧ wr = w) (fun n _ _ => (intOf n).toNat)
 case atStart => exact ⟨N, [], rfl, rfl, Nat.le_refl _, hide (by simp), rfl⟩
 case round =>
  obtain ⟨m, s, rfl, rfl, hm, hd, rfl⟩ := hrel
  have hsl : s.length ≤ 20 := by
   have h1 := Hlen.out
   rw [hd.out, List.length_append] at h1
   omega
  by_cases h9 : 9 < m
  ·have d1 : decide ((9 : Int) < (m : Int)) = true := by simp; omega
   have d2 : decide (9 < m) = true := by simp; omega
   have t1 : Int.tmod (m : Int) 10 = ((m % 10 : Nat) : Int) := by rw [Int.tmod_eq_emod_of_nonneg (by omega)]; omega
   have t2 : Int.tdiv (m : Int) 10 = ((m / 10 : Nat) : Int) := by rw [Int.tdiv_eq_ediv_of_nonneg (by omega)]; omega
   have HN := hide (show Lib.decDigits N = Lib.decDigits (m / 10) ++ ([digB (m % 10)] ++ s) by rw [hd.out, dec_big (by omega), List.append_assoc])
   obtain ⟨d, hdd⟩ : ∃ d, d = m % 10 := ⟨_, rfl⟩
   obtain ⟨q, hq⟩ : ∃ q, q = m / 10 := ⟨_, rfl⟩
   have hd10 : d < 10 := by omega
   have hqm : q < m := by omega
   rw [← hdd] at t1 HN
   rw [← hq] at t2 HN
   clear hdd hq hd
   have hx := digit_at hd10
   have w1 : IntKind.i64.wrap ((d : Int) + 1) = (d : Int) + 1 := IntWalk.i64_in _ (by omega)
   have w2 : ((d : Int) + 1).toNat = d + 1 := by omega
   have w3 : IntKind.i64.wrap (d : Int) = (d : Int) := IntWalk.i64_in _ (by omega)
   have w4 : IntKind.i64.wrap (q : Int) = (q : Int) := IntWalk.i64_in _ (by omega)
   have w5 : IntKind.i64.wrap (m : Int) = (m : Int) := IntWalk.i64_in _ (by omega)
   have hsz : (bs [digB d]).size + (bs s).size ≤ 9223372036854775807 := by rw [bs_size, bs_size]; simp; omega
   go_wp2_with fail
   go_roundw
   case rel => exact ⟨q, [digB d] ++ s, by go_num, by rw [bs_append], by omega, HN, by first | trivial | rfl⟩
   case measure => simp [intOf]; omega
  ·have d1 : decide ((9 : Int) < (m : Int)) = false := by simp; omega
   have d2 : decide (9 < m) = false := by simp; omega
   have HN := hide (show bs [digB m] ++ bs s = bs (Lib.decDigits N) by rw [bs_append, hd.out, Lib.decDigits_one (by omega)]; rfl)
   have hx := digit_at (d := m) (by omega)
   have w1 : IntKind.i64.wrap ((m : Int) + 1) = (m : Int) + 1 := IntWalk.i64_in _ (by omega)
   have w2 : ((m : Int) + 1).toNat = m + 1 := by omega
   have hsz : (bs [digB m]).size + (bs s).size ≤ 9223372036854775807 := by rw [bs_size, bs_size]; simp; omega
   clear hd
   go_wp2_with fail
   go_ret
   exact ⟨by rw [← HN.out]; rfl, rfl⟩
end Go.Proofs.YtdmdohjdmnmabaaGreatDoor
namespace Go.Proofs.YtdmdohjdmnmabaaGreatDoor
open Go.RowKit
set_option linter.unusedVariables false

/-- the digits of a number; none of 0 -/
def highD (u : Nat) : List UInt8 := if u = 0 then [] else Lib.decDigits u
theorem high_dec (u : Nat) : highD (u / 10) ++ [digB (u % 10)] = Lib.decDigits u := by
 unfold highD
 by_cases h : u < 10
 ·have e : u / 10 = 0 := by omega
  rw [if_pos e, dec_one h, show u % 10 = u by omega]; rfl
 ·rw [if_neg (by omega), dec_big h]
theorem high_len {u : Nat} (h : u ≤ 18446744073709551616) : (highD u).length ≤ 20 := by
 unfold highD
 split
 ·simp
 ·exact dec_len h
theorem itoa_len {n : Int} (h : -9223372036854775808 ≤ n) (h2 : n ≤ 9223372036854775807) : (Lib.itoa n).length ≤ 21 := by
 unfold Lib.itoa
 split
 ·have := dec_len (u := n.natAbs) (by omega)
  simp; omega
 ·have := dec_len (u := n.toNat) (by omega)
  omega
end Go.Proofs.YtdmdohjdmnmabaaGreatDoor
namespace Go.Proofs.YtdmdohjdmnmabaaGreatDoor
open Go.RowKit
set_option linter.unusedVariables false
def ownT (t : Int) : Int := if t < 0 then 0 else t
theorem ownT_nn (t : Int) : 0 ≤ ownT t := by unfold ownT; split <;> omega
theorem ownT_le {t : Int} (h : t ≤ 9223372036854775807) : ownT t ≤ 9223372036854775807 := by unfold ownT; split <;> omega
theorem refOwn_c (t : Int) (w : World) : Calls Tryz.prog 67 #[.int .i64 t] w fun e w' => e = .returned (.int .i64 (ownT t)) ∧ w' = w := by
 unfold ownT
 by_cases h : t < 0
 ·have hd : decide (t < 0) = true := by simpa using h
  rw [if_pos h]
  go_enter Tryz.func67, Tryz.ntmps67
  go_wp2_with fail
  go_ret
  exact ⟨rfl, rfl⟩
 ·have hd : decide (t < 0) = false := by simpa using h
  rw [if_neg h]
  go_enter Tryz.func67, Tryz.ntmps67
  go_wp2_with fail
  go_ret
  exact ⟨rfl, rfl⟩
theorem own_c (t : Int) (w : World) : Calls Tryz.prog 54 #[.int .i64 t] w fun e w' => e = .returned (.int .i64 (ownT t)) ∧ w' = w := by
 unfold ownT
 by_cases h : t < 0
 ·have hd : decide (t < 0) = true := by simpa using h
  have hm : max t 0 = 0 := by omega
  rw [if_pos h]
  go_enter Tryz.func54, Tryz.ntmps54
  go_wp2_with fail
  go_ret
  exact ⟨rfl, rfl⟩
 ·have hd : decide (t < 0) = false := by simpa using h
  have hm : max t 0 = t := by omega
  rw [if_neg h]
  go_enter Tryz.func54, Tryz.ntmps54
  go_wp2_with fail
  go_ret
  exact ⟨rfl, rfl⟩
end Go.Proofs.YtdmdohjdmnmabaaGreatDoor
namespace Go.Proofs.YtdmdohjdmnmabaaGreatDoor
open Go.RowKit Go.Sort
set_option linter.unusedVariables false

/-- the library's table of powers stands as the program's text lays it -/
def Tab (w : World) : Prop := Lib.TabIs Tryz.prog w "internal/strconv.uint64pow10" .u64 Lib.pow10Tab
theorem Tab.below {w w' : World} (h : Tab w) (hb : Below w.heap.size w w') : Tab w' := by
 unfold Tab Lib.TabIs World.var? at *
 cases hg : Tryz.prog.globalNamed "internal/strconv.uint64pow10" with
 | none => rw [hg] at h; simp at h
 | some g =>
  rw [hg] at h
  simp only [Option.bind_some] at h ⊢
  have hlt : g < w.heap.size := by
   rcases Nat.lt_or_ge g w.heap.size with hl | hl
   ·exact hl
   ·rw [Array.getElem?_eq_none hl] at h; cases h
  rw [hb.block g hlt]
  exact h
theorem Tab.drewN {w : World} (h : Tab w) (n : Nat) : Tab (w.drewN n) := h
theorem Tab.drew {w : World} (h : Tab w) : Tab w.drew := h
theorem below_lib (w : World) (k : Nat) (os : Array Obj) : Below w.heap.size w (grow (w.drewN k) os) := below_grow (below_drewN w k) (Nat.le_refl _) os
theorem Itoa_c (n : Int) (w : World) (h0 : -9223372036854775808 ≤ n) (h1 : n ≤ 9223372036854775807) (ht : Tab w) : Calls Tryz.prog 27 #[.int .i64 n] w fun e w' => e = .returned (.string (bs (Lib.itoa n))) ∧ Below w.heap.size w w' := by
 refine (Tryz.strconv_Itoa n h0 h1 w ht).mono ?_
 rintro e w1 ⟨rfl, k, os, rfl⟩
 exact ⟨rfl, below_lib _ _ _⟩
/-- a tick's text -/
def tickT (t : Int) : List UInt8 := if t = 9223372036854775807 then [110, 101, 118, 101, 114] else Lib.itoa (ownT t)
theorem tickT_len {t : Int} (h : t ≤ 9223372036854775807) : (tickT t).length ≤ 21 := by
 unfold tickT
 split
 ·simp
 ·exact itoa_len (by have := ownT_nn t; omega) (ownT_le h)
theorem itoa_nn {n : Int} (h : 0 ≤ n) : Lib.itoa n = Lib.decDigits n.toNat := by unfold Lib.itoa; rw [if_neg (by omega)]
set_option maxHeartbeats 1600000 in
theorem refText_c (t : Int) (w : World) (h1 : t ≤ 9223372036854775807) : Calls Tryz.prog 35 #[.int .i64 t] w fun e w' => e = .returned (.string (bs (tickT t))) ∧ w' = w := by
 by_cases h : t = 9223372036854775807
 ·have e1 : (t == 9223372036854775807) = true := by simpa using h
  have HN := hide (show tickT t = [110, 101, 118, 101, 114] by unfold tickT; rw [if_pos h])
  clear h
  go_enter Tryz.func35, Tryz.ntmps35
  go_wp2_with fail
  go_ret
  exact ⟨by rw [HN.out]; rfl, rfl⟩
 ·have e1 : (t == 9223372036854775807) = false := by simpa using h
  have HO := hide (refOwn_c t w)
  have h2 := ownT_nn t; have h3 := ownT_le h1
  have HN := hide (show bs (Lib.decDigits (ownT t).toNat) = bs (tickT t) by unfold tickT; rw [if_neg h, itoa_nn h2])
  obtain ⟨U, hU⟩ : ∃ U : Nat, (U : Int) = ownT t := ⟨(ownT t).toNat, by omega⟩
  rw [← hU] at HO h3
  have HD := hide (Digits_c U w (by omega))
  rw [← hU, Int.toNat_natCast] at HN
  clear h hU h2
  go_enter Tryz.func35, Tryz.ntmps35
  go_wp2_with fail
  refine HO.out.mono ?_
  rintro e w1 ⟨rfl, rfl⟩
  go_wp2_with fail
  refine HD.out.mono ?_
  rintro e w1 ⟨rfl, rfl⟩
  go_wp2_with fail
  go_ret
  exact ⟨by rw [← HN.out]; rfl, rfl⟩
set_option maxHeartbeats 1600000 in
theorem Text_c (t : Int) (w : World) (h1 : t ≤ 9223372036854775807) (ht : Tab w) : Calls Tryz.prog 26 #[.int .i64 t] w fun e w' => e = .returned (.string (bs (tickT t))) ∧ Below w.heap.size w w' := by
 by_cases h : t = 9223372036854775807
 ·have e1 : (t == 9223372036854775807) = true := by simpa using h
  have HN := hide (show tickT t = [110, 101, 118, 101, 114] by unfold tickT; rw [if_pos h])
  clear h
  go_enter Tryz.func26, Tryz.ntmps26
  go_wp2_with fail
  go_ret
  exact ⟨by rw [HN.out]; rfl, Below.refl _ _⟩
 ·have e1 : (t == 9223372036854775807) = false := by simpa using h
  have HO := hide (own_c t w)
  have h2 := ownT_nn t; have h3 := ownT_le h1
  have HN := hide (show bs (Lib.itoa (ownT t)) = bs (tickT t) by unfold tickT; rw [if_neg h])
  have HD := hide (Tryz.strconv_FormatInt_10 (ownT t) (by omega) h3 w ht)
  obtain ⟨U, hU⟩ : ∃ U, U = ownT t := ⟨_, rfl⟩
  rw [← hU] at HO HD HN
  clear h hU h2 h3
  go_enter Tryz.func26, Tryz.ntmps26
  go_wp2_with fail
  refine HO.out.mono ?_
  rintro e w1 ⟨rfl, rfl⟩
  go_wp2_with fail
  refine HD.out.mono ?_
  rintro e w2 ⟨rfl, k, os, rfl⟩
  have HB := hide (below_lib w1 k os)
  go_wp2_with fail
  go_ret
  exact ⟨by rw [← HN.out]; rfl, HB.out⟩
/-- the words of how a dialogue stands -/
def stL : List (List UInt8) := [[114, 117, 110], [100, 111, 110, 101], [102, 97, 105, 108, 101, 100], [100, 101, 97, 100, 108, 105, 110, 101], [111, 118, 101, 114, 102, 108, 111, 119], [100, 114, 97, 105, 110, 101, 100]]
def statusT (n : Int) : List UInt8 := if 0 ≤ n ∧ n ≤ 5 then stL.getD n.toNat [] else []
abbrev stV : Array Value := #[.string ⟨#[114, 117, 110]⟩, .string ⟨#[100, 111, 110, 101]⟩, .string ⟨#[102, 97, 105, 108, 101, 100]⟩, .string ⟨#[100, 101, 97, 100, 108, 105, 110, 101]⟩, .string ⟨#[111, 118, 101, 114, 102, 108, 111, 119]⟩, .string ⟨#[100, 114, 97, 105, 110, 101, 100]⟩]
theorem stV_at (k : Nat) (h : k < 6) : stV[k]? = some (.string (bs (stL.getD k []))) := by
 rcases k with _ | _ | _ | _ | _ | _ | k
 all_goals first
  | rfl
  | omega
theorem statusT_len (n : Int) : (statusT n).length ≤ 8 := by
 unfold statusT
 split
 ·rename_i h
  obtain ⟨k, rfl⟩ : ∃ k : Nat, n = k := ⟨n.toNat, by omega⟩
  rw [Int.toNat_natCast]
  have hk : k < 6 := by omega
  rcases k with _ | _ | _ | _ | _ | _ | k
  all_goals first
   | (simp [stL]; done)
   | omega
 ·simp
end Go.Proofs.YtdmdohjdmnmabaaGreatDoor
