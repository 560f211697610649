/- What the methods of a row do in memory. Conditions: those of each theorem. -/
import Derived.Test.YtmkbhejbbhikcaaFifoPlain
import Derived.BigRegion
import Derived.RegionTactic
import Derived.BigQuiet
import Derived.Deep.QuietTactic
import Derived.Test.YtmkbhejbbhikcaaPurse2
namespace Go.Proofs.Ytmkbhejbbhikcaa
open Go.RowKit
set_option linter.unusedVariables false

theorem alike_drew1 (w : World) : w.drew.Alike w := ⟨rfl, rfl, rfl⟩
theorem alike_drew2 (w : World) : w.drew.drew.Alike w := ⟨rfl, rfl, rfl⟩
def bools (l : List Bool) : Array Value := (l.map Value.bool).toArray
theorem bools_at (l : List Bool) (i : Nat) (h : i < l.length) : (bools l)[i]? = some (.bool (l.getD i false)) := by simp [bools, List.getD, h]
theorem bools_set (l : List Bool) (i : Nat) (v : Bool) : (bools l).setIfInBounds i (.bool v) = bools (l.set i v) := by
  apply Array.ext'
  simp [bools, List.map_set]

/-- a row in memory: its own block, and those of next, prev, in -/
structure FifoM (w : World) (b nb pb ib : Nat) (q : FifoC) (N : Nat) : Prop where
  own : Blk w b 119 #[.slice (some ⟨nb, 0, none⟩) N N, .slice (some ⟨pb, 0, none⟩) N N, .slice (some ⟨ib, 0, none⟩) N N, .int .i64 q.first, .int .i64 q.last, .int .i64 q.n]
  nx : Blk w nb 3 (nums q.nx)
  pv : Blk w pb 3 (nums q.pv)
  inn : Blk w ib 4 (bools q.inn)
  d1 : b ≠ nb
  d2 : b ≠ pb
  d3 : b ≠ ib
  d4 : nb ≠ pb
  d5 : nb ≠ ib
  d6 : pb ≠ ib
theorem FifoM.alike {w w' : World} {b nb pb ib N : Nat} {q : FifoC} (h : FifoM w b nb pb ib q N) (k : w'.Alike w) : FifoM w' b nb pb ib q N :=
  ⟨h.own.alike k, h.nx.alike k, h.pv.alike k, h.inn.alike k, h.d1, h.d2, h.d3, h.d4, h.d5, h.d6⟩
theorem FifoM.only {S : Nat → Prop} {w w' : World} {b nb pb ib N : Nat} {q : FifoC} (h : FifoM w b nb pb ib q N) (k : Only S w w') (h1 : ¬ S b) (h2 : ¬ S nb) (h3 : ¬ S pb) (h4 : ¬ S ib) : FifoM w' b nb pb ib q N :=
  ⟨h.own.only k h1, h.nx.only k h2, h.pv.only k h3, h.inn.only k h4, h.d1, h.d2, h.d3, h.d4, h.d5, h.d6⟩
/-- the cells of a row's own block -/
theorem FifoM.cells {w : World} {b nb pb ib N : Nat} {q : FifoC} (h : FifoM w b nb pb ib q N) :
    (w.cell? ⟨b, 0, none⟩ = some (.slice (some ⟨nb, 0, none⟩) N N) ∧ w.cell? ⟨b, 1, none⟩ = some (.slice (some ⟨pb, 0, none⟩) N N) ∧ w.cell? ⟨b, 2, none⟩ = some (.slice (some ⟨ib, 0, none⟩) N N)) ∧
    (w.cell? ⟨b, 3, none⟩ = some (.int .i64 q.first) ∧ w.cell? ⟨b, 4, none⟩ = some (.int .i64 q.last) ∧ w.cell? ⟨b, 5, none⟩ = some (.int .i64 q.n)) := by
  refine ⟨⟨?_, ?_, ?_⟩, ?_, ?_, ?_⟩ <;> (rw [h.own.cell]; rfl)
theorem FifoM.nx_at {w : World} {b nb pb ib N : Nat} {q : FifoC} (h : FifoM w b nb pb ib q N) (hl : q.nx.length = N) {x : Int} (h0 : 0 ≤ x) (h1 : x < N) : w.cell? ⟨nb, x.toNat, none⟩ = some (.int .i64 (at_ q.nx x)) := by
  rw [h.nx.cell]; exact nums_at _ _ (by omega)
theorem FifoM.pv_at {w : World} {b nb pb ib N : Nat} {q : FifoC} (h : FifoM w b nb pb ib q N) (hl : q.pv.length = N) {x : Int} (h0 : 0 ≤ x) (h1 : x < N) : w.cell? ⟨pb, x.toNat, none⟩ = some (.int .i64 (at_ q.pv x)) := by
  rw [h.pv.cell]; exact nums_at _ _ (by omega)
theorem FifoM.in_at {w : World} {b nb pb ib N : Nat} {q : FifoC} (h : FifoM w b nb pb ib q N) (hl : q.inn.length = N) {x : Int} (h0 : 0 ≤ x) (h1 : x < N) : w.cell? ⟨ib, x.toNat, none⟩ = some (.bool (bat q.inn x)) := by
  rw [h.inn.cell]; exact bools_at _ _ (by omega)

section
variable (b nb pb ib N : Nat) (id fi la n : Int) (w : World)
set_option maxRecDepth 100000 in
set_option maxHeartbeats 400000 in
/-- the walk of Push, when it comes, the row not empty -/
theorem push_some (x1 x2 y : Value) (h0 : 0 ≤ id) (h1 : id < N)
    (c0 : w.cell? ⟨b, 0, none⟩ = some (.slice (some ⟨nb, 0, none⟩) N N)) (c1 : w.cell? ⟨b, 1, none⟩ = some (.slice (some ⟨pb, 0, none⟩) N N)) (c2 : w.cell? ⟨b, 2, none⟩ = some (.slice (some ⟨ib, 0, none⟩) N N))
    (c4 : w.cell? ⟨b, 4, none⟩ = some (.int .i64 la)) (c5 : w.cell? ⟨b, 5, none⟩ = some (.int .i64 n)) (f4 : w.frozen? ⟨b, 4, none⟩ = false) (f5 : w.frozen? ⟨b, 5, none⟩ = false)
    (hx1 : w.cell? ⟨nb, id.toNat, none⟩ = some x1) (hx2 : w.cell? ⟨pb, id.toNat, none⟩ = some x2) (hx3 : w.cell? ⟨ib, id.toNat, none⟩ = some (.bool false)) (hy : w.cell? ⟨nb, la.toNat, none⟩ = some y)
    (g1 : w.frozen? ⟨nb, id.toNat, none⟩ = false) (g2 : w.frozen? ⟨pb, id.toNat, none⟩ = false) (g3 : w.frozen? ⟨ib, id.toNat, none⟩ = false) (g4 : w.frozen? ⟨nb, la.toNat, none⟩ = false)
    (hl0 : 0 ≤ la) (hl1 : la < N) (hn0 : 0 ≤ n) (hn1 : n ≤ 1024) (d1 : b ≠ nb) (d2 : b ≠ pb) (d3 : b ≠ ib) (d4 : nb ≠ pb) (d5 : nb ≠ ib) (d6 : pb ≠ ib) (hne : ¬ la.toNat = id.toNat) :
    Calls Try.prog 48 #[.pointer (some ⟨b, 0, none⟩), .int .i64 id] w fun e w' => e = .returned (.bool true) ∧
      w'.Alike ((((((w.setCell ⟨ib, id.toNat, none⟩ (.bool true)).setCell ⟨nb, id.toNat, none⟩ (.int .i64 (-1))).setCell ⟨pb, id.toNat, none⟩ (.int .i64 la)).setCell ⟨nb, la.toNat, none⟩ (.int .i64 id)).setCell ⟨b, 4, none⟩ (.int .i64 id)).setCell ⟨b, 5, none⟩ (.int .i64 (n + 1))) := by
  have hlb : (la == -1) = false := by simp; omega
  go_enter Try.func48, Try.ntmps48
  go_wp2
  go_region
  go_wp2
  go_region
  go_wp2
  go_ret
  exact ⟨rfl, alike_drew2 _⟩
set_option maxRecDepth 100000 in
set_option maxHeartbeats 400000 in
/-- the walk of Push, when it comes, the row empty -/
theorem push_first (x1 x2 : Value) (h0 : 0 ≤ id) (h1 : id < N)
    (c0 : w.cell? ⟨b, 0, none⟩ = some (.slice (some ⟨nb, 0, none⟩) N N)) (c1 : w.cell? ⟨b, 1, none⟩ = some (.slice (some ⟨pb, 0, none⟩) N N)) (c2 : w.cell? ⟨b, 2, none⟩ = some (.slice (some ⟨ib, 0, none⟩) N N))
    (c3 : w.cell? ⟨b, 3, none⟩ = some (.int .i64 fi)) (f3 : w.frozen? ⟨b, 3, none⟩ = false)
    (c4 : w.cell? ⟨b, 4, none⟩ = some (.int .i64 (-1))) (c5 : w.cell? ⟨b, 5, none⟩ = some (.int .i64 n)) (f4 : w.frozen? ⟨b, 4, none⟩ = false) (f5 : w.frozen? ⟨b, 5, none⟩ = false)
    (hx1 : w.cell? ⟨nb, id.toNat, none⟩ = some x1) (hx2 : w.cell? ⟨pb, id.toNat, none⟩ = some x2) (hx3 : w.cell? ⟨ib, id.toNat, none⟩ = some (.bool false))
    (g1 : w.frozen? ⟨nb, id.toNat, none⟩ = false) (g2 : w.frozen? ⟨pb, id.toNat, none⟩ = false) (g3 : w.frozen? ⟨ib, id.toNat, none⟩ = false)
    (hn0 : 0 ≤ n) (hn1 : n ≤ 1024) (d1 : b ≠ nb) (d2 : b ≠ pb) (d3 : b ≠ ib) (d4 : nb ≠ pb) (d5 : nb ≠ ib) (d6 : pb ≠ ib) :
    Calls Try.prog 48 #[.pointer (some ⟨b, 0, none⟩), .int .i64 id] w fun e w' => e = .returned (.bool true) ∧
      w'.Alike ((((((w.setCell ⟨ib, id.toNat, none⟩ (.bool true)).setCell ⟨nb, id.toNat, none⟩ (.int .i64 (-1))).setCell ⟨pb, id.toNat, none⟩ (.int .i64 (-1))).setCell ⟨b, 3, none⟩ (.int .i64 id)).setCell ⟨b, 4, none⟩ (.int .i64 id)).setCell ⟨b, 5, none⟩ (.int .i64 (n + 1))) := by
  go_enter Try.func48, Try.ntmps48
  go_wp2
  go_region
  go_wp2
  go_ret
  exact ⟨rfl, alike_drew1 _⟩
set_option maxRecDepth 100000 in
set_option maxHeartbeats 400000 in
/-- Push of one who waits already, or who can't -/
theorem push_in (h0 : 0 ≤ id) (h1 : id < N) (c2 : w.cell? ⟨b, 2, none⟩ = some (.slice (some ⟨ib, 0, none⟩) N N)) (hx3 : w.cell? ⟨ib, id.toNat, none⟩ = some (.bool true)) :
    Calls Try.prog 48 #[.pointer (some ⟨b, 0, none⟩), .int .i64 id] w fun e w' => e = .returned (.bool false) ∧ w = w' := by
  go_enter Try.func48, Try.ntmps48
  go_wp2
  go_ret
  exact ⟨rfl, rfl⟩
set_option maxRecDepth 100000 in
set_option maxHeartbeats 400000 in
theorem push_out (hid : id < 0 ∨ N ≤ id) (c2 : w.cell? ⟨b, 2, none⟩ = some (.slice (some ⟨ib, 0, none⟩) N N)) :
    Calls Try.prog 48 #[.pointer (some ⟨b, 0, none⟩), .int .i64 id] w fun e w' => e = .returned (.bool false) ∧ w = w' := by
  by_cases hz : id < 0
  · clear hid
    go_enter Try.func48, Try.ntmps48
    go_wp2
    go_ret
    exact ⟨rfl, rfl⟩
  · have hd : decide (id < (N : Int)) = false := by simp; omega
    clear hid
    go_enter Try.func48, Try.ntmps48
    go_wp2
    go_ret
    exact ⟨rfl, rfl⟩
theorem fpush_nil : Calls Try.prog 48 #[.pointer none, .int .i64 id] w fun e w' => e = .returned (.bool false) ∧ w = w' := by
  go_enter Try.func48, Try.ntmps48
  go_wp2
  go_ret
  exact ⟨rfl, rfl⟩
end
end Go.Proofs.Ytmkbhejbbhikcaa
