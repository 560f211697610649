/- Taking one out of a row: the walks. Conditions: those of each theorem. -/
import Derived.Test.YtmkbhejbbhikcaaFifo
namespace Go.Proofs.Ytmkbhejbbhikcaa
open Go.RowKit
set_option linter.unusedVariables false
theorem alike_drewN (w : World) (n : Nat) : (w.drewN n).Alike w := ⟨rfl, rfl, rfl⟩
theorem alike_setC {a b : World} (h : a.Alike b) (p : Addr) (v : Value) : (a.setCell p v).Alike (b.setCell p v) := by
  obtain ⟨h1, h2, h3⟩ := h
  exact ⟨by simp only [World.setCell, h1], h2, h3⟩
section
variable (b nb pb ib N : Nat) (id fi la n : Int) (w : World)
set_option maxRecDepth 100000 in
set_option maxHeartbeats 400000 in
theorem cut_nn (xi : Value) (h0 : 0 ≤ id) (h1 : id < N)
    (c0 : w.cell? ⟨b, 0, none⟩ = some (.slice (some ⟨nb, 0, none⟩) N N)) (c1 : w.cell? ⟨b, 1, none⟩ = some (.slice (some ⟨pb, 0, none⟩) N N)) (c2 : w.cell? ⟨b, 2, none⟩ = some (.slice (some ⟨ib, 0, none⟩) N N))
    (c3 : w.cell? ⟨b, 3, none⟩ = some (.int .i64 fi)) (f3 : w.frozen? ⟨b, 3, none⟩ = false) (c4 : w.cell? ⟨b, 4, none⟩ = some (.int .i64 la)) (f4 : w.frozen? ⟨b, 4, none⟩ = false)
    (c5 : w.cell? ⟨b, 5, none⟩ = some (.int .i64 n)) (f5 : w.frozen? ⟨b, 5, none⟩ = false)
    (hp : w.cell? ⟨pb, id.toNat, none⟩ = some (.int .i64 (-1))) (hn : w.cell? ⟨nb, id.toNat, none⟩ = some (.int .i64 (-1))) (hi : w.cell? ⟨ib, id.toNat, none⟩ = some xi) (gi : w.frozen? ⟨ib, id.toNat, none⟩ = false)
    (hn0 : 1 ≤ n) (hn1 : n ≤ 1024) (d1 : b ≠ nb) (d2 : b ≠ pb) (d3 : b ≠ ib) (d4 : nb ≠ pb) (d5 : nb ≠ ib) (d6 : pb ≠ ib) :
    Calls Try.prog 91 #[.pointer (some ⟨b, 0, none⟩), .int .i64 id] w fun e w' => e = .returned (.tuple #[]) ∧
      w'.Alike ((((w.setCell ⟨b, 3, none⟩ (.int .i64 (-1))).setCell ⟨b, 4, none⟩ (.int .i64 (-1))).setCell ⟨ib, id.toNat, none⟩ (.bool false)).setCell ⟨b, 5, none⟩ (.int .i64 (n - 1))) := by
  go_enter Try.func91, Try.ntmps91
  go_wp2
  go_quiet (fail)
  go_wp2
  go_end0
  exact ⟨rfl, alike_setC (alike_setC (alike_setC (alike_setC (alike_drewN _ _) _ _) _ _) _ _) _ _⟩
set_option maxRecDepth 100000 in
set_option maxHeartbeats 400000 in
theorem cut_ns (z : Int) (xz : Value) (xi : Value) (h0 : 0 ≤ id) (h1 : id < N)
    (c0 : w.cell? ⟨b, 0, none⟩ = some (.slice (some ⟨nb, 0, none⟩) N N)) (c1 : w.cell? ⟨b, 1, none⟩ = some (.slice (some ⟨pb, 0, none⟩) N N)) (c2 : w.cell? ⟨b, 2, none⟩ = some (.slice (some ⟨ib, 0, none⟩) N N))
    (c3 : w.cell? ⟨b, 3, none⟩ = some (.int .i64 fi)) (f3 : w.frozen? ⟨b, 3, none⟩ = false) (c4 : w.cell? ⟨b, 4, none⟩ = some (.int .i64 la)) (f4 : w.frozen? ⟨b, 4, none⟩ = false)
    (c5 : w.cell? ⟨b, 5, none⟩ = some (.int .i64 n)) (f5 : w.frozen? ⟨b, 5, none⟩ = false)
    (hp : w.cell? ⟨pb, id.toNat, none⟩ = some (.int .i64 (-1))) (hn : w.cell? ⟨nb, id.toNat, none⟩ = some (.int .i64 z)) (hi : w.cell? ⟨ib, id.toNat, none⟩ = some xi) (gi : w.frozen? ⟨ib, id.toNat, none⟩ = false)
    (hz0 : 0 ≤ z) (hz1 : z < N) (hpz : w.cell? ⟨pb, z.toNat, none⟩ = some xz) (gpz : w.frozen? ⟨pb, z.toNat, none⟩ = false)
    (hn0 : 1 ≤ n) (hn1 : n ≤ 1024) (d1 : b ≠ nb) (d2 : b ≠ pb) (d3 : b ≠ ib) (d4 : nb ≠ pb) (d5 : nb ≠ ib) (d6 : pb ≠ ib) :
    Calls Try.prog 91 #[.pointer (some ⟨b, 0, none⟩), .int .i64 id] w fun e w' => e = .returned (.tuple #[]) ∧
      w'.Alike ((((w.setCell ⟨b, 3, none⟩ (.int .i64 z)).setCell ⟨pb, z.toNat, none⟩ (.int .i64 (-1))).setCell ⟨ib, id.toNat, none⟩ (.bool false)).setCell ⟨b, 5, none⟩ (.int .i64 (n - 1))) := by
  have hzb : (z == -1) = false := by simp; omega
  go_enter Try.func91, Try.ntmps91
  go_wp2
  go_quiet (fail)
  go_wp2
  go_end0
  exact ⟨rfl, alike_setC (alike_setC (alike_setC (alike_setC (alike_drewN _ _) _ _) _ _) _ _) _ _⟩
set_option maxRecDepth 100000 in
set_option maxHeartbeats 400000 in
theorem cut_sn (a : Int) (xa : Value) (xi : Value) (h0 : 0 ≤ id) (h1 : id < N)
    (c0 : w.cell? ⟨b, 0, none⟩ = some (.slice (some ⟨nb, 0, none⟩) N N)) (c1 : w.cell? ⟨b, 1, none⟩ = some (.slice (some ⟨pb, 0, none⟩) N N)) (c2 : w.cell? ⟨b, 2, none⟩ = some (.slice (some ⟨ib, 0, none⟩) N N))
    (c3 : w.cell? ⟨b, 3, none⟩ = some (.int .i64 fi)) (f3 : w.frozen? ⟨b, 3, none⟩ = false) (c4 : w.cell? ⟨b, 4, none⟩ = some (.int .i64 la)) (f4 : w.frozen? ⟨b, 4, none⟩ = false)
    (c5 : w.cell? ⟨b, 5, none⟩ = some (.int .i64 n)) (f5 : w.frozen? ⟨b, 5, none⟩ = false)
    (hp : w.cell? ⟨pb, id.toNat, none⟩ = some (.int .i64 a)) (hn : w.cell? ⟨nb, id.toNat, none⟩ = some (.int .i64 (-1))) (hi : w.cell? ⟨ib, id.toNat, none⟩ = some xi) (gi : w.frozen? ⟨ib, id.toNat, none⟩ = false)
    (ha0 : 0 ≤ a) (ha1 : a < N) (hna : w.cell? ⟨nb, a.toNat, none⟩ = some xa) (gna : w.frozen? ⟨nb, a.toNat, none⟩ = false)
    (hn0 : 1 ≤ n) (hn1 : n ≤ 1024) (d1 : b ≠ nb) (d2 : b ≠ pb) (d3 : b ≠ ib) (d4 : nb ≠ pb) (d5 : nb ≠ ib) (d6 : pb ≠ ib) :
    Calls Try.prog 91 #[.pointer (some ⟨b, 0, none⟩), .int .i64 id] w fun e w' => e = .returned (.tuple #[]) ∧
      w'.Alike ((((w.setCell ⟨nb, a.toNat, none⟩ (.int .i64 (-1))).setCell ⟨b, 4, none⟩ (.int .i64 a)).setCell ⟨ib, id.toNat, none⟩ (.bool false)).setCell ⟨b, 5, none⟩ (.int .i64 (n - 1))) := by
  have hab : (a == -1) = false := by simp; omega
  go_enter Try.func91, Try.ntmps91
  go_wp2
  go_quiet (fail)
  go_wp2
  go_end0
  exact ⟨rfl, alike_setC (alike_setC (alike_setC (alike_setC (alike_drewN _ _) _ _) _ _) _ _) _ _⟩
set_option maxRecDepth 100000 in
set_option maxHeartbeats 400000 in
theorem cut_ss (a : Int) (xa : Value) (z : Int) (xz : Value) (xi : Value) (h0 : 0 ≤ id) (h1 : id < N)
    (c0 : w.cell? ⟨b, 0, none⟩ = some (.slice (some ⟨nb, 0, none⟩) N N)) (c1 : w.cell? ⟨b, 1, none⟩ = some (.slice (some ⟨pb, 0, none⟩) N N)) (c2 : w.cell? ⟨b, 2, none⟩ = some (.slice (some ⟨ib, 0, none⟩) N N))
    (c3 : w.cell? ⟨b, 3, none⟩ = some (.int .i64 fi)) (f3 : w.frozen? ⟨b, 3, none⟩ = false) (c4 : w.cell? ⟨b, 4, none⟩ = some (.int .i64 la)) (f4 : w.frozen? ⟨b, 4, none⟩ = false)
    (c5 : w.cell? ⟨b, 5, none⟩ = some (.int .i64 n)) (f5 : w.frozen? ⟨b, 5, none⟩ = false)
    (hp : w.cell? ⟨pb, id.toNat, none⟩ = some (.int .i64 a)) (hn : w.cell? ⟨nb, id.toNat, none⟩ = some (.int .i64 z)) (hi : w.cell? ⟨ib, id.toNat, none⟩ = some xi) (gi : w.frozen? ⟨ib, id.toNat, none⟩ = false)
    (ha0 : 0 ≤ a) (ha1 : a < N) (hna : w.cell? ⟨nb, a.toNat, none⟩ = some xa) (gna : w.frozen? ⟨nb, a.toNat, none⟩ = false)
    (hz0 : 0 ≤ z) (hz1 : z < N) (hpz : w.cell? ⟨pb, z.toNat, none⟩ = some xz) (gpz : w.frozen? ⟨pb, z.toNat, none⟩ = false)
    (hn0 : 1 ≤ n) (hn1 : n ≤ 1024) (d1 : b ≠ nb) (d2 : b ≠ pb) (d3 : b ≠ ib) (d4 : nb ≠ pb) (d5 : nb ≠ ib) (d6 : pb ≠ ib) :
    Calls Try.prog 91 #[.pointer (some ⟨b, 0, none⟩), .int .i64 id] w fun e w' => e = .returned (.tuple #[]) ∧
      w'.Alike ((((w.setCell ⟨nb, a.toNat, none⟩ (.int .i64 z)).setCell ⟨pb, z.toNat, none⟩ (.int .i64 a)).setCell ⟨ib, id.toNat, none⟩ (.bool false)).setCell ⟨b, 5, none⟩ (.int .i64 (n - 1))) := by
  have hab : (a == -1) = false := by simp; omega
  have hzb : (z == -1) = false := by simp; omega
  go_enter Try.func91, Try.ntmps91
  go_wp2
  go_quiet (fail)
  go_wp2
  go_end0
  exact ⟨rfl, alike_setC (alike_setC (alike_setC (alike_setC (alike_drewN _ _) _ _) _ _) _ _) _ _⟩
end
end Go.Proofs.Ytmkbhejbbhikcaa
