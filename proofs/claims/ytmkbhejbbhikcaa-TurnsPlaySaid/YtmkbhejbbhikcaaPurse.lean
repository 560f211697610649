/- What the methods of a purse do, as a list of numbers. Conditions: those of each theorem. -/
import Derived.Test.YtmkbhejbbhikcaaMem
import Derived.BigRegion
import Derived.RegionTactic
import Derived.BigQuiet
import Derived.Deep.QuietTactic
namespace Go.Proofs.Ytmkbhejbbhikcaa
open Go.RowKit

structure PurseM where
  l : List Int
  q : Int
structure PurseM.Ok (m : PurseM) : Prop where
  lo : 1 ≤ m.l.length
  hi : m.l.length ≤ 1024
  qlo : 1 ≤ m.q
  qhi : m.q ≤ 1000000
  all : ∀ i, i < m.l.length → 0 ≤ nth m.l i ∧ nth m.l i ≤ 2000000000
def PurseM.has (m : PurseM) (id : Int) : Int := if 0 ≤ id ∧ id < m.l.length then nth m.l id.toNat else 0
def PurseM.put (m : PurseM) (id v : Int) : PurseM := if 0 ≤ id ∧ id < m.l.length then ⟨m.l.set id.toNat v, m.q⟩ else m
def PurseM.give (m : PurseM) (id : Int) : PurseM := m.put id (min (m.has id + m.q) 2000000000)
def PurseM.can (m : PurseM) (id price : Int) : Bool := decide (0 ≤ id ∧ id < m.l.length ∧ max price 0 ≤ m.has id)
def PurseM.pay (m : PurseM) (id price : Int) : PurseM := if m.can id price then m.put id (m.has id - max price 0) else m
def PurseM.clear (m : PurseM) (id : Int) : PurseM := m.put id 0

def nums (l : List Int) : Array Value := (l.map (Value.int .i64)).toArray
def PurseAt (w : World) (b h : Nat) (m : PurseM) : Prop :=
  Blk w b 113 #[.slice (some ⟨h, 0, none⟩) m.l.length m.l.length, .int .i64 m.q] ∧ Blk w h 3 (nums m.l) ∧ b ≠ h

theorem nums_at (l : List Int) (i : Nat) (h : i < l.length) : (nums l)[i]? = some (.int .i64 (nth l i)) := by
  simp [nums, nth, List.getD, h]
theorem nums_set (l : List Int) (i : Nat) (v : Int) : (nums l).setIfInBounds i (.int .i64 v) = nums (l.set i v) := by
  apply Array.ext'
  simp [nums, List.map_set]

/-- what is read off a purse -/
theorem PurseAt.cells {w : World} {b h : Nat} {m : PurseM} (hp : PurseAt w b h m) :
    w.cell? ⟨b, 0, none⟩ = some (.slice (some ⟨h, 0, none⟩) m.l.length m.l.length) ∧ w.cell? ⟨b, 1, none⟩ = some (.int .i64 m.q) := by
  refine ⟨?_, ?_⟩
  · rw [hp.1.cell]; rfl
  · rw [hp.1.cell]; rfl
theorem PurseAt.at_ {w : World} {b h : Nat} {m : PurseM} (hp : PurseAt w b h m) (i : Nat) (hi : i < m.l.length) :
    w.cell? ⟨h, i, none⟩ = some (.int .i64 (nth m.l i)) ∧ w.frozen? ⟨h, i, none⟩ = false := by
  exact ⟨by rw [hp.2.1.cell]; exact nums_at _ _ hi, hp.2.1.frozen i⟩
theorem PurseAt.put {w : World} {b h : Nat} {m : PurseM} (hp : PurseAt w b h m) (id v : Int) (h0 : 0 ≤ id) (h1 : id < m.l.length) :
    PurseAt (w.setCell ⟨h, id.toNat, none⟩ (.int .i64 v)) b h (m.put id v) := by
  unfold PurseM.put
  rw [if_pos ⟨h0, h1⟩]
  refine ⟨?_, ?_, hp.2.2⟩
  · have := hp.1.far (p := ⟨h, id.toNat, none⟩) hp.2.2 (.int .i64 v)
    simpa using this
  · have := hp.2.1.set_ id.toNat (.int .i64 v)
    rw [nums_set] at this
    exact this
theorem PurseAt.alike {w w' : World} {b h : Nat} {m : PurseM} (hp : PurseAt w b h m) (k : w'.Alike w) : PurseAt w' b h m := ⟨hp.1.alike k, hp.2.1.alike k, hp.2.2⟩
theorem PurseAt.only {S : Nat → Prop} {w w' : World} {b h : Nat} {m : PurseM} (hp : PurseAt w b h m) (k : Only S w w') (hb : ¬ S b) (hh : ¬ S h) : PurseAt w' b h m := ⟨hp.1.only k hb, hp.2.1.only k hh, hp.2.2⟩

theorem alike_set {w : World} {p : Addr} {a b : Int} (h : a = b) : ((w.setCell p (.int .i64 a)).drew).Alike (w.setCell p (.int .i64 b)) := by
  subst h; exact ⟨rfl, rfl, rfl⟩
theorem alike_set0 {w : World} {p : Addr} {a b : Int} (h : a = b) : (w.setCell p (.int .i64 a)).Alike (w.setCell p (.int .i64 b)) := by
  subst h; exact ⟨rfl, rfl, rfl⟩

section
variable (b h n : Nat) (id q v : Int) (w : World)
/-- the walk of Give, in range -/
theorem give_in (h0 : 0 ≤ id) (h1 : id < n) (_hn : n ≤ 1024)
    (c0 : w.cell? ⟨b, 0, none⟩ = some (.slice (some ⟨h, 0, none⟩) n n)) (c1 : w.cell? ⟨b, 1, none⟩ = some (.int .i64 q))
    (ch : w.cell? ⟨h, id.toNat, none⟩ = some (.int .i64 v)) (fh : w.frozen? ⟨h, id.toNat, none⟩ = false)
    (q0 : 0 ≤ q) (q1 : q ≤ 1000000) (v0 : 0 ≤ v) (v1 : v ≤ 2000000000) (hb : b ≠ h) :
    Calls Try.prog 21 #[.pointer (some ⟨b, 0, none⟩), .int .i64 id] w fun e w' => e = .returned (.int .i64 (min (v + q) 2000000000)) ∧ w'.Alike (w.setCell ⟨h, id.toNat, none⟩ (.int .i64 (min (v + q) 2000000000))) := by
  go_enter Try.func21, Try.ntmps21
  go_wp2
  go_region
  go_wp2
  all_goals go_ret
  all_goals exact ⟨ret_int (by omega), alike_set (by omega)⟩
theorem give_out (hid : id < 0 ∨ n ≤ id) (_hn : n ≤ 1024) (c0 : w.cell? ⟨b, 0, none⟩ = some (.slice (some ⟨h, 0, none⟩) n n)) :
    Calls Try.prog 21 #[.pointer (some ⟨b, 0, none⟩), .int .i64 id] w fun e w' => e = .returned (.int .i64 0) ∧ w = w' := by
  by_cases hz : id < 0
  · clear hid
    go_enter Try.func21, Try.ntmps21
    go_wp2
    go_ret
    exact ⟨rfl, rfl⟩
  · have hd : decide (id < (n : Int)) = false := by simp; omega
    clear hid
    go_enter Try.func21, Try.ntmps21
    go_wp2
    go_ret
    exact ⟨rfl, rfl⟩
theorem give_nil : Calls Try.prog 21 #[.pointer none, .int .i64 id] w fun e w' => e = .returned (.int .i64 0) ∧ w = w' := by
  go_enter Try.func21, Try.ntmps21
  go_wp2
  go_ret
  exact ⟨rfl, rfl⟩

theorem has_in (h0 : 0 ≤ id) (h1 : id < n) (_hn : n ≤ 1024)
    (c0 : w.cell? ⟨b, 0, none⟩ = some (.slice (some ⟨h, 0, none⟩) n n)) (ch : w.cell? ⟨h, id.toNat, none⟩ = some (.int .i64 v)) :
    Calls Try.prog 22 #[.pointer (some ⟨b, 0, none⟩), .int .i64 id] w fun e w' => e = .returned (.int .i64 v) ∧ w = w' := by
  go_enter Try.func22, Try.ntmps22
  go_wp2
  go_ret
  exact ⟨rfl, rfl⟩
theorem has_out (hid : id < 0 ∨ n ≤ id) (_hn : n ≤ 1024) (c0 : w.cell? ⟨b, 0, none⟩ = some (.slice (some ⟨h, 0, none⟩) n n)) :
    Calls Try.prog 22 #[.pointer (some ⟨b, 0, none⟩), .int .i64 id] w fun e w' => e = .returned (.int .i64 0) ∧ w = w' := by
  by_cases hz : id < 0
  · clear hid
    go_enter Try.func22, Try.ntmps22
    go_wp2
    go_ret
    exact ⟨rfl, rfl⟩
  · have hd : decide (id < (n : Int)) = false := by simp; omega
    clear hid
    go_enter Try.func22, Try.ntmps22
    go_wp2
    go_ret
    exact ⟨rfl, rfl⟩
theorem has_nil : Calls Try.prog 22 #[.pointer none, .int .i64 id] w fun e w' => e = .returned (.int .i64 0) ∧ w = w' := by
  go_enter Try.func22, Try.ntmps22
  go_wp2
  go_ret
  exact ⟨rfl, rfl⟩

theorem clear_in (h0 : 0 ≤ id) (h1 : id < n) (_hn : n ≤ 1024) (c0 : w.cell? ⟨b, 0, none⟩ = some (.slice (some ⟨h, 0, none⟩) n n))
    (ch : w.cell? ⟨h, id.toNat, none⟩ = some (.int .i64 v)) (fh : w.frozen? ⟨h, id.toNat, none⟩ = false) :
    Calls Try.prog 24 #[.pointer (some ⟨b, 0, none⟩), .int .i64 id] w fun e w' => e = .returned (.int .i64 v) ∧ w'.Alike (w.setCell ⟨h, id.toNat, none⟩ (.int .i64 0)) := by
  go_enter Try.func24, Try.ntmps24
  go_wp2
  go_ret
  exact ⟨rfl, alike_set0 rfl⟩
theorem clear_out (hid : id < 0 ∨ n ≤ id) (_hn : n ≤ 1024) (c0 : w.cell? ⟨b, 0, none⟩ = some (.slice (some ⟨h, 0, none⟩) n n)) :
    Calls Try.prog 24 #[.pointer (some ⟨b, 0, none⟩), .int .i64 id] w fun e w' => e = .returned (.int .i64 0) ∧ w = w' := by
  by_cases hz : id < 0
  · clear hid
    go_enter Try.func24, Try.ntmps24
    go_wp2
    go_ret
    exact ⟨rfl, rfl⟩
  · have hd : decide (id < (n : Int)) = false := by simp; omega
    clear hid
    go_enter Try.func24, Try.ntmps24
    go_wp2
    go_ret
    exact ⟨rfl, rfl⟩
theorem clear_nil : Calls Try.prog 24 #[.pointer none, .int .i64 id] w fun e w' => e = .returned (.int .i64 0) ∧ w = w' := by
  go_enter Try.func24, Try.ntmps24
  go_wp2
  go_ret
  exact ⟨rfl, rfl⟩

theorem quantum_in (c1 : w.cell? ⟨b, 1, none⟩ = some (.int .i64 q)) :
    Calls Try.prog 26 #[.pointer (some ⟨b, 0, none⟩)] w fun e w' => e = .returned (.int .i64 q) ∧ w = w' := by
  go_enter Try.func26, Try.ntmps26
  go_wp2
  go_ret
  exact ⟨rfl, rfl⟩
theorem quantum_nil : Calls Try.prog 26 #[.pointer none] w fun e w' => e = .returned (.int .i64 0) ∧ w = w' := by
  go_enter Try.func26, Try.ntmps26
  go_wp2
  go_ret
  exact ⟨rfl, rfl⟩

theorem pay_nil (price : Int) : Calls Try.prog 20 #[.pointer none, .int .i64 id, .int .i64 price] w fun e w' => e = .returned (.bool false) ∧ w = w' := by
  go_enter Try.func20, Try.ntmps20
  go_wp2
  all_goals go_ret
  all_goals exact ⟨rfl, rfl⟩
theorem pay_out (price : Int) (hid : id < 0 ∨ n ≤ id) (_hn : n ≤ 1024) (c0 : w.cell? ⟨b, 0, none⟩ = some (.slice (some ⟨h, 0, none⟩) n n)) :
    Calls Try.prog 20 #[.pointer (some ⟨b, 0, none⟩), .int .i64 id, .int .i64 price] w fun e w' => e = .returned (.bool false) ∧ w = w' := by
  by_cases hz : id < 0
  · clear hid
    go_enter Try.func20, Try.ntmps20
    go_wp2
    all_goals go_ret
    all_goals exact ⟨rfl, rfl⟩
  · have hd : decide (id < (n : Int)) = false := by simp; omega
    clear hid
    go_enter Try.func20, Try.ntmps20
    go_wp2
    all_goals go_ret
    all_goals exact ⟨rfl, rfl⟩
theorem pay_no (price : Int) (h0 : 0 ≤ id) (h1 : id < n) (_hn : n ≤ 1024) (c0 : w.cell? ⟨b, 0, none⟩ = some (.slice (some ⟨h, 0, none⟩) n n))
    (ch : w.cell? ⟨h, id.toNat, none⟩ = some (.int .i64 v)) (v0 : 0 ≤ v) (hv : v < price) :
    Calls Try.prog 20 #[.pointer (some ⟨b, 0, none⟩), .int .i64 id, .int .i64 price] w fun e w' => e = .returned (.bool false) ∧ w = w' := by
  go_enter Try.func20, Try.ntmps20
  go_wp2
  all_goals go_ret
  all_goals exact ⟨rfl, rfl⟩
theorem pay_yes (price : Int) (h0 : 0 ≤ id) (h1 : id < n) (_hn : n ≤ 1024) (c0 : w.cell? ⟨b, 0, none⟩ = some (.slice (some ⟨h, 0, none⟩) n n))
    (ch : w.cell? ⟨h, id.toNat, none⟩ = some (.int .i64 v)) (fh : w.frozen? ⟨h, id.toNat, none⟩ = false) (v0 : 0 ≤ v) (v1 : v ≤ 2000000000) (hv : price ≤ v) :
    Calls Try.prog 20 #[.pointer (some ⟨b, 0, none⟩), .int .i64 id, .int .i64 price] w fun e w' => e = .returned (.bool true) ∧ w'.Alike (w.setCell ⟨h, id.toNat, none⟩ (.int .i64 (v - max price 0))) := by
  by_cases hp : 0 ≤ price
  all_goals
    go_enter Try.func20, Try.ntmps20
    go_wp2
    all_goals go_ret
    all_goals exact ⟨rfl, by first | exact alike_set0 (by omega) | exact alike_set (by omega)⟩
end

theorem PurseM.has_eq {m : PurseM} {id : Int} (h0 : 0 ≤ id) (h1 : id < m.l.length) : m.has id = nth m.l id.toNat := by unfold PurseM.has; rw [if_pos ⟨h0, h1⟩]
theorem PurseM.has_out {m : PurseM} {id : Int} (h : ¬ (0 ≤ id ∧ id < m.l.length)) : m.has id = 0 := by unfold PurseM.has; rw [if_neg h]
theorem PurseM.put_out {m : PurseM} {id v : Int} (h : ¬ (0 ≤ id ∧ id < m.l.length)) : m.put id v = m := by unfold PurseM.put; rw [if_neg h]
theorem PurseM.put_has {m : PurseM} {id v : Int} (h0 : 0 ≤ id) (h1 : id < m.l.length) : (m.put id v).has id = v := by
  unfold PurseM.put
  rw [if_pos ⟨h0, h1⟩]
  unfold PurseM.has
  simp only [List.length_set]
  rw [if_pos ⟨h0, h1⟩]
  simp only [nth_set]; rw [if_pos ⟨trivial, by omega⟩]
theorem PurseM.put_len (m : PurseM) (id v : Int) : (m.put id v).l.length = m.l.length := by
  unfold PurseM.put; split <;> simp
theorem PurseM.put_q (m : PurseM) (id v : Int) : (m.put id v).q = m.q := by
  unfold PurseM.put; split <;> rfl
theorem PurseM.put_far {m : PurseM} {id k v : Int} (h : k ≠ id) : (m.put id v).has k = m.has k := by
  unfold PurseM.put
  by_cases hr : 0 ≤ id ∧ id < m.l.length
  · rw [if_pos hr]
    unfold PurseM.has
    simp only [List.length_set]
    by_cases hk : 0 ≤ k ∧ k < m.l.length
    · rw [if_pos hk, if_pos hk]
      simp only [nth_set]; rw [if_neg (by omega)]
    · rw [if_neg hk, if_neg hk]
  · rw [if_neg hr]
theorem PurseM.Ok.put {m : PurseM} (ok : m.Ok) (id : Int) {v : Int} (v0 : 0 ≤ v) (v1 : v ≤ 2000000000) : (m.put id v).Ok := by
  refine ⟨by rw [PurseM.put_len]; exact ok.lo, by rw [PurseM.put_len]; exact ok.hi, by rw [PurseM.put_q]; exact ok.qlo, by rw [PurseM.put_q]; exact ok.qhi, fun i hi => ?_⟩
  rw [PurseM.put_len] at hi
  have hi' := ok.all i hi
  unfold PurseM.put
  split
  · by_cases e : id.toNat = i
    · simp only [nth_set]; rw [if_pos ⟨e, hi⟩]; exact ⟨v0, v1⟩
    · simp only [nth_set]; rw [if_neg (by omega)]; exact hi'
  · exact hi'
theorem PurseM.Ok.has {m : PurseM} (ok : m.Ok) (id : Int) : 0 ≤ m.has id ∧ m.has id ≤ 2000000000 := by
  unfold PurseM.has
  split
  · exact ok.all _ (by omega)
  · omega
theorem PurseM.Ok.give {m : PurseM} (ok : m.Ok) (id : Int) : (m.give id).Ok := by
  have := ok.has id; have := ok.qlo
  exact ok.put id (by omega) (by omega)
theorem PurseM.can_le {m : PurseM} {id price : Int} (h : m.can id price = true) : max price 0 ≤ m.has id := by
  unfold PurseM.can at h; simp only [decide_eq_true_eq] at h; exact h.2.2
theorem PurseM.Ok.pay {m : PurseM} (ok : m.Ok) (id price : Int) : (m.pay id price).Ok := by
  have := ok.has id
  unfold PurseM.pay
  split
  · rename_i h
    have := PurseM.can_le h
    exact ok.put id (by omega) (by omega)
  · exact ok
theorem PurseM.Ok.clear {m : PurseM} (ok : m.Ok) (id : Int) : (m.clear id).Ok := ok.put id (by omega) (by omega)

section
variable {b h : Nat} {m : PurseM} {w : World}
theorem Give_c (id : Int) (hp : PurseAt w b h m) (ok : m.Ok) :
    Calls Try.prog 21 #[.pointer (some ⟨b, 0, none⟩), .int .i64 id] w fun e w' => e = .returned (.int .i64 ((m.give id).has id)) ∧ PurseAt w' b h (m.give id) ∧ Only (· = h) w w' := by
  by_cases hr : 0 ≤ id ∧ id < m.l.length
  · obtain ⟨h0, h1⟩ := hr
    have hi : id.toNat < m.l.length := by omega
    obtain ⟨c0, c1⟩ := hp.cells
    obtain ⟨ch, fh⟩ := hp.at_ id.toNat hi
    have hv := ok.all _ hi
    refine (give_in b h m.l.length id m.q (nth m.l id.toNat) w h0 h1 ok.hi c0 c1 ch fh (by have := ok.qlo; omega) ok.qhi hv.1 hv.2 hp.2.2).mono fun e w' ⟨he, hw⟩ => ?_
    rw [← PurseM.has_eq h0 h1] at he hw
    refine ⟨by rw [he]; unfold PurseM.give; rw [PurseM.put_has h0 h1], (hp.put id _ h0 h1).alike hw, (only_set w h _ _).alike hw⟩
  · obtain ⟨c0, c1⟩ := hp.cells
    refine (give_out b h m.l.length id w (by omega) ok.hi c0).mono fun e w' ⟨he, hw⟩ => ?_
    subst hw
    unfold PurseM.give
    rw [PurseM.put_out hr, PurseM.has_out hr]
    exact ⟨he, hp, Only.refl _ _⟩
theorem Has_c (id : Int) (hp : PurseAt w b h m) (ok : m.Ok) :
    Calls Try.prog 22 #[.pointer (some ⟨b, 0, none⟩), .int .i64 id] w fun e w' => e = .returned (.int .i64 (m.has id)) ∧ w = w' := by
  by_cases hr : 0 ≤ id ∧ id < m.l.length
  · obtain ⟨h0, h1⟩ := hr
    rw [PurseM.has_eq h0 h1]
    exact has_in b h m.l.length id _ w h0 h1 ok.hi hp.cells.1 (hp.at_ id.toNat (by omega)).1
  · rw [PurseM.has_out hr]
    exact has_out b h m.l.length id w (by omega) ok.hi hp.cells.1
theorem Clear_c (id : Int) (hp : PurseAt w b h m) (ok : m.Ok) :
    Calls Try.prog 24 #[.pointer (some ⟨b, 0, none⟩), .int .i64 id] w fun e w' => e = .returned (.int .i64 (m.has id)) ∧ PurseAt w' b h (m.clear id) ∧ Only (· = h) w w' := by
  by_cases hr : 0 ≤ id ∧ id < m.l.length
  · obtain ⟨h0, h1⟩ := hr
    rw [PurseM.has_eq h0 h1]
    obtain ⟨ch, fh⟩ := hp.at_ id.toNat (by omega)
    refine (clear_in b h m.l.length id _ w h0 h1 ok.hi hp.cells.1 ch fh).mono fun e w' ⟨he, hw⟩ => ?_
    exact ⟨he, (hp.put id _ h0 h1).alike hw, (only_set w h _ _).alike hw⟩
  · rw [PurseM.has_out hr]
    refine (clear_out b h m.l.length id w (by omega) ok.hi hp.cells.1).mono fun e w' ⟨he, hw⟩ => ?_
    subst hw
    unfold PurseM.clear
    rw [PurseM.put_out hr]
    exact ⟨he, hp, Only.refl _ _⟩
theorem Quantum_c (hp : PurseAt w b h m) :
    Calls Try.prog 26 #[.pointer (some ⟨b, 0, none⟩)] w fun e w' => e = .returned (.int .i64 m.q) ∧ w = w' := quantum_in b m.q w hp.cells.2
theorem Pay_c (id price : Int) (hp : PurseAt w b h m) (ok : m.Ok) :
    Calls Try.prog 20 #[.pointer (some ⟨b, 0, none⟩), .int .i64 id, .int .i64 price] w fun e w' => e = .returned (.bool (m.can id price)) ∧ PurseAt w' b h (m.pay id price) ∧ Only (· = h) w w' := by
  by_cases hr : 0 ≤ id ∧ id < m.l.length
  · obtain ⟨h0, h1⟩ := hr
    obtain ⟨ch, fh⟩ := hp.at_ id.toNat (by omega)
    have hv := ok.has id
    rw [← PurseM.has_eq h0 h1] at ch
    by_cases hc : max price 0 ≤ m.has id
    · have hcan : m.can id price = true := by unfold PurseM.can; simp only [decide_eq_true_eq]; exact ⟨h0, h1, hc⟩
      refine (pay_yes b h m.l.length id _ w price h0 h1 ok.hi hp.cells.1 ch fh hv.1 hv.2 (by omega)).mono fun e w' ⟨he, hw⟩ => ?_
      rw [hcan]
      unfold PurseM.pay
      rw [if_pos hcan]
      exact ⟨he, (hp.put id _ h0 h1).alike hw, (only_set w h _ _).alike hw⟩
    · have hcan : m.can id price = false := by unfold PurseM.can; simp only [decide_eq_false_iff_not]; exact fun h => hc h.2.2
      refine (pay_no b h m.l.length id _ w price h0 h1 ok.hi hp.cells.1 ch hv.1 (by omega)).mono fun e w' ⟨he, hw⟩ => ?_
      subst hw
      rw [hcan]
      unfold PurseM.pay
      rw [hcan]
      exact ⟨he, hp, Only.refl _ _⟩
  · have hcan : m.can id price = false := by unfold PurseM.can; simp only [decide_eq_false_iff_not]; exact fun h => hr ⟨h.1, h.2.1⟩
    refine (pay_out b h m.l.length id w price (by omega) ok.hi hp.cells.1).mono fun e w' ⟨he, hw⟩ => ?_
    subst hw
    rw [hcan]
    unfold PurseM.pay
    rw [hcan]
    exact ⟨he, hp, Only.refl _ _⟩
end
end Go.Proofs.Ytmkbhejbbhikcaa
