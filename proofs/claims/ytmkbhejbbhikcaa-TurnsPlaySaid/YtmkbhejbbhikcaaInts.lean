/- The reference's lists of numbers: Find, Cut, Push, Same. Conditions: those of each theorem. -/
import Derived.Test.YtmkbhejbbhikcaaFifo4
import Derived.Test.YtmkbhejbbhikcaaRefP
import Derived.Maps.AppendAt
import Derived.Deep.AppendLies
namespace Go.Proofs.Ytmkbhejbbhikcaa
open Go.RowKit
set_option linter.unusedVariables false

section
variable {P : Program} (w : World)
theorem run_append_of_nil (base : Nat) (t ty e : TypeId) (i : TypeInfo) (size : Nat) (ht : P.underlying t = some (.slice e)) (hi : P.info? e = some i)
    (v : Value) (n : Nat) (xs : List Value) (hown : w.ownsRow base e size v n xs) (c : Nat) : (Builtin.append_ #[t, t] ty #[v, .slice none 0 c]).run P w = .ok v w := by
  rcases hown.2 with ⟨rfl, rfl⟩ | ⟨g, cap, cur, rfl, _, _, hnc, _⟩
  · simp [Builtin.append_, run_underlying ht, sizeOf, typeInfo, hi, Builtin.lenOf, Builtin.firstCells]
  · simp [Builtin.append_, run_underlying ht, sizeOf, typeInfo, hi, Builtin.lenOf, Builtin.firstCells, hnc, storeCells]
theorem run_append_rd (base : Nat) (t ty e : TypeId) (i : TypeInfo) (z : Value) (size bytes : Nat) (ht : P.underlying t = some (.slice e)) (hi : P.info? e = some i) (hz : i.zero = some z)
    (hsize : i.size = size) (hby : i.bytes = bytes) (hzs : z.cells.size = size) (hsz : 0 < size)
    (v : Value) (n : Nat) (xs : List Value) (hown : w.ownsRow base e size v n xs)
    (M : Nat → Prop) (A : Option Addr) (m c : Nat) (news : List Value) (hr : Rd w M A news) (hl : news.length = m * size) (h1 : ∀ u ∈ news, u.oneCell' = true)
    (h63 : n + m ≤ maxLen) (hbytes : (n + m) * bytes ≤ 140737488355328) (hbase : base ≤ w.heap.size) :
    ∃ v' w', (Builtin.append_ #[t, t] ty #[v, .slice A m c]).run P w = .ok v' w' ∧ w'.ownsRow base e size v' (n + m) (xs ++ news) ∧ w.grownBy w' v.ownBlock ∧
      (v'.ownBlock = v.ownBlock ∨ v'.ownBlock = some w.heap.size) := by
  rcases hr with hn | ⟨b, o, hA, _, _, hc⟩
  · subst hn
    have hm : m = 0 := by
      rcases Nat.eq_zero_or_pos m with h0 | h0
      · exact h0
      · have := Nat.mul_pos h0 hsz
        simp at hl; omega
    subst hm
    cases A with
    | none => exact ⟨v, w, run_append_of_nil w base t ty e i size ht hi v n xs hown c, by simpa using hown, World.grownBy.refl w _, .inl rfl⟩
    | some ad =>
      obtain ⟨v', w', hrun, h2, h3, _, h5⟩ := run_append_own_at (P := P) w base t ty e i z size bytes ht hi hz hsize hby hzs hsz v n xs hown ad 0 c [] (by simp) (by simp) (by simp) h63 hbytes hbase
      exact ⟨v', w', hrun, h2, h3, h5⟩
  · subst hA
    have hcells : ∀ j u, news[j]? = some u → w.cell? ((⟨b, o, none⟩ : Addr).add j) = some u := by
      intro j u hu
      rw [Addr.add_lit, ← hu]
      exact hc j (List.getElem?_eq_some_iff.1 hu).1
    obtain ⟨v', w', hrun, h2, h3, _, h5⟩ := run_append_own_at (P := P) w base t ty e i z size bytes ht hi hz hsize hby hzs hsz v n xs hown ⟨b, o, none⟩ m c news hl hcells h1 h63 hbytes hbase
    exact ⟨v', w', hrun, h2, h3, h5⟩
theorem wp_append_rd {o : Oper} {a : Act} {K : Act → World → Prop} {Q : Exit → Act → World → Prop} (s x : Operand) (t : TypeId)
    (ho : o.op = .call { callee := .builtin .append, args := #[s, x], argTypes := #[t, t] })
    (base : Nat) (e : TypeId) (i : TypeInfo) (z : Value) (size bytes : Nat) (ht : P.underlying t = some (.slice e)) (hi : P.info? e = some i) (hz : i.zero = some z)
    (hsize : i.size = size) (hby : i.bytes = bytes) (hzs : z.cells.size = size) (hsz : 0 < size)
    (v : Value) (n : Nat) (xs : List Value) (hs : a.eval s = v) (hown : w.ownsRow base e size v n xs)
    (M : Nat → Prop) (A : Option Addr) (m c : Nat) (news : List Value) (hx : a.eval x = .slice A m c) (hr : Rd w M A news) (hl : news.length = m * size) (h1 : ∀ u ∈ news, u.oneCell' = true)
    (h63 : n + m ≤ maxLen) (hbytes : (n + m) * bytes ≤ 140737488355328) (hbase : base ≤ w.heap.size)
    (h : ∀ v' w', w'.ownsRow base e size v' (n + m) (xs ++ news) → w.grownBy w' v.ownBlock → (v'.ownBlock = v.ownBlock ∨ v'.ownBlock = some w.heap.size) → K (a.put o.dst v') w') : o.wp P a w K Q := by
  obtain ⟨v', w', hrun, h2, h3, h4⟩ := run_append_rd (P := P) w base t o.type e i z size bytes ht hi hz hsize hby hzs hsz v n xs hown M A m c news hr hl h1 h63 hbytes hbase
  unfold Oper.wp execOp
  simp only [ho, resolve, invoke, builtin, Sem.run_bind, Sem.run_pure, Result.andThen_ok, List.map_toArray, List.map_cons, List.map_nil, hs, hx, hrun]
  exact h v' w' h2 h3 h4
theorem wpList_append_rd {ops : Array Oper} {rest : List Oper} {o : Oper} {a : Act} {Q : Exit → Act → World → Prop} (hgd : o.guard = none) (s x : Operand) (t : TypeId)
    (ho : o.op = .call { callee := .builtin .append, args := #[s, x], argTypes := #[t, t] })
    (base : Nat) (e : TypeId) (i : TypeInfo) (z : Value) (size bytes : Nat) (ht : P.underlying t = some (.slice e)) (hi : P.info? e = some i) (hz : i.zero = some z)
    (hsize : i.size = size) (hby : i.bytes = bytes) (hzs : z.cells.size = size) (hsz : 0 < size)
    (v : Value) (n : Nat) (xs : List Value) (hs : a.eval s = v) (hown : w.ownsRow base e size v n xs)
    (M : Nat → Prop) (A : Option Addr) (m c : Nat) (news : List Value) (hx : a.eval x = .slice A m c) (hr : Rd w M A news) (hl : news.length = m * size) (h1 : ∀ u ∈ news, u.oneCell' = true)
    (h63 : n + m ≤ maxLen) (hbytes : (n + m) * bytes ≤ 140737488355328) (hbase : base ≤ w.heap.size)
    (h : ∀ v' w', w'.ownsRow base e size v' (n + m) (xs ++ news) → w.grownBy w' v.ownBlock → (v'.ownBlock = v.ownBlock ∨ v'.ownBlock = some w.heap.size) → wpList P ops Q rest (a.put o.dst v') w') : wpList P ops Q (o :: rest) a w :=
  wpList_plain hgd fun _ hK => wp_append_rd w s x t ho base e i z size bytes ht hi hz hsize hby hzs hsz v n xs hs hown M A m c news hx hr hl h1 h63 hbytes hbase fun v' w' h2 h3 h4 => hK _ _ (h v' w' h2 h3 h4)
theorem step_append_rd {ops : Array Oper} {o : Oper} {a : Act} {K : Act → World → Prop} {Q : Exit → Act → World → Prop} {E : Prop} (hgd : o.guard = none) (s x : Operand) (t : TypeId)
    (ho : o.op = .call { callee := .builtin .append, args := #[s, x], argTypes := #[t, t] })
    (base : Nat) (e : TypeId) (i : TypeInfo) (z : Value) (size bytes : Nat) (ht : P.underlying t = some (.slice e)) (hi : P.info? e = some i) (hz : i.zero = some z)
    (hsize : i.size = size) (hby : i.bytes = bytes) (hzs : z.cells.size = size) (hsz : 0 < size)
    (v : Value) (n : Nat) (xs : List Value) (hs : a.eval s = v) (hown : w.ownsRow base e size v n xs)
    (M : Nat → Prop) (A : Option Addr) (m c : Nat) (news : List Value) (hx : a.eval x = .slice A m c) (hr : Rd w M A news) (hl : news.length = m * size) (h1 : ∀ u ∈ news, u.oneCell' = true)
    (h63 : n + m ≤ maxLen) (hbytes : (n + m) * bytes ≤ 140737488355328) (hbase : base ≤ w.heap.size)
    (h : ∀ v' w', w'.ownsRow base e size v' (n + m) (xs ++ news) → w.grownBy w' v.ownBlock → (v'.ownBlock = v.ownBlock ∨ v'.ownBlock = some w.heap.size) → K (a.put o.dst v') w') :
    if Region.wanted o (yielded ops a.tmps) = true then Oper.wp P o a w K Q else E := by
  have hw : Region.wanted o (yielded ops a.tmps) = true := by simp [Region.wanted, hgd]
  rw [if_pos hw]
  exact wp_append_rd w s x t ho base e i z size bytes ht hi hz hsize hby hzs hsz v n xs hs hown M A m c news hx hr hl h1 h63 hbytes hbase h
end
theorem own_empty {w : World} {base : Nat} {e : TypeId} {size : Nat} (h : base ≤ w.heap.size) : (w.alloc (.cells #[] e)).ownsRow base e size (.slice (some ⟨w.heap.size, 0, none⟩) 0 0) 0 [] :=
  ⟨by simp, Or.inr ⟨w.heap.size, 0, #[], rfl, h, heap_alloc_new _ _, Nat.le_refl _, by unfold maxLen; omega, by simp, by simp⟩⟩
theorem own_empty' {w : World} {base g : Nat} {e : TypeId} {size : Nat} (h : base ≤ w.heap.size) (hg : g = w.heap.size) : (w.alloc (.cells #[] e)).ownsRow base e size (.slice (some ⟨g, 0, none⟩) 0 0) 0 [] := by
  subst hg; exact own_empty h
theorem Rd.alloc {w : World} {M : Nat → Prop} {A : Option Addr} {xs : List Value} (h : Rd w M A xs) (o : Obj) : Rd (w.alloc o) M A xs := h.only ((Only.refl NoBlk _).alloc o) (fun _ h => h.elim)
/-- a new block of one number reads as it -/
theorem rd_blk {w : World} {M : Nat → Prop} {g : Nat} {t : TypeId} {x : Value} (h : Blk w g t #[x]) (hm : ¬ M g) : Rd w M (some ⟨g, 0, none⟩) [x] :=
  Or.inr ⟨g, 0, rfl, hm, h.lt, fun j hj => by
    have : j = 0 := by simp at hj; omega
    subst this
    rw [h.cell]; rfl⟩

theorem rd_ints {w : World} {M : Nat → Prop} {A : Option Addr} {L : List Int} (h : Rd w M A (ints L)) : ∀ k, k < L.length → ∃ b o, A = some ⟨b, o, none⟩ ∧ b < w.heap.size ∧ w.cell? ⟨b, o + k, none⟩ = some (.int .i64 (nth L k)) := by
  intro k hk
  obtain ⟨b, o, hA, _, hb, hc⟩ := h.at_ (j := k) (by rw [ints_len]; exact hk)
  exact ⟨b, o, hA, hb, by rw [hc k (by rw [ints_len]; exact hk)]; exact ints_at L k hk⟩
theorem not_take {L : List Int} {id : Int} {k : Nat} (h : id ∉ L.take k) (hk : k < L.length) (hne : nth L k ≠ id) : id ∉ L.take (k + 1) := by
  rw [List.take_succ_eq_append_getElem hk]
  intro hx
  rcases List.mem_append.1 hx with hx | hx
  · exact h hx
  · rw [nth_of_lt hk] at hne
    rw [List.mem_singleton] at hx
    exact hne hx.symm
theorem find_at {L : List Int} {id : Int} {k : Nat} (h : id ∉ L.take k) (hk : k < L.length) (he : nth L k = id) : findI L id = k := by
  unfold findI
  have hm : id ∈ L := by rw [← he, nth_of_lt hk]; exact List.getElem_mem _
  rw [if_pos hm]
  have hL : L = L.take k ++ id :: L.drop (k + 1) := by
    have := List.take_append_drop k L
    rw [List.drop_eq_getElem_cons hk, ← nth_of_lt hk, he] at this
    exact this.symm
  have e : L.idxOf id = k := by
    rw [hL]
    have hl : (L.take k).length = k := by rw [List.length_take]; omega
    simp [List.idxOf_append, h, hl]
  rw [e]

section
variable (M : Nat → Prop) (id : Int) (A : Option Addr) (c : Nat) (L : List Int) (w : World) (hr : Rd w M A (ints L)) (hn : L.length ≤ 100000)
include hr hn
theorem Find_c : Calls Try.prog 60 #[.slice A L.length c, .int .i64 id] w fun e w' => e = .returned (.int .i64 (findI L id)) ∧ w = w' := by
  have Hc := hide (rd_ints hr)
  obtain ⟨n, hnl⟩ : ∃ n, n = L.length := ⟨_, rfl⟩
  rw [← hnl] at hn ⊢
  have Hn := hide hnl
  clear hnl hr
  go_enter Try.func60, Try.ntmps60
  go_wp2
  go_loop [5] (fun i => ∃ k : Nat, k ≤ n ∧ i = .int .i64 k ∧ Hid (id ∉ L.take k)) (fun i => n - (intOf i).toNat)
  case atStart => exact ⟨0, Nat.zero_le _, rfl, hide (by simp)⟩
  case round =>
    obtain ⟨k, hk, rfl, hh⟩ := hrel
    by_cases hlt : k < n
    · obtain ⟨b, o, rfl, hb, h1⟩ := Hc.out k (by rw [← Hn.out]; exact hlt)
      by_cases he : nth L k = id
      · have hb2 : (nth L k == id) = true := by simp [he]
        have HE := hide he
        clear he
        go_wp2
        go_ret
        exact ⟨ret_int (find_at hh.out (by rw [← Hn.out]; exact hlt) HE.out).symm, rfl⟩
      · have hb2 : (nth L k == id) = false := by simp [he]
        have HE := hide he
        clear he
        go_wp2
        go_round
        case rel => exact ⟨k + 1, by omega, by go_num, hide (not_take hh.out (by rw [← Hn.out]; exact hlt) HE.out)⟩
        case measure => simp [intOf]; omega
    · have hd_ : decide ((k : Int) < n) = false := by simp; omega
      go_wp2
      go_ret
      refine ⟨ret_int ?_, rfl⟩
      have := hh.out
      rw [List.take_of_length_le (by rw [← Hn.out]; omega)] at this
      unfold findI
      rw [if_neg this]

def cutI (L : List Int) (id : Int) : List Int := L.filter fun x => decide (x ≠ id)
omit hr hn in
theorem cutI_yes (L : List Int) (id : Int) (k : Nat) (h : k < L.length) (he : nth L k ≠ id) : cutI (L.take (k + 1)) id = cutI (L.take k) id ++ [nth L k] := by
  unfold cutI
  rw [List.take_succ_eq_append_getElem h, List.filter_append, nth_of_lt h]
  rw [nth_of_lt h] at he
  simp [he]
omit hr hn in
theorem cutI_no (L : List Int) (id : Int) (k : Nat) (h : k < L.length) (he : nth L k = id) : cutI (L.take (k + 1)) id = cutI (L.take k) id := by
  unfold cutI
  rw [List.take_succ_eq_append_getElem h, List.filter_append]
  rw [nth_of_lt h] at he
  simp [he]
omit hr hn in
theorem cutI_le (L : List Int) (id : Int) (k : Nat) : (cutI (L.take k) id).length ≤ k := by
  have h1 := List.length_filter_le (fun x : Int => decide (x ≠ id)) (L.take k)
  have h2 := List.length_take_le k L
  unfold cutI
  omega
set_option maxHeartbeats 800000 in
theorem CutI_c (hM : ∀ k, M k → k < w.heap.size) : Calls Try.prog 61 #[.slice A L.length c, .int .i64 id] w (RetI M (cutI L id) w) := by
  have Hc := hide (rd_ints hr)
  have HM := hide hM
  obtain ⟨i0, hi, hz0, hz1, hz2⟩ := info_parts Try.infoInt
  obtain ⟨n, hnl⟩ : ∃ n, n = L.length := ⟨_, rfl⟩
  rw [← hnl] at hn ⊢
  have Hn := hide hnl
  clear hnl hr hM
  go_enter Try.func61, Try.ntmps61
  go_wp2
  go_loopw [5, 6] (fun v i wr => ∃ k : Nat, k ≤ n ∧ i = .int .i64 k ∧ wr.ownsRow w.heap.size 3 1 v (cutI (L.take k) id).length (ints (cutI (L.take k) id)) ∧ Below w.heap.size w wr) (fun _ i _ => n - (intOf i).toNat)
  case atStart =>
    refine ⟨0, Nat.zero_le _, rfl, ?_, (Below.refl _ _).alloc (Nat.le_refl _) _⟩
    exact ⟨rfl, Or.inr ⟨w.heap.size, 0, #[], rfl, Nat.le_refl _, heap_alloc_new _ _, Nat.le_refl _, by unfold maxLen; omega, rfl, rfl⟩⟩
  case round =>
    obtain ⟨k, hk, rfl, hown, hbel⟩ := hrel
    have hle := cutI_le L id k
    by_cases hlt : k < n
    · obtain ⟨b, o, rfl, hb, h1⟩ := Hc.out k (by rw [← Hn.out]; exact hlt)
      replace h1 := (hbel.cell (p := ⟨b, o + k, none⟩) hb).trans h1
      by_cases he : nth L k = id
      · have hb2 : (nth L k != id) = false := by simp [he]
        have HC := hide (cutI_no L id k (by rw [← Hn.out]; exact hlt) he)
        clear he
        go_wp2
        go_roundw
        case rel => exact ⟨k + 1, by omega, by go_num, by rw [HC.out]; exact hown, hbel⟩
        case measure => simp [intOf]; omega
      · have hb2 : (nth L k != id) = true := by simp [he]
        have HC := hide (cutI_yes L id k (by rw [← Hn.out]; exact hlt) he)
        clear he
        go_wp2_with (at_builtin; refine wpList_append_own _ rfl _ _ 73 rfl w.heap.size 3 i0 (.int .i64 0) 1 8 Try.underlying73 hi hz0 hz1 hz2 rfl (by decide) _ _ _ rfl (hown.alloc _) ⟨wr.heap.size, 0, none⟩ 1 1 [.int .i64 (nth L k)] rfl rfl ?c1 ?c2 ?c3 ?c4 ?c5 ?_)
        case c1 =>
          intro j u hj
          match j, hj with
          | 0, hj => simp at hj; subst hj; simp [Addr.add]
        case c2 => intro u hu; simp at hu; subst hu; rfl
        case c3 => unfold maxLen; omega
        case c4 => omega
        case c5 => have := hbel.size; simp; omega
        intro v' w1 hown' hgrow _
        have hbel' := below_append hbel hown hbel.size (Nat.le_refl _) hgrow
        clear hgrow hown h1
        go_wp2
        go_roundw
        case rel => exact ⟨k + 1, by omega, by go_num, by rw [HC.out, ints_append, List.length_append]; exact hown', hbel'⟩
        case measure => simp [intOf]; omega
    · have hd_ : decide ((k : Int) < n) = false := by simp; omega
      obtain rfl : k = n := by omega
      obtain ⟨A1, cc1, rfl, hcap⟩ := own_cap hown
      have Hr := hide (Rd.of_own hown HM.out)
      go_wp2
      go_ret
      have e : L.take k = L := List.take_of_length_le (by rw [← Hn.out]; exact Nat.le_refl _)
      rw [e] at hcap
      rw [e]
      have h2 := Hr.out
      rw [e] at h2
      exact ⟨A1, cc1, rfl, h2, hbel, hcap⟩

/-- a list and a bool that are returned -/
def RetIB (M : Nat → Prop) (L : List Int) (ok : Bool) (w : World) (e : Ending) (w' : World) : Prop :=
  ∃ A c, e = .returned (.tuple #[.slice A L.length c, .bool ok]) ∧ Rd w' M A (ints L) ∧ Below w.heap.size w w' ∧ L.length ≤ c
def comesI (most : Int) (L : List Int) (id : Int) : Bool := decide (0 ≤ id ∧ id < most ∧ id ∉ L)
def pushI (most : Int) (L : List Int) (id : Int) : List Int := if 0 ≤ id ∧ id < most ∧ id ∉ L then L ++ [id] else L
omit hr hn in
theorem findI_lo {L : List Int} {id : Int} (h : id ∉ L) : findI L id = -1 := by unfold findI; rw [if_neg h]
omit hr hn in
theorem findI_hi {L : List Int} {id : Int} (h : id ∈ L) : 0 ≤ findI L id := by unfold findI; rw [if_pos h]; omega
set_option maxHeartbeats 800000 in
theorem PushI_c (most : Int) (hcap0 : L.length ≤ c) (hM : ∀ k, M k → k < w.heap.size) : Calls Try.prog 58 #[.slice A L.length c, .int .i64 most, .int .i64 id] w (RetIB M (pushI most L id) (comesI most L id) w) := by
  have Hr := hide hr
  have HM := hide hM
  have Hlen := hide (ints_len L)
  obtain ⟨i0, hi, hz0, hz1, hz2⟩ := info_parts Try.infoInt
  clear hr hM
  have no : comesI most L id = false → pushI most L id = L → Rd w M A (ints L) → RetIB M (pushI most L id) (comesI most L id) w (.returned (.tuple #[.slice A L.length c, .bool false])) w := by
    intro e1 e2 h
    rw [e1, e2]
    exact ⟨A, c, rfl, h, Below.refl _ _, hcap0⟩
  have No := hide no
  clear no
  by_cases h0 : id < 0
  · have E1 := hide (show comesI most L id = false by unfold comesI; rw [decide_eq_false]; omega)
    have E2 := hide (show pushI most L id = L by unfold pushI; rw [if_neg (by omega)])
    go_enter Try.func58, Try.ntmps58
    go_wp2_with fail
    go_ret2
    exact No.out E1.out E2.out Hr.out
  · have h0d : decide (id < 0) = false := by simp; omega
    by_cases h1 : most ≤ id
    · have E1 := hide (show comesI most L id = false by unfold comesI; rw [decide_eq_false]; omega)
      have E2 := hide (show pushI most L id = L by unfold pushI; rw [if_neg (by omega)])
      go_enter Try.func58, Try.ntmps58
      go_wp2_with fail
      go_ret2
      exact No.out E1.out E2.out Hr.out
    · have h1d : decide (most ≤ id) = false := by simp; omega
      by_cases hin : id ∈ L
      · have E1 := hide (show comesI most L id = false by unfold comesI; rw [decide_eq_false]; exact fun h => h.2.2 hin)
        have E2 := hide (show pushI most L id = L by unfold pushI; rw [if_neg (fun h => h.2.2 hin)])
        have hf := findI_hi hin
        clear hin
        go_enter Try.func58, Try.ntmps58
        go_wp2_with fail
        refine (Find_c M id A c L _ Hr.out hn).mono ?_
        rintro e w1 ⟨rfl, rfl⟩
        go_wp2_with fail
        go_ret2
        exact No.out E1.out E2.out Hr.out
      · have E1 := hide (show comesI most L id = true by unfold comesI; rw [decide_eq_true]; exact ⟨by omega, by omega, hin⟩)
        have E2 := hide (show pushI most L id = L ++ [id] by unfold pushI; rw [if_pos ⟨by omega, by omega, hin⟩])
        have HF := hide (findI_lo hin)
        clear hin No
        go_enter Try.func58, Try.ntmps58
        go_wp2_with fail
        refine (Find_c M id A c L _ Hr.out hn).mono ?_
        rintro e w1 ⟨rfl, rfl⟩
        rw [HF.out]
        obtain ⟨W, hW⟩ : ∃ W, W = w.alloc (.cells #[] 3) := ⟨_, rfl⟩
        have hown0 : W.ownsRow w.heap.size 3 1 (.slice (some ⟨w.heap.size, 0, none⟩) 0 0) 0 [] := by
          rw [hW]
          exact ⟨rfl, Or.inr ⟨w.heap.size, 0, #[], rfl, Nat.le_refl _, heap_alloc_new _ _, Nat.le_refl _, by unfold maxLen; omega, rfl, rfl⟩⟩
        have hbW : Below w.heap.size w W := by rw [hW]; exact (Below.refl _ _).alloc (Nat.le_refl _) _
        have hsW : w.heap.size < W.heap.size := by rw [hW]; simp
        have hrW : Rd W M A (ints L) := Hr.out.below hbW
        have HW := hide hW
        have Hb := hide hbW
        have Hone := hide (ints_one L)
        clear hW hbW
        go_wp2_with (first
          | (at_builtin
             rw [← HW.out]
             refine wpList_append_rd _ rfl (.tmp 22) (.tmp 23) _ rfl w.heap.size 3 i0 _ 1 8 Try.underlying73 hi hz0 hz1 hz2 rfl (by omega) (.slice (some ⟨w.heap.size, 0, none⟩) 0 0) 0 [] rfl hown0 M A L.length c (ints L) rfl hrW (by rw [Hlen.out]; omega) Hone.out (by simp only [maxLen]; omega) (by omega) (by omega) ?_
             intro v1 w1 hown1 hg1 hat1
             simp only [Nat.zero_add, List.nil_append] at hown1)
          | (at_builtin
             refine wpList_append_own _ rfl (.tmp 24) (.tmp 26) 73 rfl w.heap.size 3 i0 (.int .i64 0) 1 8 Try.underlying73 hi hz0 hz1 hz2 rfl (by decide) _ _ _ rfl (hown1.alloc _) ⟨w1.heap.size, 0, none⟩ 1 1 [.int .i64 id] rfl rfl ?c1 ?c2 ?c3 ?c4 ?c5 ?_))
        case c1 =>
          intro j u hj
          match j, hj with
          | 0, hj => simp at hj; subst hj; simp [Addr.add]
        case c2 => intro u hu; simp at hu; subst hu; rfl
        case c3 => unfold maxLen; omega
        case c4 => omega
        case c5 => have := hg1.size; simp; omega
        intro v' w2 hown2 hgrow _
        have hb1 : Below w.heap.size w w1 := Hb.out.grown hg1 (by omega) (fun k hk => own_ge hown0 k hk)
        have hb2 := below_append hb1 hown1 hb1.size (Nat.le_refl _) hgrow
        obtain ⟨A2, cc2, rfl, hcap⟩ := own_cap hown2
        clear hgrow hg1 hown1 hown0 hrW
        go_wp2_with fail
        go_ret2
        rw [E1.out, E2.out]
        refine ⟨A2, cc2, by simp, ?_, hb2, by simpa using hcap⟩
        have := Rd.of_own hown2 HM.out
        rw [ints_append]
        exact this
end
end Go.Proofs.Ytmkbhejbbhikcaa
