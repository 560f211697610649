/- Place, List and New of a row. Conditions: those of each theorem. -/
import Derived.Test.YtmkbhejbbhikcaaFifo3
namespace Go.Proofs.Ytmkbhejbbhikcaa
open Go.RowKit
set_option linter.unusedVariables false

theorem seg_prev {nx pv : List Int} (A : List Int) : ∀ (p : Int) (e : Int) (m : Nat), Seg nx pv p A e → m < A.length → at_ pv (lst p (A.take (m + 1))) = lst p (A.take m) := by
  induction A with
  | nil => intro p e m _ hm; simp at hm
  | cons x r ih =>
    intro p e m hs hm
    cases m with
    | zero => exact hs.1
    | succ m => exact ih x e m hs.2.2 (by simpa using hm)
theorem seg_next {nx pv : List Int} (A : List Int) : ∀ (p : Int) (e : Int) (m : Nat), Seg nx pv p A e → m < A.length → at_ nx (hd (A.drop m) e) = hd (A.drop (m + 1)) e := by
  induction A with
  | nil => intro p e m _ hm; simp at hm
  | cons x r ih =>
    intro p e m hs hm
    cases m with
    | zero => exact hs.2.1
    | succ m => exact ih x e m hs.2.2 (by simpa using hm)
theorem lst_take_mem (A : List Int) : ∀ (p : Int) (m : Nat), 0 < m → m ≤ A.length → lst p (A.take m) ∈ A := by
  intro p m h0 h1
  rcases lst_mem p (A.take m) with h | h
  · have := h.2
    have hl : (A.take m).length = m := by rw [List.length_take]; omega
    rw [this] at hl; simp at hl; omega
  · exact List.mem_of_mem_take h
theorem hd_drop_mem (A : List Int) (e : Int) (m : Nat) (h : m < A.length) : hd (A.drop m) e = nth A m ∧ nth A m ∈ A := by
  rw [List.drop_eq_getElem_cons h, nth_of_lt h]
  exact ⟨rfl, List.getElem_mem _⟩

def findI (L : List Int) (id : Int) : Int := if id ∈ L then (L.idxOf id : Int) else -1

section
variable {w : World} {b nb pb ib N : Nat} {L : List Int}
set_option maxHeartbeats 400000 in
theorem place_walk (A : List Int) (id : Int) (h0 : 0 ≤ id) (h1 : id < N) (hA : A.length ≤ 1024) (c1 : w.cell? ⟨b, 1, none⟩ = some (.slice (some ⟨pb, 0, none⟩) N N)) (c2 : w.cell? ⟨b, 2, none⟩ = some (.slice (some ⟨ib, 0, none⟩) N N))
    (hc : w.cell? ⟨ib, id.toNat, none⟩ = some (.bool true)) (hp : w.cell? ⟨pb, id.toNat, none⟩ = some (.int .i64 (lst (-1) A)))
    (hcell : ∀ m, m < A.length → 0 ≤ lst (-1) (A.take (m + 1)) ∧ lst (-1) (A.take (m + 1)) < N ∧ w.cell? ⟨pb, (lst (-1) (A.take (m + 1))).toNat, none⟩ = some (.int .i64 (lst (-1) (A.take m)))) :
    Calls Try.prog 50 #[.pointer (some ⟨b, 0, none⟩), .int .i64 id] w fun e w' => e = .returned (.int .i64 A.length) ∧ w = w' := by
  have Hc := hide hcell
  clear hcell
  go_enter Try.func50, Try.ntmps50
  go_wp2
  go_loop [5, 6] (fun n a => ∃ j : Nat, j ≤ A.length ∧ n = .int .i64 j ∧ a = .int .i64 (lst (-1) (A.take (A.length - j)))) (fun n _ => A.length - (intOf n).toNat)
  case atStart => exact ⟨0, Nat.zero_le _, rfl, by simp⟩
  case round =>
    obtain ⟨j, hj, rfl, rfl⟩ := hrel
    by_cases hlt : j < A.length
    · obtain ⟨m, hm⟩ : ∃ m, A.length = m + j + 1 := ⟨A.length - j - 1, by omega⟩
      obtain ⟨x0, x1, hx⟩ := Hc.out m (by omega)
      have e1 : A.length - j = m + 1 := by omega
      have e2 : A.length - (j + 1) = m := by omega
      rw [e1]
      obtain ⟨x, hxx⟩ : ∃ x, x = lst (-1) (A.take (m + 1)) := ⟨_, rfl⟩
      rw [← hxx] at x0 x1 hx ⊢
      have E2 := hide e2
      have hxb : (x != -1) = true := by simp; omega
      clear hxx hm e1 e2
      go_wp2
      go_round
      case rel => exact ⟨j + 1, by omega, by go_num, by rw [E2.out]⟩
      case measure => simp [intOf]; omega
    · have e1 : A.length - j = 0 := by omega
      have e2 : j = A.length := by omega
      rw [e1]
      have hl : lst (-1) (A.take 0) = -1 := rfl
      rw [hl]
      have E2 := hide e2
      clear e1 e2 hl
      go_wp2
      go_ret
      exact ⟨by rw [E2.out]; rfl, rfl⟩
theorem Place_c (id : Int) (h : FifoAt w b nb pb ib N L) : Calls Try.prog 50 #[.pointer (some ⟨b, 0, none⟩), .int .i64 id] w fun e w' => e = .returned (.int .i64 (findI L id)) ∧ w = w' := by
  have c2 := h.see.1
  unfold findI
  rcases inside h id with ⟨h0, hn⟩ | ⟨h0, h1, hn⟩ | ⟨h0, h1, hc, hn⟩ | ⟨h0, h1, hc, hn⟩
  · rw [if_neg hn]
    clear h hn
    go_enter Try.func50, Try.ntmps50
    go_wp2
    go_ret
    exact ⟨rfl, rfl⟩
  · rw [if_neg hn]
    have hd : decide (id < (N : Int)) = false := by simp; omega
    clear h hn h1
    go_enter Try.func50, Try.ntmps50
    go_wp2
    go_ret
    exact ⟨rfl, rfl⟩
  · rw [if_neg hn]
    clear h hn
    go_enter Try.func50, Try.ntmps50
    go_wp2
    go_ret
    exact ⟨rfl, rfl⟩
  · rw [if_pos hn]
    obtain ⟨q, hm, hr⟩ := h.ex
    obtain ⟨⟨c0, c1, _⟩, _⟩ := hm.cells
    obtain ⟨A, B, hL, hA⟩ := List.append_of_mem hn |>.imp fun A h => h.imp fun B h => And.intro h (show id ∉ A by
      have := hr.nd
      rw [h, List.nodup_append] at this
      exact fun hx => this.2.2 id hx id (by simp) rfl)
    have hfew := nodup_len L N hr.nd hr.rng
    have hNi := hr.hi
    subst hL
    have hlen : (A ++ id :: B).length = A.length + B.length + 1 := by simp; omega
    have hidx : (A ++ id :: B).idxOf id = A.length := by
      simp [List.idxOf_append, hA]
    rw [hidx]
    have hs := hr.seg
    rw [Seg_append] at hs
    have hp := hm.pv_at hr.lp h0 h1
    rw [hr.cut_links.1] at hp
    refine place_walk A id h0 h1 (by omega) c1 c2 hc hp (fun m hmA => ?_)
    have hmem := lst_take_mem A (-1) (m + 1) (by omega) (by omega)
    have hx := hr.rng _ (show lst (-1) (A.take (m + 1)) ∈ A ++ id :: B by simp [hmem])
    refine ⟨hx.1, hx.2, ?_⟩
    rw [hm.pv_at hr.lp hx.1 hx.2, seg_prev A _ _ m hs.1 hmA]
theorem fPlace_nil (id : Int) (w : World) : Calls Try.prog 50 #[.pointer none, .int .i64 id] w fun e w' => e = .returned (.int .i64 (-1)) ∧ w = w' := by
  go_enter Try.func50, Try.ntmps50
  go_wp2
  go_ret
  exact ⟨rfl, rfl⟩

theorem own_cap {w : World} {base size n : Nat} {e : TypeId} {v : Value} {xs : List Value} (h : w.ownsRow base e size v n xs) : ∃ A c, v = .slice A n c ∧ n ≤ c := by
  rcases h.2 with ⟨hv, hn⟩ | ⟨g, cap, cur, hv, _, _, hnc, _⟩
  · exact ⟨none, 0, by rw [hv, hn], by omega⟩
  · exact ⟨_, cap, hv, hnc⟩
/-- numbers as cells -/
def ints (L : List Int) : List Value := L.map (Value.int .i64)
theorem ints_len (L : List Int) : (ints L).length = L.length := by simp [ints]
theorem ints_at (L : List Int) (k : Nat) (h : k < L.length) : (ints L)[k]? = some (.int .i64 (nth L k)) := by simp [ints, nth, List.getD, h]
theorem ints_append (A B : List Int) : ints (A ++ B) = ints A ++ ints B := by simp [ints]
theorem ints_one (L : List Int) : ∀ u ∈ ints L, u.oneCell' = true := ints_oneCell .i64 L
/-- a list of numbers is returned -/
def RetI (M : Nat → Prop) (L : List Int) (w : World) (e : Ending) (w' : World) : Prop :=
  ∃ A c, e = .returned (.slice A L.length c) ∧ Rd w' M A (ints L) ∧ Below w.heap.size w w' ∧ L.length ≤ c

theorem fList_nil (w : World) : Calls Try.prog 52 #[.pointer none] w fun e w' => e = .returned (.slice none 0 0) ∧ w = w' := by
  go_enter Try.func52, Try.ntmps52
  go_wp2
  go_ret
  exact ⟨rfl, rfl⟩
set_option maxHeartbeats 800000 in
theorem list_walk (M : Nat → Prop) (hM : ∀ k, M k → k < w.heap.size) (hL : L.length ≤ 1024) (hbb : b < w.heap.size) (hbn : nb < w.heap.size) (c0 : w.cell? ⟨b, 0, none⟩ = some (.slice (some ⟨nb, 0, none⟩) N N)) (c3 : w.cell? ⟨b, 3, none⟩ = some (.int .i64 (hd L (-1))))
    (c5 : w.cell? ⟨b, 5, none⟩ = some (.int .i64 L.length))
    (hcell : ∀ m, m < L.length → 0 ≤ nth L m ∧ nth L m < N ∧ hd (L.drop m) (-1) = nth L m ∧ w.cell? ⟨nb, (nth L m).toNat, none⟩ = some (.int .i64 (hd (L.drop (m + 1)) (-1)))) :
    Calls Try.prog 52 #[.pointer (some ⟨b, 0, none⟩)] w (RetI M L w) := by
  obtain ⟨i0, hi, hz0, hz1, hz2⟩ := info_parts Try.infoInt
  have Hc := hide hcell
  obtain ⟨n, hn⟩ : ∃ n, n = L.length := ⟨_, rfl⟩
  rw [← hn] at hL c5
  have Hn := hide hn
  clear hcell hn
  go_enter Try.func52, Try.ntmps52
  go_wp2
  go_loopw [3, 4, 5] (fun v a i wr => ∃ k : Nat, k ≤ n ∧ i = .int .i64 k ∧ a = .int .i64 (hd (L.drop k) (-1)) ∧ wr.ownsRow w.heap.size 3 1 v k (ints (L.take k)) ∧ Below w.heap.size w wr) (fun _ _ i _ => n - (intOf i).toNat)
  case atStart => exact ⟨0, Nat.zero_le _, rfl, rfl, World.ownsRow_nil _ _ _ _, Below.refl _ _⟩
  case round =>
    obtain ⟨k, hk, rfl, rfl, hown, hbel⟩ := hrel
    have k0 := (hbel.cell (p := ⟨b, 0, none⟩) hbb).trans c0
    have k5 := (hbel.cell (p := ⟨b, 5, none⟩) hbb).trans c5
    by_cases hlt : k < n
    · obtain ⟨x0, x1, hx, hc⟩ := Hc.out k (by rw [← Hn.out]; exact hlt)
      rw [hx]
      have hc' := (hbel.cell (p := ⟨nb, (nth L k).toNat, none⟩) hbn).trans hc
      obtain ⟨x, hxx⟩ : ∃ x, x = nth L k := ⟨_, rfl⟩
      rw [← hxx] at x0 x1 hc' ⊢
      have ht : ints (L.take (k + 1)) = ints (L.take k) ++ [.int .i64 x] := by
        rw [List.take_succ_eq_append_getElem (by rw [← Hn.out]; exact hlt), ints_append, hxx, nth_of_lt (by rw [← Hn.out]; exact hlt)]; rfl
      have HT := hide ht
      clear hxx hc hx ht
      go_wp2_with (at_builtin; refine wpList_append_own _ rfl _ _ 73 rfl w.heap.size 3 i0 (.int .i64 0) 1 8 Try.underlying73 hi hz0 hz1 hz2 rfl (by decide) _ _ _ rfl (hown.alloc _) ⟨wr.heap.size, 0, none⟩ 1 1 [.int .i64 x] rfl rfl ?c1 ?c2 ?c3 ?c4 ?c5 ?_)
      case c1 =>
        intro j u hj
        match j, hj with
        | 0, hj => simp at hj; subst hj; simp [Addr.add]
      case c2 => intro u hu; simp at hu; subst hu; rfl
      case c3 => unfold maxLen; omega
      case c4 => omega
      case c5 => have := hbel.size; simp; omega
      intro v' w1 hown' hgrow _
      have hbel' := below_append hbel hown hbel.size (Nat.le_refl _) hgrow
      have q0 := (hbel'.cell (p := ⟨b, 0, none⟩) hbb).trans c0
      have q5 := (hbel'.cell (p := ⟨nb, x.toNat, none⟩) hbn).trans ((hbel.cell (p := ⟨nb, x.toNat, none⟩) hbn).symm.trans hc')
      clear hgrow hown k0 k5 hc'
      go_wp2
      go_roundw
      case rel => exact ⟨k + 1, by omega, by go_num, rfl, by rw [HT.out]; exact hown', hbel'⟩
      case measure => simp [intOf]; omega
    · have hd_ : decide ((k : Int) < n) = false := by simp; omega
      obtain rfl : k = n := by omega
      obtain ⟨A1, cc1, rfl, hcap⟩ := own_cap hown
      have hr : Rd wr M A1 (ints (L.take k)) := Rd.of_own hown hM
      have Hr := hide hr
      clear hr
      go_wp2
      go_ret
      refine ⟨A1, cc1, by rw [Hn.out]; rfl, ?_, hbel, by rw [← Hn.out]; exact hcap⟩
      have := Hr.out
      rwa [List.take_of_length_le (by rw [← Hn.out]; exact Nat.le_refl _)] at this
theorem List_c (M : Nat → Prop) (hM : ∀ k, M k → k < w.heap.size) (h : FifoAt w b nb pb ib N L) : Calls Try.prog 52 #[.pointer (some ⟨b, 0, none⟩)] w (RetI M L w) := by
  obtain ⟨q, hm, hr⟩ := h.ex
  obtain ⟨⟨c0, c1, _⟩, _⟩ := hm.cells
  have hfew := nodup_len L N hr.nd hr.rng
  have hNi := hr.hi
  refine list_walk M hM (by omega) hm.own.lt hm.nx.lt c0 h.see.2.1 h.see.2.2.1 (fun m hmL => ?_)
  obtain ⟨e1, e2⟩ := hd_drop_mem L (-1) m hmL
  have hx := hr.rng _ e2
  refine ⟨hx.1, hx.2, e1, ?_⟩
  have hs := seg_next L _ _ m hr.seg hmL
  rw [e1] at hs
  rw [hm.nx_at hr.ln hx.1 hx.2, hs]
end
end Go.Proofs.Ytmkbhejbbhikcaa
