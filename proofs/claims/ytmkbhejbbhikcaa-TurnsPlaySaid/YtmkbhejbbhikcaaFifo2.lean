/- A row in memory, as a list: what Push and cut come to. Conditions: those of each theorem. -/
import Derived.Test.YtmkbhejbbhikcaaFifoCut
namespace Go.Proofs.Ytmkbhejbbhikcaa
open Go.RowKit
set_option linter.unusedVariables false

def FS (b nb pb ib : Nat) : Nat → Prop := fun k => k = b ∨ k = nb ∨ k = pb ∨ k = ib
section
variable {w : World} {b nb pb ib N : Nat} {q : FifoC}
theorem FifoM.set_nx (h : FifoM w b nb pb ib q N) (x : Nat) (v : Int) : FifoM (w.setCell ⟨nb, x, none⟩ (.int .i64 v)) b nb pb ib { q with nx := q.nx.set x v } N :=
  ⟨h.own.far h.d1 _, by have := h.nx.set_ x (.int .i64 v); rwa [nums_set] at this, h.pv.far (fun e => h.d4 e.symm) _, h.inn.far (fun e => h.d5 e.symm) _, h.d1, h.d2, h.d3, h.d4, h.d5, h.d6⟩
theorem FifoM.set_pv (h : FifoM w b nb pb ib q N) (x : Nat) (v : Int) : FifoM (w.setCell ⟨pb, x, none⟩ (.int .i64 v)) b nb pb ib { q with pv := q.pv.set x v } N :=
  ⟨h.own.far h.d2 _, h.nx.far h.d4 _, by have := h.pv.set_ x (.int .i64 v); rwa [nums_set] at this, h.inn.far (fun e => h.d6 e.symm) _, h.d1, h.d2, h.d3, h.d4, h.d5, h.d6⟩
theorem FifoM.set_in (h : FifoM w b nb pb ib q N) (x : Nat) (v : Bool) : FifoM (w.setCell ⟨ib, x, none⟩ (.bool v)) b nb pb ib { q with inn := q.inn.set x v } N :=
  ⟨h.own.far h.d3 _, h.nx.far h.d5 _, h.pv.far h.d6 _, by have := h.inn.set_ x (.bool v); rwa [bools_set] at this, h.d1, h.d2, h.d3, h.d4, h.d5, h.d6⟩
theorem FifoM.set_first (h : FifoM w b nb pb ib q N) (v : Int) : FifoM (w.setCell ⟨b, 3, none⟩ (.int .i64 v)) b nb pb ib { q with first := v } N :=
  ⟨h.own.set_ 3 _, h.nx.far (fun e => h.d1 e.symm) _, h.pv.far (fun e => h.d2 e.symm) _, h.inn.far (fun e => h.d3 e.symm) _, h.d1, h.d2, h.d3, h.d4, h.d5, h.d6⟩
theorem FifoM.set_last (h : FifoM w b nb pb ib q N) (v : Int) : FifoM (w.setCell ⟨b, 4, none⟩ (.int .i64 v)) b nb pb ib { q with last := v } N :=
  ⟨h.own.set_ 4 _, h.nx.far (fun e => h.d1 e.symm) _, h.pv.far (fun e => h.d2 e.symm) _, h.inn.far (fun e => h.d3 e.symm) _, h.d1, h.d2, h.d3, h.d4, h.d5, h.d6⟩
theorem FifoM.set_n (h : FifoM w b nb pb ib q N) (v : Int) : FifoM (w.setCell ⟨b, 5, none⟩ (.int .i64 v)) b nb pb ib { q with n := v } N :=
  ⟨h.own.set_ 5 _, h.nx.far (fun e => h.d1 e.symm) _, h.pv.far (fun e => h.d2 e.symm) _, h.inn.far (fun e => h.d3 e.symm) _, h.d1, h.d2, h.d3, h.d4, h.d5, h.d6⟩
end

/-- a row of numbers below N in memory, as the list L -/
structure FifoAt (w : World) (b nb pb ib N : Nat) (L : List Int) : Prop where
  ex : ∃ q, FifoM w b nb pb ib q N ∧ FRep q N L
section
variable {w w' : World} {b nb pb ib N : Nat} {L : List Int}
theorem FifoAt.alike (h : FifoAt w b nb pb ib N L) (k : w'.Alike w) : FifoAt w' b nb pb ib N L := by
  obtain ⟨q, hm, hr⟩ := h.ex
  exact ⟨q, hm.alike k, hr⟩
theorem FifoAt.only {S : Nat → Prop} (h : FifoAt w b nb pb ib N L) (k : Only S w w') (hs : ∀ i, FS b nb pb ib i → ¬ S i) : FifoAt w' b nb pb ib N L := by
  obtain ⟨q, hm, hr⟩ := h.ex
  exact ⟨q, hm.only k (hs _ (Or.inl rfl)) (hs _ (Or.inr (Or.inl rfl))) (hs _ (Or.inr (Or.inr (Or.inl rfl)))) (hs _ (Or.inr (Or.inr (Or.inr rfl)))), hr⟩
theorem FifoAt.only0 (h : FifoAt w b nb pb ib N L) (k : Only NoBlk w w') : FifoAt w' b nb pb ib N L := h.only k (fun _ _ h => h)
theorem FifoAt.below (h : FifoAt w b nb pb ib N L) (k : Below w.heap.size w w') : FifoAt w' b nb pb ib N L := h.only0 (Only.of_below k NoBlk)
theorem FifoAt.drew (h : FifoAt w b nb pb ib N L) : FifoAt w.drew b nb pb ib N L := by
  obtain ⟨q, hm, hr⟩ := h.ex
  exact ⟨q, ⟨hm.own.drew, hm.nx.drew, hm.pv.drew, hm.inn.drew, hm.d1, hm.d2, hm.d3, hm.d4, hm.d5, hm.d6⟩, hr⟩
theorem FifoAt.lt (h : FifoAt w b nb pb ib N L) : ∀ k, FS b nb pb ib k → k < w.heap.size := by
  obtain ⟨q, hm, _⟩ := h.ex
  intro k hk
  rcases hk with rfl | rfl | rfl | rfl
  · exact hm.own.lt
  · exact hm.nx.lt
  · exact hm.pv.lt
  · exact hm.inn.lt
theorem FifoAt.few (h : FifoAt w b nb pb ib N L) : L.length ≤ N ∧ 1 ≤ N ∧ N ≤ 1024 := by
  obtain ⟨q, _, hr⟩ := h.ex
  exact ⟨nodup_len L N hr.nd hr.rng, hr.lo, hr.hi⟩
theorem FifoAt.nodup (h : FifoAt w b nb pb ib N L) : L.Nodup ∧ ∀ x ∈ L, 0 ≤ x ∧ x < (N : Int) := by
  obtain ⟨q, _, hr⟩ := h.ex
  exact ⟨hr.nd, hr.rng⟩
end

theorem fs_b {b nb pb ib : Nat} : FS b nb pb ib b := Or.inl rfl
theorem fs_n {b nb pb ib : Nat} : FS b nb pb ib nb := Or.inr (Or.inl rfl)
theorem fs_p {b nb pb ib : Nat} : FS b nb pb ib pb := Or.inr (Or.inr (Or.inl rfl))
theorem fs_i {b nb pb ib : Nat} : FS b nb pb ib ib := Or.inr (Or.inr (Or.inr rfl))
theorem ofs {S : Nat → Prop} {a b : World} (h : Only S a b) {g : Nat} (hg : S g) (i : Nat) (v : Value) : Only S a (b.setCell ⟨g, i, none⟩ v) := h.setCell (Or.inl hg) v

def pushL (N : Nat) (L : List Int) (id : Int) : List Int := if 0 ≤ id ∧ id < (N : Int) ∧ id ∉ L then L ++ [id] else L
def comes (N : Nat) (L : List Int) (id : Int) : Bool := decide (0 ≤ id ∧ id < (N : Int) ∧ id ∉ L)
section
variable {w : World} {b nb pb ib N : Nat} {L : List Int}
theorem Push_c (id : Int) (h : FifoAt w b nb pb ib N L) :
    Calls Try.prog 48 #[.pointer (some ⟨b, 0, none⟩), .int .i64 id] w fun e w' => e = .returned (.bool (comes N L id)) ∧ FifoAt w' b nb pb ib N (pushL N L id) ∧ Only (FS b nb pb ib) w w' := by
  obtain ⟨q, hm, hr⟩ := h.ex
  obtain ⟨⟨c0, c1, c2⟩, c3, c4, c5⟩ := hm.cells
  by_cases hid : 0 ≤ id ∧ id < N
  · obtain ⟨h0, h1⟩ := hid
    have hx1 := hm.nx_at hr.ln h0 h1
    have hx2 := hm.pv_at hr.lp h0 h1
    have hx3 := hm.in_at hr.li h0 h1
    rw [hr.isin id h0 h1] at hx3
    by_cases hin : id ∈ L
    · rw [decide_eq_true hin] at hx3
      have e1 : comes N L id = false := by unfold comes; simp [hin]
      have e2 : pushL N L id = L := by unfold pushL; rw [if_neg (fun h => h.2.2 hin)]
      rw [e1, e2]
      refine (push_in b ib N id w h0 h1 c2 hx3).mono fun e w' ⟨he, hw⟩ => ?_
      subst hw
      exact ⟨he, h, Only.refl _ _⟩
    · rw [decide_eq_false hin] at hx3
      have e1 : comes N L id = true := by unfold comes; simp [h0, h1, hin]
      have e2 : pushL N L id = L ++ [id] := by unfold pushL; rw [if_pos ⟨h0, h1, hin⟩]
      rw [e1, e2]
      have hnn := nodup_len L N hr.nd hr.rng
      have hcnt := hr.cnt
      have hNi := hr.hi
      by_cases hl : q.last = -1
      · rw [hl] at c4
        refine (push_first b nb pb ib N id q.first q.n w _ _ h0 h1 c0 c1 c2 c3 (hm.own.frozen 3) c4 c5 (hm.own.frozen 4) (hm.own.frozen 5) hx1 hx2 hx3 (hm.nx.frozen _) (hm.pv.frozen _) (hm.inn.frozen _)
          (by omega) (by omega) hm.d1 hm.d2 hm.d3 hm.d4 hm.d5 hm.d6).mono fun e w' ⟨he, hw⟩ => ?_
        refine ⟨he, FifoAt.alike ⟨pushC q id, ?_, hr.push h0 h1 hin⟩ hw, Only.alike ?_ hw⟩
        · have := (((((hm.set_in id.toNat true).set_nx id.toNat (-1)).set_pv id.toNat (-1)).set_first id).set_last id).set_n (q.n + 1)
          unfold pushC
          rw [if_pos hl, if_pos hl, hl]
          exact this
        · exact ofs (ofs (ofs (ofs (ofs (ofs (Only.refl _ _) fs_i _ _) fs_n _ _) fs_p _ _) fs_b _ _) fs_b _ _) fs_b _ _
      · have hlm : q.last ∈ L := by
          rcases lst_mem (-1) L with hh | hh
          · exact absurd (hr.last.trans hh.1) hl
          · rw [hr.last]; exact hh
        have hlr := hr.rng _ hlm
        have hne : q.last ≠ id := fun e => hin (by rw [← e]; exact hlm)
        refine (push_some b nb pb ib N id q.last q.n w _ _ _ h0 h1 c0 c1 c2 c4 c5 (hm.own.frozen 4) (hm.own.frozen 5) hx1 hx2 hx3 (hm.nx_at hr.ln hlr.1 hlr.2) (hm.nx.frozen _) (hm.pv.frozen _) (hm.inn.frozen _) (hm.nx.frozen _)
          hlr.1 hlr.2 (by omega) (by omega) hm.d1 hm.d2 hm.d3 hm.d4 hm.d5 hm.d6 (by omega)).mono fun e w' ⟨he, hw⟩ => ?_
        refine ⟨he, FifoAt.alike ⟨pushC q id, ?_, hr.push h0 h1 hin⟩ hw, Only.alike ?_ hw⟩
        · have := (((((hm.set_in id.toNat true).set_nx id.toNat (-1)).set_pv id.toNat q.last).set_nx q.last.toNat id).set_last id).set_n (q.n + 1)
          unfold pushC
          rw [if_neg hl, if_neg hl]
          exact this
        · exact ofs (ofs (ofs (ofs (ofs (ofs (Only.refl _ _) fs_i _ _) fs_n _ _) fs_p _ _) fs_n _ _) fs_b _ _) fs_b _ _
  · have e1 : comes N L id = false := by unfold comes; rw [decide_eq_false]; exact fun h => hid ⟨h.1, h.2.1⟩
    have e2 : pushL N L id = L := by unfold pushL; rw [if_neg (fun h => hid ⟨h.1, h.2.1⟩)]
    rw [e1, e2]
    refine (push_out b ib N id w (by omega) c2).mono fun e w' ⟨he, hw⟩ => ?_
    subst hw
    exact ⟨he, h, Only.refl _ _⟩

theorem cut_c (id : Int) (h : FifoAt w b nb pb ib N L) (hin : id ∈ L) :
    Calls Try.prog 91 #[.pointer (some ⟨b, 0, none⟩), .int .i64 id] w fun e w' => e = .returned (.tuple #[]) ∧ FifoAt w' b nb pb ib N (L.erase id) ∧ Only (FS b nb pb ib) w w' := by
  obtain ⟨q, hm, hr⟩ := h.ex
  obtain ⟨⟨c0, c1, c2⟩, c3, c4, c5⟩ := hm.cells
  obtain ⟨A, B, hL, hA⟩ := List.append_of_mem hin |>.imp fun A h => h.imp fun B h => And.intro h (show id ∉ A by
    have := hr.nd
    rw [h, List.nodup_append] at this
    exact fun hx => this.2.2 id hx id (by simp) rfl)
  subst hL
  have her : (A ++ id :: B).erase id = A ++ B := by rw [List.erase_append_right _ hA]; simp
  rw [her]
  obtain ⟨ha, hb⟩ := hr.cut_links
  obtain ⟨h0, h1⟩ := hr.rng id (by simp)
  have hp := hm.pv_at hr.lp h0 h1
  have hn := hm.nx_at hr.ln h0 h1
  have hi := hm.in_at hr.li h0 h1
  have hnn := nodup_len _ N hr.nd hr.rng
  have hcnt := hr.cnt
  have hNi := hr.hi
  have hlen : (A ++ id :: B).length = A.length + B.length + 1 := by simp; omega
  have hrA : ∀ x ∈ A, 0 ≤ x ∧ x < (N : Int) := fun x hx => hr.rng x (by simp [hx])
  have hrB : ∀ x ∈ B, 0 ≤ x ∧ x < (N : Int) := fun x hx => hr.rng x (by simp [hx])
  have hcut := hr.cut
  have go : ∀ (w' : World) (W : World), FifoM W b nb pb ib (cutC q id) N → Only (FS b nb pb ib) w W → w'.Alike W → FifoAt w' b nb pb ib N (A ++ B) ∧ Only (FS b nb pb ib) w w' := fun w' W h1 h2 h3 => ⟨FifoAt.alike ⟨_, h1, hcut⟩ h3, h2.alike h3⟩
  by_cases hAe : at_ q.pv id = -1
  · by_cases hBe : at_ q.nx id = -1
    · rw [hAe] at hp
      rw [hBe] at hn
      refine (cut_nn b nb pb ib N id q.first q.last q.n w _ h0 h1 c0 c1 c2 c3 (hm.own.frozen 3) c4 (hm.own.frozen 4) c5 (hm.own.frozen 5) hp hn hi (hm.inn.frozen _) (by omega) (by omega) hm.d1 hm.d2 hm.d3 hm.d4 hm.d5 hm.d6).mono fun e w' ⟨he, hw⟩ => ?_
      refine ⟨he, go w' _ ?_ (ofs (ofs (ofs (ofs (Only.refl _ _) fs_b _ _) fs_b _ _) fs_i _ _) fs_b _ _) hw⟩
      have := (((hm.set_first (-1)).set_last (-1)).set_in id.toNat false).set_n (q.n - 1)
      unfold cutC
      rw [if_pos hAe, if_pos hBe, if_pos hAe, if_pos hBe, hAe, hBe]
      exact this
    · have hz := hrB _ (show at_ q.nx id ∈ B by
        rcases hd_mem B (-1) with hh | hh
        · exact absurd (hb.trans hh.1) hBe
        · rw [hb]; exact hh)
      rw [hAe] at hp
      refine (cut_ns b nb pb ib N id q.first q.last q.n w (at_ q.nx id) _ _ h0 h1 c0 c1 c2 c3 (hm.own.frozen 3) c4 (hm.own.frozen 4) c5 (hm.own.frozen 5) hp hn hi (hm.inn.frozen _) hz.1 hz.2 (hm.pv_at hr.lp hz.1 hz.2) (hm.pv.frozen _)
        (by omega) (by omega) hm.d1 hm.d2 hm.d3 hm.d4 hm.d5 hm.d6).mono fun e w' ⟨he, hw⟩ => ?_
      refine ⟨he, go w' _ ?_ (ofs (ofs (ofs (ofs (Only.refl _ _) fs_b _ _) fs_p _ _) fs_i _ _) fs_b _ _) hw⟩
      have := (((hm.set_first (at_ q.nx id)).set_pv (at_ q.nx id).toNat (-1)).set_in id.toNat false).set_n (q.n - 1)
      unfold cutC
      rw [if_pos hAe, if_neg hBe, if_pos hAe, if_neg hBe, hAe]
      exact this
  · have ha' := hrA _ (show at_ q.pv id ∈ A by
      rcases lst_mem (-1) A with hh | hh
      · exact absurd (ha.trans hh.1) hAe
      · rw [ha]; exact hh)
    by_cases hBe : at_ q.nx id = -1
    · rw [hBe] at hn
      refine (cut_sn b nb pb ib N id q.first q.last q.n w (at_ q.pv id) _ _ h0 h1 c0 c1 c2 c3 (hm.own.frozen 3) c4 (hm.own.frozen 4) c5 (hm.own.frozen 5) hp hn hi (hm.inn.frozen _) ha'.1 ha'.2 (hm.nx_at hr.ln ha'.1 ha'.2) (hm.nx.frozen _)
        (by omega) (by omega) hm.d1 hm.d2 hm.d3 hm.d4 hm.d5 hm.d6).mono fun e w' ⟨he, hw⟩ => ?_
      refine ⟨he, go w' _ ?_ (ofs (ofs (ofs (ofs (Only.refl _ _) fs_n _ _) fs_b _ _) fs_i _ _) fs_b _ _) hw⟩
      have := (((hm.set_nx (at_ q.pv id).toNat (-1)).set_last (at_ q.pv id)).set_in id.toNat false).set_n (q.n - 1)
      unfold cutC
      rw [if_neg hAe, if_pos hBe, if_neg hAe, if_pos hBe, hBe]
      exact this
    · have hz := hrB _ (show at_ q.nx id ∈ B by
        rcases hd_mem B (-1) with hh | hh
        · exact absurd (hb.trans hh.1) hBe
        · rw [hb]; exact hh)
      refine (cut_ss b nb pb ib N id q.first q.last q.n w (at_ q.pv id) _ (at_ q.nx id) _ _ h0 h1 c0 c1 c2 c3 (hm.own.frozen 3) c4 (hm.own.frozen 4) c5 (hm.own.frozen 5) hp hn hi (hm.inn.frozen _) ha'.1 ha'.2 (hm.nx_at hr.ln ha'.1 ha'.2) (hm.nx.frozen _) hz.1 hz.2 (hm.pv_at hr.lp hz.1 hz.2) (hm.pv.frozen _)
        (by omega) (by omega) hm.d1 hm.d2 hm.d3 hm.d4 hm.d5 hm.d6).mono fun e w' ⟨he, hw⟩ => ?_
      refine ⟨he, go w' _ ?_ (ofs (ofs (ofs (ofs (Only.refl _ _) fs_n _ _) fs_p _ _) fs_i _ _) fs_b _ _) hw⟩
      have := (((hm.set_nx (at_ q.pv id).toNat (at_ q.nx id)).set_pv (at_ q.nx id).toNat (at_ q.pv id)).set_in id.toNat false).set_n (q.n - 1)
      unfold cutC
      rw [if_neg hAe, if_neg hBe, if_neg hAe, if_neg hBe]
      exact this
end
end Go.Proofs.Ytmkbhejbbhikcaa
