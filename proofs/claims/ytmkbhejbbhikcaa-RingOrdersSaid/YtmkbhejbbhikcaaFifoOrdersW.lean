/- The walk of FifoOrders. Conditions: those of the theorem. -/
import Derived.Test.YtmkbhejbbhikcaaSame
import Derived.Test.YtmkbhejbbhikcaaFifo6
import Derived.Test.YtmkbhejbbhikcaaPursePlain
import Derived.Test.YtmkbhejbbhikcaaOpen
import Derived.Deep.DeepCutAuto
import Derived.Deep.CutBlock
import Derived.Maps.AppendAt
namespace Go.Proofs.Ytmkbhejbbhikcaa
open Go.RowKit
set_option linter.unusedVariables false

def u8s (l : List Int) : List Value := l.map (Value.int .u8)
theorem own_only {w w' : World} {base size n : Nat} {e : TypeId} {v : Value} {xs : List Value} {S : Nat → Prop} (h : w.ownsRow base e size v n xs) (k : Only S w w') (hs : ∀ i, S i → i < base) : w'.ownsRow base e size v n xs := by
  refine ⟨h.1, ?_⟩
  rcases h.2 with h2 | ⟨g, cap, cur, hv, hb, hh, hr⟩
  · exact Or.inl h2
  · exact Or.inr ⟨g, cap, cur, hv, hb, (k.block g (Blk.lt (t := e) (cs := cur) hh) (fun hx => by have := hs g hx; omega)).trans hh, hr⟩
theorem own_lt {w : World} {base size n : Nat} {e : TypeId} {v : Value} {xs : List Value} (h : w.ownsRow base e size v n xs) : ∀ k, v.ownBlock = some k → k < w.heap.size := by
  intro k hk
  rcases h.2 with ⟨hv, _⟩ | ⟨g, cap, cur, hv, hb, hh, _⟩
  · subst hv; simp [Value.ownBlock] at hk
  · subst hv
    simp [Value.ownBlock] at hk
    subst hk
    exact Blk.lt (t := e) (cs := cur) hh

/-- a row, and two lists of the call's own -/
structure OSt (w wx : World) (B b nb pb ib : Nat) (L In Out : List Int) (vi vo : Value) : Prop where
  at_ : FifoAt wx b nb pb ib 8 L
  fs : ∀ k, FS b nb pb ib k → k < B ∧ w.heap.size ≤ k
  ho : Only NoBlk w wx
  hB : w.heap.size ≤ B
  hBx : B ≤ wx.heap.size
  oi : wx.ownsRow B 3 1 vi In.length (ints In)
  oo : wx.ownsRow B 3 1 vo Out.length (ints Out)
  ne : vi.ownBlock ≠ vo.ownBlock
section
variable {w wx w1 : World} {B b nb pb ib : Nat} {L L' In Out : List Int} {vi vo v' : Value}
theorem OSt.fifo (h : OSt w wx B b nb pb ib L In Out vi vo) (hat : FifoAt w1 b nb pb ib 8 L') (k : Only (FS b nb pb ib) wx w1) : OSt w w1 B b nb pb ib L' In Out vi vo :=
  ⟨hat, h.fs, h.ho.fresh k (fun i _ hi => Or.inr (h.fs i hi).2), h.hB, Nat.le_trans h.hBx k.size, own_only h.oi k (fun i hi => (h.fs i hi).1), own_only h.oo k (fun i hi => (h.fs i hi).1), h.ne⟩
theorem OSt.grown (h : OSt w wx B b nb pb ib L In Out vi vo) {o : Obj} {row : Option Nat} (hg : (wx.alloc o).grownBy w1 row) (hr : ∀ k, row = some k → B ≤ k) : FifoAt w1 b nb pb ib 8 L ∧ Only NoBlk w w1 ∧ B ≤ w1.heap.size := by
  have k : Only (fun i => B ≤ i) wx w1 := ((Only.refl _ wx).alloc o).grown hg (fun i hi => Or.inl (hr i hi))
  exact ⟨h.at_.only k (fun i hi hx => by have := (h.fs i hi).1; omega), h.ho.fresh k (fun i _ hi => Or.inr (by have := h.hB; omega)), Nat.le_trans h.hBx k.size⟩
theorem OSt.push_in (h : OSt w wx B b nb pb ib L In Out vi vo) {x : Int} {o : Obj} (hown : w1.ownsRow B 3 1 v' (In.length + 1) (ints In ++ [.int .i64 x])) (hg : (wx.alloc o).grownBy w1 vi.ownBlock)
    (hat : v'.ownBlock = vi.ownBlock ∨ v'.ownBlock = some (wx.heap.size + 1)) : OSt w w1 B b nb pb ib L (In ++ [x]) Out v' vo := by
  obtain ⟨g1, g2, g3⟩ := h.grown hg (fun k hk => own_ge h.oi k hk)
  refine ⟨g1, h.fs, g2, h.hB, g3, ?_, (h.oo.alloc o).kept hg (Or.inr (fun e => h.ne e.symm)), ?_⟩
  · rw [ints_append, List.length_append]; exact hown
  · rcases hat with e | e
    · rw [e]; exact h.ne
    · rw [e]; intro e2
      have := own_lt h.oo _ e2.symm
      omega
theorem OSt.push_out (h : OSt w wx B b nb pb ib L In Out vi vo) {x : Int} {o : Obj} (hown : w1.ownsRow B 3 1 v' (Out.length + 1) (ints Out ++ [.int .i64 x])) (hg : (wx.alloc o).grownBy w1 vo.ownBlock)
    (hat : v'.ownBlock = vo.ownBlock ∨ v'.ownBlock = some (wx.heap.size + 1)) : OSt w w1 B b nb pb ib L In (Out ++ [x]) vi v' := by
  obtain ⟨g1, g2, g3⟩ := h.grown hg (fun k hk => own_ge h.oo k hk)
  refine ⟨g1, h.fs, g2, h.hB, g3, (h.oi.alloc o).kept hg (Or.inr h.ne), ?_, ?_⟩
  · rw [ints_append, List.length_append]; exact hown
  · rcases hat with e | e
    · rw [e]; exact h.ne
    · rw [e]; intro e2
      have := own_lt h.oi _ e2
      omega
theorem OSt.only0 (h : OSt w wx B b nb pb ib L In Out vi vo) (k : Only NoBlk wx w1) : OSt w w1 B b nb pb ib L In Out vi vo :=
  ⟨h.at_.only0 k, h.fs, h.ho.trans k, h.hB, Nat.le_trans h.hBx k.size, own_only h.oi k (fun i hi => hi.elim), own_only h.oo k (fun i hi => hi.elim), h.ne⟩
end
theorem findI_le (L : List Int) (id : Int) : -1 ≤ findI L id ∧ findI L id < L.length := by
  unfold findI
  split
  · rename_i h
    have := List.idxOf_lt_length_of_mem h
    omega
  · omega
theorem findI_is (L : List Int) (id : Int) (j : Nat) (hj : (j : Int) ≤ findI L id) (hl : j < L.length) : nth L j = id ↔ (j : Int) = findI L id := by
  unfold findI at *
  split at hj
  · rename_i h
    rw [if_pos h]
    have hlt := List.idxOf_lt_length_of_mem h
    rw [nth_of_lt hl]
    constructor
    · intro e
      have h1 : L.idxOf id ≤ j := by
        rcases Nat.lt_or_ge j (L.idxOf id) with h2 | h2
        · exact absurd e (by simpa using List.not_of_lt_findIdx (p := (· == id)) h2)
        · exact h2
      omega
    · intro e
      have e' : j = L.idxOf id := by omega
      subst e'
      exact List.getElem_idxOf hlt
  · omega

set_option maxRecDepth 100000 in
set_option maxHeartbeats 1600000 in
theorem FifoOrders_walk (A : Option Addr) (c : Nat) (l : List Int) (id : Int) (hi0 : 0 ≤ id) (hi1 : id ≤ 255) (w : World) (hr : Rd w NoBlk A (u8s l)) (hb : ∀ k, k < l.length → 0 ≤ nth l k ∧ nth l k ≤ 255) (hn0 : l.length ≤ maxLen) :
    Calls Try.prog 10 #[.slice A l.length c, .int .u8 id] w fun e w' => e = .returned (.bool true) ∧ Only NoBlk w w' := by
  have hn : l.length ≤ 9223372036854775807 := hn0
  obtain ⟨i0, hi, hz0, hz1, hz2⟩ := info_parts Try.infoInt
  obtain ⟨n, hnl⟩ : ∃ n, n = l.length := ⟨_, rfl⟩
  have hcell : ∀ k, k < n → ∃ b o, A = some ⟨b, o, none⟩ ∧ b < w.heap.size ∧ w.cell? ⟨b, o + k, none⟩ = some (.int .u8 (nth l k)) ∧ 0 ≤ nth l k ∧ nth l k ≤ 255 := by
    intro k hk
    rw [hnl] at hk
    obtain ⟨b, o, hA, _, hbb, hc⟩ := hr.at_ (j := k) (by simpa [u8s] using hk)
    refine ⟨b, o, hA, hbb, ?_, hb k hk⟩
    rw [hc k (by simpa [u8s] using hk)]
    simp [u8s, nth, List.getD, hk]
  rw [← hnl] at hn ⊢
  have Hc := hide hcell
  have V8 := hide (show (clip 8 1 1024).toNat = 8 by decide)
  clear hr hnl hn0 hcell hb
  go_enter Try.func10, Try.ntmps10
  go_wp2_with fail
  refine (FNew_c 8 _).mono ?_
  rintro e w1 ⟨b, nb, pb, ib, rfl, h1, ho1, hk⟩
  rw [V8.out] at h1
  have hst : OSt w ((w1.alloc (.cells #[] 3)).alloc (.cells #[] 3)) w1.heap.size b nb pb ib [] [] [] (.slice (some ⟨w1.heap.size, 0, none⟩) 0 0) (.slice (some ⟨w1.heap.size + 1, 0, none⟩) 0 0) :=
    ⟨h1.only0 (((Only.refl NoBlk _).alloc _).alloc _), fun k h => ⟨h1.lt k h, hk k h⟩, (ho1.alloc _).alloc _, ho1.size, by simp; omega, (own_empty (Nat.le_refl _)).alloc _, own_empty' (by simp) (by simp), by simp [Value.ownBlock]⟩
  have Hst := hide hst
  clear h1 ho1 hk hst
  go_wp2_with fail
  go_loopw [6, 7, 8] (fun vi vo x wr => ∃ (k : Nat) (L In Out : List Int), k ≤ n ∧ k ≤ 30 ∧ x = .int .i64 k ∧ In.length ≤ k ∧ OSt w wr w1.heap.size b nb pb ib L In Out vi vo ∧ Hid (Out ++ L = In)) (fun _ _ x _ => n - (intOf x).toNat)
  case atStart => exact ⟨0, [], [], [], Nat.zero_le _, by omega, rfl, Nat.le_refl _, Hst.out, hide rfl⟩
  case round =>
    clear Hst
    obtain ⟨k, L, In, Out, hk, hk30, rfl, hin, hst, heq⟩ := hrel
    have Hst := hide hst
    have hout : Out.length ≤ In.length := by rw [← heq.out]; simp
    by_cases hboth : k < n ∧ k < 30
    · obtain ⟨hlt, hlt30⟩ := hboth
      · obtain ⟨b1, o1, rfl, hb1, g0, y0, y1⟩ := Hc.out k hlt
        replace g0 := (hst.ho.cell (p := ⟨b1, o1 + k, none⟩) hb1 (fun h => h)).trans g0
        obtain ⟨y, hy⟩ : ∃ y, y = nth l k := ⟨_, rfl⟩
        rw [← hy] at g0 y0 y1
        clear hy hst
        go_wp2_with fail
        refine (Push_c (y % 9) Hst.out.at_).mono ?_
        rintro e w2 ⟨he, h2, ho2⟩
        obtain ⟨cm, hcm⟩ : ∃ cm, cm = comes 8 L (y % 9) := ⟨_, rfl⟩
        rw [← hcm] at he
        subst he
        have Hcm := hide hcm
        clear hcm
        have g2 : w2.cell? ⟨b1, o1 + k, none⟩ = some (.int .u8 y) := okeep ho2 (fun h => by have := (Hst.out.fs b1 h).2; omega) g0
        have Hst2 := hide (Hst.out.fifo h2 ho2)
        clear h2 ho2 g0
        have g3 : ∀ w3 : World, Only (fun i => w1.heap.size ≤ i) w2 w3 → w3.cell? ⟨b1, o1 + k, none⟩ = some (.int .u8 y) := fun w3 h3 => okeep h3 (by show ¬ w1.heap.size ≤ b1; have := Hst.out.hB; omega) g2
        have G3 := hide g3
        clear g3
        go_upto_if 38 with fail
        go_cut [6] (fun vi wx => ∃ (L In : List Int), In.length ≤ k + 1 ∧ OSt w wx w1.heap.size b nb pb ib L In Out vi u7 ∧ Hid (Out ++ L = In) ∧ wx.cell? ⟨b1, o1 + k, none⟩ = some (.int .u8 y))
        case first =>
          cases cm with
          | true =>
            have hp : pushL 8 L (y % 9) = L ++ [y % 9] := by
              have hcm := Hcm.out.symm
              unfold pushL; unfold comes at hcm; rw [if_pos (by simpa using hcm)]
            have Hp := hide hp
            clear hp
            go_wp2_with (at_builtin; refine wpList_append_rd _ rfl (.tmp 39) (.tmp 41) _ rfl w1.heap.size 3 i0 (.int .i64 0) 1 8 Try.underlying73 hi hz0 hz1 hz2 rfl (by omega) u6 In.length (ints In) rfl (Hst2.out.oi.alloc _) NoBlk (some ⟨w2.heap.size, 0, none⟩) 1 1 [.int .i64 (y % 9)] rfl (rd_blk (Blk.new w2 _ _) (fun h => h)) rfl (ints_one [y % 9]) ?q1 ?q2 ?q3 ?_)
            case q1 => unfold maxLen; omega
            case q2 => omega
            case q3 => have := Hst2.out.hBx; simp; omega
            intro vi2 w3 hown hg hat
            have Hs3 := hide (Hst2.out.push_in hown hg hat)
            have g4 : w3.cell? ⟨b1, o1 + k, none⟩ = some (.int .u8 y) := G3.out w3 (((Only.refl _ w2).alloc _).grown hg (fun i hi => Or.inl (own_ge Hst2.out.oi i hi)))
            clear hown hg hat
            go_wp2_with fail
            go_meet
            exact ⟨_, _, by rw [List.length_append]; simp; omega, Hs3.out, hide (by rw [Hp.out, ← heq.out, List.append_assoc]), g4⟩
          | false =>
            have hp : pushL 8 L (y % 9) = L := by
              have hcf := Hcm.out.symm
              unfold pushL; unfold comes at hcf; rw [if_neg (by simpa using hcf)]
            have Hp := hide hp
            clear hp
            go_wp2_with fail
            go_meet
            exact ⟨_, _, by omega, Hst2.out, hide (by rw [Hp.out]; exact heq.out), g2⟩
        case rest =>
          obtain ⟨L2, In2, hin2, hst2, heq2, g5⟩ := hcut
          have Hst3 := hide hst2
          have hout2 : Out.length ≤ In2.length := by rw [← heq2.out]; simp
          clear hst2 g2 Hst2 heq
          by_cases hy : 127 < y
          · cases L2 with
            | nil =>
              go_wp2_with fail
              refine (Pop_c Hst3.out.at_).mono ?_
              rintro e w4 ⟨he, h4, ho4⟩
              have he' : e = .returned (.tuple #[.int .i64 0, .bool false]) := he
              clear he
              subst he'
              have hst4 := Hst3.out.fifo h4 ho4
              clear h4 ho4
              go_wp2_with fail
              go_roundw
              case rel => exact ⟨k + 1, _, _, _, by omega, by omega, by go_num, hin2, hst4, heq2⟩
              case measure => simp [intOf]; omega
            | cons x r =>
              go_wp2_with fail
              refine (Pop_c Hst3.out.at_).mono ?_
              rintro e w4 ⟨he, h4, ho4⟩
              have he' : e = .returned (.tuple #[.int .i64 x, .bool true]) := he
              clear he
              subst he'
              have Hst4 := hide (Hst3.out.fifo h4 ho4)
              clear h4 ho4 g5
              go_wp2_with (at_builtin; refine wpList_append_rd _ rfl (.tmp 54) (.tmp 56) _ rfl w1.heap.size 3 i0 (.int .i64 0) 1 8 Try.underlying73 hi hz0 hz1 hz2 rfl (by omega) u7 Out.length (ints Out) rfl (Hst4.out.oo.alloc _) NoBlk (some ⟨w4.heap.size, 0, none⟩) 1 1 [.int .i64 x] rfl (rd_blk (Blk.new w4 _ _) (fun h => h)) rfl (ints_one [x]) ?r1 ?r2 ?r3 ?_)
              case r1 => unfold maxLen; omega
              case r2 => omega
              case r3 => have := Hst4.out.hBx; simp; omega
              intro vo2 w5 hown hg hat
              have Hs5 := hide (Hst4.out.push_out hown hg hat)
              clear hown hg hat
              go_wp2_with fail
              go_roundw
              case rel => exact ⟨k + 1, _, _, _, by omega, by omega, by go_num, hin2, Hs5.out, hide (by rw [List.append_assoc]; exact heq2.out)⟩
              case measure => simp [intOf]; omega
          · have hyd : decide (127 < y) = false := by simp; omega
            go_wp2_with fail
            go_roundw
            case rel => exact ⟨k + 1, _, _, _, by omega, by omega, by go_num, hin2, Hst3.out, heq2⟩
            case measure => simp [intOf]; omega
    · have hexit : (¬ k < n ∧ decide ((k : Int) < n) = false) ∨ (k < n ∧ ¬ k < 30 ∧ decide ((k : Int) < 30) = false) := by
        by_cases h : k < n
        · right; exact ⟨h, by omega, by simp; omega⟩
        · left; exact ⟨h, by simp; omega⟩
      clear hst hboth
      rcases hexit with ⟨hd1_, hd_⟩ | ⟨hd1_, hd2_, hd_⟩
      all_goals
        go_wp2_with fail
        refine (Place_c (id % 8) Hst.out.at_).mono ?_
        rintro e w2 ⟨rfl, rfl⟩
        have hP := findI_le L (id % 8)
        have hPi := fun j => findI_is L (id % 8) j
        have hll : L.length ≤ 8 := Hst.out.at_.few.1
        obtain ⟨P, hPe⟩ : ∃ P, P = findI L (id % 8) := ⟨_, rfl⟩
        rw [← hPe] at hP ⊢
        rw [← hPe] at hPi
        obtain ⟨i8, hi8⟩ : ∃ i8, i8 = id % 8 := ⟨_, rfl⟩
        rw [← hi8] at hPi
        have HPi := hide hPi
        have Hi8 := hide hi8
        obtain ⟨hP0, hP1⟩ := hP
        clear hPe hPi hi8
        go_wp2_with fail
        go_loopw [7, 13] (fun vo x wr => ∃ (j : Nat) (L' Out' : List Int), x = .int .i64 j ∧ (j : Int) ≤ P + 1 ∧ OSt w wr w1.heap.size b nb pb ib L' In Out' u6 vo ∧ Hid (Out' ++ L' = In) ∧ Hid (L' = L.drop j)) (fun _ x _ => (P + 1 - intOf x).toNat)
        case atStart => exact ⟨0, L, Out, rfl, by omega, Hst.out, heq, hide rfl⟩
        case round =>
          clear Hst
          obtain ⟨j, L', Out', rfl, hj, hst2, heq2, hdr⟩ := hrel
          have Hst2 := hide hst2
          have hout' : Out'.length ≤ In.length := by rw [← heq2.out]; simp
          clear hst2
          by_cases hjP : (j : Int) ≤ P
          · have hjl : j < L.length := by omega
            have hL' : L' = nth L j :: L.drop (j + 1) := by rw [hdr.out, List.drop_eq_getElem_cons hjl, nth_of_lt hjl]
            have hxi := HPi.out j hjP hjl
            obtain ⟨x, hx⟩ : ∃ x, x = nth L j := ⟨_, rfl⟩
            rw [← hx] at hL' hxi
            obtain ⟨r, hr⟩ : ∃ r, r = L.drop (j + 1) := ⟨_, rfl⟩
            rw [← hr] at hL'
            subst hL'
            have Hr := hide hr
            have hP00 : (0 : Int) ≤ P := by omega
            have hnd := Hst2.out.at_.nodup
            have hx8 := hnd.2 x (by simp)
            have hxr := (List.nodup_cons.1 hnd.1).1
            have Hcm := hide (show comes 8 r x = true by unfold comes; simp [hxr]; exact ⟨hx8.1, by have := hx8.2; omega⟩)
            have Hpu := hide (show pushL 8 r x = r ++ [x] by unfold pushL; rw [if_pos ⟨hx8.1, hx8.2, hxr⟩])
            have Her := hide (show (r ++ [x]).erase x = r by rw [List.erase_append_right _ hxr]; simp)
            have hbool : ∃ bb : Bool, (x == i8) = bb ∧ ((j : Int) == P) = bb := by
              by_cases e : (j : Int) = P
              · exact ⟨true, by simpa using hxi.2 e, by simpa using e⟩
              · exact ⟨false, by simp only [beq_eq_false_iff_ne]; exact fun h => e (hxi.1 h), by simpa using e⟩
            obtain ⟨bb, hb1, hb2⟩ := hbool
            have Hi8' := Hi8
            clear hx hr hxi hnd hx8 hxr
            go_wp2_with fail
            refine (Pop_c Hst2.out.at_).mono ?_
            rintro e w3 ⟨he, h3, ho3⟩
            have he' : e = .returned (.tuple #[.int .i64 x, .bool true]) := he
            clear he
            subst he'
            replace h3 : FifoAt w3 b nb pb ib 8 r := h3
            have Hst3 := hide (Hst2.out.fifo h3 ho3)
            clear h3 ho3
            have hb1' : (x == id % 8) = bb := by rw [← Hi8.out]; exact hb1
            cases bb with
            | true =>
              go_wp2_with (at_builtin; refine wpList_append_rd _ rfl (.tmp 90) (.tmp 92) _ rfl w1.heap.size 3 i0 (.int .i64 0) 1 8 Try.underlying73 hi hz0 hz1 hz2 rfl (by omega) u7 Out'.length (ints Out') rfl (Hst3.out.oo.alloc _) NoBlk (some ⟨w3.heap.size, 0, none⟩) 1 1 [.int .i64 x] rfl (rd_blk (Blk.new w3 _ _) (fun h => h)) rfl (ints_one [x]) ?s1 ?s2 ?s3 ?_)
              case s1 => unfold maxLen; omega
              case s2 => omega
              case s3 => have := Hst3.out.hBx; simp; omega
              intro vo2 w4 hown hg hat
              have Hst4 := hide (Hst3.out.push_out hown hg hat)
              clear hown hg hat
              go_wp2_with fail
              refine (Push_c x Hst4.out.at_).mono ?_
              rintro e w5 ⟨he, h5, ho5⟩
              rw [Hcm.out] at he
              subst he
              rw [Hpu.out] at h5
              have Hst5 := hide (Hst4.out.fifo h5 ho5)
              clear h5 ho5
              go_wp2_with fail
              refine (Cut_c x Hst5.out.at_).mono ?_
              rintro e w6 ⟨rfl, h6, ho6⟩
              rw [Her.out] at h6
              have hst6 := Hst5.out.fifo h6 ho6
              clear h6 ho6
              go_wp2_with fail
              go_roundw
              case rel => exact ⟨j + 1, r, _, by go_num, by omega, hst6, hide (by rw [List.append_assoc]; exact heq2.out), hide Hr.out⟩
              case measure => simp [intOf]; omega
            | false =>
              go_wp2_with (at_builtin; refine wpList_append_rd _ rfl (.tmp 90) (.tmp 92) _ rfl w1.heap.size 3 i0 (.int .i64 0) 1 8 Try.underlying73 hi hz0 hz1 hz2 rfl (by omega) u7 Out'.length (ints Out') rfl (Hst3.out.oo.alloc _) NoBlk (some ⟨w3.heap.size, 0, none⟩) 1 1 [.int .i64 x] rfl (rd_blk (Blk.new w3 _ _) (fun h => h)) rfl (ints_one [x]) ?s1 ?s2 ?s3 ?_)
              case s1 => unfold maxLen; omega
              case s2 => omega
              case s3 => have := Hst3.out.hBx; simp; omega
              intro vo2 w4 hown hg hat
              have Hst4 := hide (Hst3.out.push_out hown hg hat)
              clear hown hg hat
              go_wp2_with fail
              refine (Push_c x Hst4.out.at_).mono ?_
              rintro e w5 ⟨he, h5, ho5⟩
              rw [Hcm.out] at he
              subst he
              rw [Hpu.out] at h5
              have Hst5 := hide (Hst4.out.fifo h5 ho5)
              clear h5 ho5
              go_wp2_with fail
              refine (Cut_c x Hst5.out.at_).mono ?_
              rintro e w6 ⟨rfl, h6, ho6⟩
              rw [Her.out] at h6
              have hst6 := Hst5.out.fifo h6 ho6
              clear h6 ho6
              go_wp2_with fail
              go_roundw
              case rel => exact ⟨j + 1, r, _, by go_num, by omega, hst6, hide (by rw [List.append_assoc]; exact heq2.out), hide Hr.out⟩
              case measure => simp [intOf]; omega
          · rcases (by omega : P < 0 ∨ (0 ≤ P ∧ P < j)) with hP2 | ⟨hP2, hP3⟩
            all_goals
              have hdP : decide ((0 : Int) ≤ P) = false ∨ (0 ≤ P ∧ decide ((j : Int) ≤ P) = false) := by
                first | (left; simp; omega) | (right; exact ⟨by omega, by simp; omega⟩)
              obtain ⟨Ai, ci, hvi, _⟩ := own_cap Hst2.out.oi
              obtain ⟨Ao, co, hvo, _⟩ := own_cap Hst2.out.oo
              subst hvi hvo
              have hsum : Out'.length + L'.length = In.length := by rw [← heq2.out]; simp
              have Hsum := hide hsum
              have hLl : L'.length ≤ In.length := by omega
              clear hsum
              rcases hdP with hdP | ⟨hdP0, hdP⟩
              all_goals try (exfalso; first | omega | (simp at hdP; omega))
              go_wp2_with fail
              refine (List_c NoBlk (fun _ h => h.elim) Hst2.out.at_).mono ?_
              rintro e w3 ⟨Ar, cr, rfl, hRr, hbr, _⟩
              have Hst3 := hide (Hst2.out.only0 (Only.of_below hbr NoBlk))
              have HRr := hide hRr
              have Hlr := hide (ints_len L')
              clear hbr hRr
              go_wp2_with (at_builtin; refine wpList_append_rd _ rfl (.tmp 102) (.tmp 103) _ rfl w1.heap.size 3 i0 (.int .i64 0) 1 8 Try.underlying73 hi hz0 hz1 hz2 rfl (by omega) _ Out'.length (ints Out') rfl Hst3.out.oo NoBlk Ar L'.length cr (ints L') rfl HRr.out ?p0 (ints_one L') ?p1 ?p2 ?p3 ?_)
              case p0 => rw [Hlr.out]; omega
              case p1 => unfold maxLen; omega
              case p2 => omega
              case p3 => exact Hst3.out.hBx
              intro vx w4 hown hg hat
              have hoi4 := Hst3.out.oi.kept hg (Or.inr Hst3.out.ne)
              have ho4 : Only NoBlk w w4 := Hst3.out.ho.grown hg (fun i hi => Or.inr (Nat.le_trans Hst3.out.hB (own_ge Hst3.out.oo i hi)))
              rw [Hsum.out, ← ints_append, heq2.out] at hown
              obtain ⟨Ax, cx, hvx, _⟩ := own_cap hown
              subst hvx
              have Rx := hide (Rd.of_own (M := NoBlk) hown (fun _ h => h.elim))
              have Ri := hide (Rd.of_own (M := NoBlk) hoi4 (fun _ h => h.elim))
              clear hown hoi4 hg hat
              go_wp2_with fail
              refine (Same_c NoBlk NoBlk Ax Ai cx ci In In w4 Rx.out Ri.out (by omega)).mono ?_
              rintro e w5 ⟨he, hb5⟩
              have he' : e = .returned (.bool true) := by rw [he, decide_eq_true rfl]
              clear he
              subst he'
              go_wp2_with fail
              refine (fifo_lives _).mono ?_
              rintro e w6 ⟨rfl, ho6⟩
              go_wp2_with fail
              go_ret
              exact ⟨rfl, (ho4.trans (Only.of_below hb5 NoBlk)).trans ho6⟩
end Go.Proofs.Ytmkbhejbbhikcaa
