/- Parts of a chain of lemmas: Wt3, Wt4, Wt5, OpenPr, WaitsNextW. Conditions: those of each theorem. -/
import Derived.Test.YtdmdohjdmnmabaaGreatWt2
import Derived.Test.YtdmdohjdmnmabaaGreatScr
import Derived.Test.YtdmdohjdmnmabaaGreatGraceB
import Derived.Test.YtdmdohjdmnmabaaGreatPref
import Derived.Deep.RegionHeld3
import Derived.Test.YtdmdohjdmnmabaaGreatOpenEv
import Derived.Test.YtdmdohjdmnmabaaGreatPrg6
import Derived.Test.YtdmdohjdmnmabaaGreatWnP
import Derived.Test.YtdmdohjdmnmabaaGreatRefNext
namespace Go.Proofs.YtdmdohjdmnmabaaGreat
open Go.RowKit
set_option linter.unusedVariables false
set_option linter.unusedSimpArgs false

theorem flat_oneW {α : Type} {enc : α → List Value} (h : ∀ a, ∀ u ∈ enc a, u.oneCell' = true) (l : List α) : ∀ u ∈ flat enc l, u.oneCell' = true := by
  intro u hu
  unfold flat at hu
  rw [List.mem_flatten] at hu
  obtain ⟨r, hr, hu⟩ := hu
  obtain ⟨a, _, rfl⟩ := List.mem_map.1 hr
  exact h a u hu
/-- the ticks of events are within 64 bits -/
def TkOk (l : List Ev) : Prop := ∀ x ∈ l, x.tick ≤ 9223372036854775807 ∧ x.st.tick ≤ 9223372036854775807
theorem fold_tk (id : Int) : ∀ (l : List Ev) (f : LifeM), (∀ y ∈ f.steps, y.tick ≤ 9223372036854775807) → TkOk l → (∀ y ∈ (l.foldl (addL id) f).steps, y.tick ≤ 9223372036854775807) ∧ (l.foldl (addL id) f).start = f.start := by
  intro l
  induction l with
  | nil => intro f h _; exact ⟨h, rfl⟩
  | cons x r ih =>
    intro f h hl
    have hx := (hl x (by simp)).2
    have h1 : (∀ y ∈ (addL id f x).steps, y.tick ≤ 9223372036854775807) ∧ (addL id f x).start = f.start := by
      unfold addL
      repeat' split
      all_goals refine ⟨?_, rfl⟩
      all_goals first
        | exact h
        | (intro y hy
           rcases List.mem_append.1 hy with hy | hy
           · exact h y hy
           · rw [List.mem_singleton.1 hy]; exact hx)
    have h2 := ih (addL id f x) h1.1 (fun y hy => hl y (by simp [hy]))
    exact ⟨h2.1, h2.2.trans h1.2⟩
theorem go_tk (id : Int) : ∀ (l : List Ev) (c : Int), c ≤ 9223372036854775807 → TkOk l → ∀ f, lifeGo id c l = some f → (∀ y ∈ f.steps, y.tick ≤ 9223372036854775807) ∧ f.start ≤ 9223372036854775807 := by
  intro l
  induction l with
  | nil => intro c _ _ f h; cases h
  | cons x r ih =>
    intro c hc hl f h
    unfold lifeGo at h
    have hr : TkOk r := fun y hy => hl y (by simp [hy])
    split at h
    · injection h with h
      subst h
      have := fold_tk id r (life0 x.n c) (by intro y hy; cases hy) hr
      exact ⟨this.1, by rw [this.2]; exact hc⟩
    · refine ih _ ?_ hr f h
      split
      · exact (hl x (by simp)).1
      · exact hc
theorem lifeO_tk (id : Int) (l : List Ev) (h : TkOk l) : (∀ y ∈ (lifeO (lifeGo id 0 l)).steps, y.tick ≤ 9223372036854775807) ∧ (lifeO (lifeGo id 0 l)).start ≤ 9223372036854775807 := by
  cases hf : lifeGo id 0 l with
  | none => exact ⟨fun y hy => (by cases hy), (by show (0 : Int) ≤ 9223372036854775807; omega)⟩
  | some f => exact go_tk id l 0 (by omega) h f hf
theorem lifeO_steps (id : Int) (l : List Ev) (hx : ∀ x ∈ l, x.s.size ≤ 100) : (lifeO (lifeGo id 0 l)).steps.length ≤ l.length := by
  cases hf : lifeGo id 0 l with
  | none => exact Nat.zero_le _
  | some f => exact (life_small hf hx).2
theorem fold_wk (P : ProgM) (id : Int) : ∀ (S : List Stp) (f : WkM), (S.foldl (wkStep P id) f).out.length ≤ f.out.length + S.length := by
  intro S
  induction S with
  | nil => intro f; exact Nat.le_refl _
  | cons x r ih =>
    intro f
    have h1 : (wkStep P id f x).out.length ≤ f.out.length + 1 := by
      unfold wkStep
      split
      · omega
      · simp only
        split
        · simp
        · omega
    have h2 := ih (wkStep P id f x)
    simp only [List.foldl_cons, List.length_cons]
    omega
theorem lifeW_len (P : ProgM) (id st : Int) (S : List Stp) : (lifeW P id st S).length ≤ S.length + 1 := by
  have h := fold_wk P id S (wk0 P id st)
  have h0 : (wk0 P id st).out.length = 0 := rfl
  unfold lifeW wkEnd
  split
  · rw [List.length_append]; simp; omega
  · omega
def waitsP (l : List Ev) (v : PrV) (id : Int) : List WtM := lifeW (prM v) (whoL id (lifeGo id 0 l)) (lifeO (lifeGo id 0 l)).start (lifeO (lifeGo id 0 l)).steps
theorem waits_le (l : List Ev) (hx : ∀ x ∈ l, x.s.size ≤ 100) (v : PrV) (id : Int) : (waitsP l v id).length ≤ l.length + 1 := by
  have h1 := lifeW_len (prM v) (whoL id (lifeGo id 0 l)) (lifeO (lifeGo id 0 l)).start (lifeO (lifeGo id 0 l)).steps
  have h2 := lifeO_steps id l hx
  unfold waitsP
  omega
/-- all waits -/
def waitsM (Ps : List PrV) (l : List Ev) : List WtM := perM Ps l (waitsP l) (idsL l)
def PrNn (v : PrV) : Prop := ∀ o ∈ v.L, o.o.n ≤ 9223372036854775807
set_option maxRecDepth 100000 in
set_option maxHeartbeats 25600000 in
theorem waitsof_c (SA : Option Addr) (sc : Nat) (Ps : List PrV) (A : Option Addr) (c : Nat) (l : List Ev) (w : World) (hs : PrsRd w NoBlk SA Ps) (hsn : Ps.length ≤ maxLen) (hsz : ∀ v ∈ Ps, PrSz v) (hnn : ∀ v ∈ Ps, PrNn v) (hr : Rd w NoBlk A (flat encEv l)) (hn : l.length ≤ 1000) (hx : ∀ x ∈ l, x.s.size ≤ 100) (htk : TkOk l) (hlc : l.length ≤ c) :
    Calls Tryz.prog 56 #[.slice SA Ps.length sc, .slice A l.length c] w fun e w' => (∃ A1 c1, e = .returned (.slice A1 (waitsM Ps l).length c1) ∧ Rd w' NoBlk A1 (flat encWt (waitsM Ps l))) ∧ Only NoBlk w w' := by
  obtain ⟨il, hil, hlz0, hlz1, hlz2⟩ := info_parts Tryz.infoWt
  have hsn' : Ps.length ≤ 9223372036854775807 := hsn
  have HIds := hide (fun (w' : World) (k : Only NoBlk w w') => by
    have := Ids_c NoBlk A c l w' (hr.only k (fun _ h => h)) (by omega) (fun k h => h.elim)
    rw [show Lib.compact ((openedL l).mergeSort fun x y => decide (x ≤ y)) = idsL l from (ids_uniq l).symm] at this
    exact this)
  have HOf := hide (fun (id : Int) (w' : World) (k : Only NoBlk w w') => Of_c NoBlk A c l id w' (hr.only k (fun _ h => h)) (by omega) hx hlc (fun k h => h.elim))
  have HPr := hide (fun (w' : World) (k : Only NoBlk w w') (i : Nat) (hi : i < Ps.length) => pr_cells ((hs.only k (fun _ h => h)).1) i hi)
  have HGood := hide (fun (w' : World) (k : Only NoBlk w w') (i : Nat) (hi : i < Ps.length) => pGood_c (prAt Ps i).s (prAt Ps i).d (prAt Ps i).j (prAt Ps i).PA (prAt Ps i).pc (prAt Ps i).L w' ((hs.only k (fun _ h => h)).2 _ (prAt_mem hi)) (hsz _ (prAt_mem hi)).1 (hsz _ (prAt_mem hi)).2.1 (hsz _ (prAt_mem hi)).2.2)
  have HLife := hide (fun (i : Nat) (hi : i < Ps.length) (w' : World) (k : Only NoBlk w w') (id sn start : Int) (IA : Option Addr) (ni ic : Nat) (SA : Option Addr) (S : List Stp) (sc : Nat) (rd tk : ByteArray) (eof : Bool) (status : Int) (h1 : start ≤ 9223372036854775807) (h2 : Rd w' NoBlk SA (flat encStp S)) (h3 : S.length ≤ 10000) (h4 : ∀ x ∈ S, x.tick ≤ 9223372036854775807) =>
    life_c (prAt Ps i).s (prAt Ps i).d (prAt Ps i).j (prAt Ps i).PA (prAt Ps i).pc (prAt Ps i).L id sn start IA ni ic SA S sc rd tk eof status w' ((hs.only k (fun _ h => h)).2 _ (prAt_mem hi)) (hsz _ (prAt_mem hi)).1 (hsz _ (prAt_mem hi)).2.2 (hnn _ (prAt_mem hi)) h1 h2 h3 h4)
  have HTk := hide (fun id => lifeO_tk id l htk)
  have HSl := hide (fun id => Nat.le_trans (lifeO_steps id l hx) hn)
  have hile := ids_le l
  have hpl := per_len Ps l (waitsP l) (l.length + 1) (waits_le l hx)
  have HWl := hide (waits_le l hx)
  have HPm := hide (show waitsM Ps l = perM Ps l (waitsP l) (idsL l) from rfl)
  obtain ⟨N, hN⟩ : ∃ N, N = (idsL l).length := ⟨_, rfl⟩
  obtain ⟨n, hnl⟩ : ∃ n, n = l.length := ⟨_, rfl⟩
  obtain ⟨np, hnp⟩ : ∃ np, np = Ps.length := ⟨_, rfl⟩
  have HN := hide hN
  have Hnl := hide hnl
  have Hnp := hide hnp
  obtain ⟨T, hT⟩ : ∃ T, T = waitsM Ps l := ⟨_, rfl⟩
  rw [← hT] at HPm ⊢
  rw [← hN] at HIds hile
  rw [← hnl] at HIds HOf hn hlc hile hpl HWl ⊢
  rw [← hnp] at HPr HGood HLife hsn' ⊢
  have HPL := hide hpl
  clear hs hsn hsz hnn hr hx htk hN hnl hnp hpl hT
  go_enter Tryz.func56, Tryz.ntmps56
  go_wp2_with fail
  refine (HIds.out _ (Only.refl _ w)).mono ?_
  rintro e w1 ⟨hb1, A1, c1, rfl, hr1⟩
  have HB1 := hide hb1
  have HO1 := hide (Only.of_below hb1 NoBlk)
  have HR1 := hide hr1
  clear hb1 hr1
  go_wp2_with fail
  go_loopw [5, 13] (fun v i wr => ∃ (k : Nat) (out : List WtM), k ≤ N ∧ i = .int .i64 k ∧ Hid (perM Ps l (waitsP l) ((idsL l).take k) = out) ∧ Hid (wr.ownsRow w1.heap.size 84 7 v out.length (flat encWt out)) ∧ Hid (Only NoBlk w1 wr)) (fun _ i _ => N - (intOf i).toNat)
  case atStart => exact ⟨0, [], Nat.zero_le _, rfl, hide (by simp [perM]), hide (own_nil (Nat.le_refl _)), hide (Only.refl _ _)⟩
  case round =>
    obtain ⟨k, out, hk, rfl, hout, hown, ho⟩ := hrel
    obtain ⟨OA, oc, rfl, hoc⟩ := own_cap hown.out
    have hol : out.length ≤ 1100000 := by
      have h1 := HPL.out ((idsL l).take k)
      rw [hout.out, List.length_take, ← HN.out] at h1
      have h2 : min k N ≤ 1000 := by omega
      have h3 : min k N * (n + 1) ≤ 1000 * 1001 := Nat.mul_le_mul h2 (by omega)
      omega
    obtain ⟨m, hm⟩ : ∃ m, m = out.length := ⟨_, rfl⟩
    rw [← hm] at hown hol hoc ⊢
    have Hm := hide hm
    clear hm
    by_cases hlt : k < N
    case neg =>
      obtain rfl : k = N := by omega
      have hd : decide ((k : Int) < (k : Int)) = false := by simp
      have hd2 : decide (k < k) = false := by simp
      have HF := hide (show T = out by rw [HPm.out, ← hout.out, HN.out, List.take_length])
      go_wp2_with fail
      go_ret
      rw [HF.out, ← Hm.out]
      exact ⟨⟨OA, oc, rfl, Rd.of_own hown.out (fun _ h => h.elim)⟩, HO1.out.trans ho.out⟩
    case pos =>
      have HF := hide (per_succ Ps l (waitsP l) (idsL l) k (by rw [← HN.out]; exact hlt))
      obtain ⟨b, oo, rfl, hb, g0⟩ := id_cell (HR1.out.only ho.out (fun _ h => h)) k (by rw [← HN.out]; exact hlt)
      obtain ⟨id, hid⟩ : ∃ id, id = nth (idsL l) k := ⟨_, rfl⟩
      rw [← hid] at g0 HF
      have d1 : decide ((k : Int) < (N : Int)) = true := by simp; exact hlt
      have d2 : decide (k < N) = true := by simp; exact hlt
      have j1 : (0 : Int) ≤ (k : Int) := by omega
      have j2 : (k : Int) < (N : Int) := by omega
      have w0 : IntKind.i64.wrap ((k : Int) + 1) = (k : Int) + 1 := IntWalk.i64_in _ (by omega)
      have HOw := hide (HO1.out.trans ho.out)
      have HOfr := hide (HOf.out id wr HOw.out)
      have hszr : w1.heap.size ≤ wr.heap.size := ho.out.size
      clear hid
      go_wp2_with fail
      refine HOfr.out.mono ?_
      intro e w3 he
      obtain ⟨hb3, LA, lc, LB, ld, rfl, _, hsr⟩ := ret_one he
      have HTq := hide (HTk.out id)
      have HSq := hide (HSl.out id)
      have HWq := hide (fun v => HWl.out v id)
      have HWp := hide (fun v => show waitsP l v id = lifeW (prM v) (whoL id (lifeGo id 0 l)) (lifeO (lifeGo id 0 l)).start (lifeO (lifeGo id 0 l)).steps from rfl)
      obtain ⟨sn, hsn2⟩ : ∃ sn, sn = scrN l id := ⟨_, rfl⟩
      have hsn3 : (lifeO (lifeGo id 0 l)).script = sn := hsn2.symm
      rw [hsn3]
      obtain ⟨i0, hi0⟩ : ∃ i0, i0 = (lifeO (lifeGo id 0 l)).ins.length := ⟨_, rfl⟩
      rw [← hi0]
      obtain ⟨lsteps, hls⟩ : ∃ s, s = (lifeO (lifeGo id 0 l)).steps := ⟨_, rfl⟩
      obtain ⟨lstart, hlst⟩ : ∃ s, s = (lifeO (lifeGo id 0 l)).start := ⟨_, rfl⟩
      obtain ⟨lwho, hlw⟩ : ∃ s, s = whoL id (lifeGo id 0 l) := ⟨_, rfl⟩
      rw [← hls, ← hlst] at HTq
      rw [← hls] at HSq hsr
      rw [← hls, ← hlst, ← hlw] at HWp ⊢
      obtain ⟨s0, hs0⟩ : ∃ s0, s0 = lsteps.length := ⟨_, rfl⟩
      rw [← hs0]
      have HS0 := hide hs0
      generalize (lifeO (lifeGo id 0 l)).read = lread
      generalize (lifeO (lifeGo id 0 l)).taken = ltaken
      generalize (lifeO (lifeGo id 0 l)).eof = leof
      generalize (lifeO (lifeGo id 0 l)).status = lstatus
      generalize (lifeGo id 0 l).isSome = lis
      have HSr := hide hsr
      have HO3 := hide (ho.out.trans (Only.of_below hb3 NoBlk))
      have HOwn3 := hide (own_only hown.out (Only.of_below hb3 NoBlk) (fun _ _ h => h.elim))
      clear he hb3 hi0 hs0 hsn3 g0 HOfr HOw ho hown hls hlst hlw hsr
      have HSB := hide (show scrB Ps l id = ((decide (0 ≤ sn) && decide (sn < Ps.length)) && goodM (prM (prAt Ps sn.toNat))) by unfold scrB; rw [← hsn2])
      rw [← Hnp.out] at HSB
      rw [← hsn2] at HF
      clear hsn2

      go_upto_region 6 with fail
      obtain ⟨W4, hW4⟩ : ∃ W4, W4 = w3.alloc (.cells #[.int .i64 lwho, .int .i64 sn, .int .i64 lstart, .slice LA i0 lc, .slice LB s0 ld, .string lread, .string ltaken, .bool leof, .int .i64 lstatus] 118) := ⟨_, rfl⟩
      have HLf := hide (show Blk W4 w3.heap.size 118 #[.int .i64 lwho, .int .i64 sn, .int .i64 lstart, .slice LA i0 lc, .slice LB s0 ld, .string lread, .string ltaken, .bool leof, .int .i64 lstatus] by rw [hW4]; exact Blk.new _ _ _)
      have HO4 := hide (show Only NoBlk w1 W4 by rw [hW4]; exact HO3.out.alloc _)
      have HOwn4 := hide (show W4.ownsRow w1.heap.size 84 7 (.slice OA m oc) m (flat encWt out) by rw [hW4]; exact HOwn3.out.alloc _)
      have HSr4 := hide (show Rd W4 NoBlk LB (flat encStp lsteps) by rw [hW4]; exact HSr.out.alloc _)
      rw [← hW4]
      obtain ⟨g3, hg3⟩ : ∃ g3, g3 = w3.heap.size := ⟨_, rfl⟩
      rw [← hg3] at HLf ⊢
      clear hW4 HO3 HOwn3 HSr hg3
      obtain ⟨⟨x0, x1, x2, x3, x4, x5, x6, x7, x8⟩, _⟩ := HLf.out.nine
      go_cut [40] from 23 to 39 (fun v wx => v = .bool (scrB Ps l id) ∧ Hid (Only NoBlk W4 wx))
      case first =>
        by_cases hs0 : sn < 0
        · have b0 : decide ((0 : Int) ≤ sn) = false := by simp; omega
          have HQ := hide (show scrB Ps l id = false by rw [HSB.out, show decide (0 ≤ sn) = false by simp; omega]; rfl)
          clear hs0
          go_wp2_with fail
          go_meet
          exact ⟨by rw [HQ.out], hide (Only.refl _ _)⟩
        · have b0 : decide ((0 : Int) ≤ sn) = true := by simp; omega
          by_cases hs1 : (np : Int) ≤ sn
          · have b1 : decide (sn < (np : Int)) = false := by simp; omega
            have HQ := hide (show scrB Ps l id = false by rw [HSB.out, show decide (sn < (np : Int)) = false by simp; omega]; simp)
            clear hs0 hs1
            go_wp2_with fail
            go_meet
            exact ⟨by rw [HQ.out], hide (Only.refl _ _)⟩
          · have b1 : decide (sn < (np : Int)) = true := by simp; omega
            obtain ⟨q, hq⟩ : ∃ q : Nat, sn = q := ⟨sn.toNat, by omega⟩
            subst hq
            have hqn : q < np := by omega
            have hqt : ((q : Int).toNat) = q := by omega
            rw [hqt] at HSB
            have HQ := hide (show scrB Ps l id = goodM (prM (prAt Ps q)) by rw [HSB.out, show decide ((0 : Int) ≤ (q : Int)) = true by simp, show decide ((q : Int) < (np : Int)) = true by simp; omega]; rfl)
            have HGq := hide (fun (w' : World) (k : Only NoBlk w w') => HGood.out w' k q hqn)
            obtain ⟨pb, po, rfl, hpb, p0, p1, p2, p3⟩ := HPr.out W4 (HO1.out.trans HO4.out) q hqn
            obtain ⟨gd, hgd⟩ : ∃ gd, gd = goodM (prM (prAt Ps q)) := ⟨_, rfl⟩
            have hgd' : goodM (progM (prAt Ps q).s (prAt Ps q).d (prAt Ps q).j (prAt Ps q).L) = gd := hgd.symm
            rw [hgd'] at HGq
            rw [← hgd] at HQ
            clear hgd hgd' hs0 hs1
            obtain ⟨v, hv⟩ : ∃ v, v = prAt Ps q := ⟨_, rfl⟩
            rw [← hv] at p0 p1 p2 p3 HGq
            obtain ⟨vs, vd, vj, vPA, vpc, vL⟩ := v
            obtain ⟨vn, hvn⟩ : ∃ vn, vn = vL.length := ⟨_, rfl⟩
            simp only at p0 p1 p2 p3 HGq
            rw [← hvn] at p3 HGq
            clear hvn hv
            have i1 : (0 : Int) ≤ (q : Int) := by omega
            have i2 : (q : Int) < (np : Int) := by omega
            go_wp2_with fail
            all_goals first
              | (exfalso; omega)
              | (refine (HGq.out _ (HO1.out.trans HO4.out)).mono ?_
                 rintro e w5 ⟨rfl, ho5⟩
                 have HO5 := hide ho5
                 clear ho5
                 go_wp2_with fail
                 go_meet
                 exact ⟨by rw [HQ.out], HO5⟩)
      case rest =>
        obtain ⟨rfl, hox⟩ := hcut
        clear x0 x1 x2 x3 x4 x5 x6 x7 x8
        have HLx := hide (HLf.out.only hox.out (fun h => h))
        have HOx := hide (HO4.out.trans hox.out)
        have HOwnx := hide (own_only HOwn4.out hox.out (fun _ _ h => h.elim))
        have HSrx := hide (HSr4.out.only hox.out (fun _ h => h))
        clear HLf HO4 HOwn4 HSr4 hox
        cases hsb : scrB Ps l id with
        | false =>
          have HF2 := hide (show perM Ps l (waitsP l) (List.take (k + 1) (idsL l)) = out by rw [HF.out, hsb, hout.out]; simp)
          clear hsb
          go_wp2_with fail
          go_roundw
          case rel => exact ⟨k + 1, out, by omega, by go_num, HF2, by rw [← Hm.out]; exact HOwnx, HOx⟩
          case measure => simp [intOf]; omega
        | true =>
          rw [hsb] at HSB
          have hh := HSB.out
          have hsn0 : 0 ≤ sn ∧ sn < np := by
            have := hh.symm
            simp only [Bool.and_eq_true, decide_eq_true_eq] at this
            exact this.1
          have HF2 := hide (show perM Ps l (waitsP l) (List.take (k + 1) (idsL l)) = out ++ waitsP l (prAt Ps sn.toNat) id by rw [HF.out, hsb, hout.out]; simp)
          clear hsb hh HSB
          obtain ⟨q, hq⟩ : ∃ q : Nat, sn = q := ⟨sn.toNat, by omega⟩
          subst hq
          have hqn : q < np := by omega
          have hqt : ((q : Int).toNat) = q := by omega
          rw [hqt] at HF2
          have HOwx := hide (HO1.out.trans HOx.out)
          obtain ⟨pb, po, rfl, hpb, p0, p1, p2, p3⟩ := HPr.out w (Only.refl _ w) q hqn
          have HLfq := hide (HLife.out q hqn)
          have HWv := hide (HWp.out (prAt Ps q))
          have hwl := HWq.out (prAt Ps q)
          obtain ⟨WL, hWL⟩ : ∃ WL, WL = waitsP l (prAt Ps q) id := ⟨_, rfl⟩
          rw [← hWL] at HF2 HWv hwl
          have HPM := hide (show prM (prAt Ps q) = progM (prAt Ps q).s (prAt Ps q).d (prAt Ps q).j (prAt Ps q).L from rfl)
          obtain ⟨v, hv⟩ : ∃ v, v = prAt Ps q := ⟨_, rfl⟩
          rw [← hv] at p0 p1 p2 p3 HLfq HPM HWv
          obtain ⟨vs, vd, vj, vPA, vpc, vL⟩ := v
          simp only at p0 p1 p2 p3
          obtain ⟨vn, hvn⟩ : ∃ vn, vn = vL.length := ⟨_, rfl⟩
          rw [← hvn] at p3
          have HVn := hide hvn
          have HC0 := hide p0
          have HC1 := hide p1
          have HC2 := hide p2
          have HC3 := hide p3
          have i1 : (0 : Int) ≤ (q : Int) := by omega
          have i2 : (q : Int) < (np : Int) := by omega
          have hwl' : WL.length ≤ 1001 := by omega
          clear hv hsn0 hvn hWL p0 p1 p2 p3
          go_upto_region 7 with fail
          obtain ⟨V0, hV0⟩ : ∃ V9, V9 = wc.drew := ⟨_, rfl⟩
          have HL0 := hide (HLx.out.only ((Only.refl NoBlk _).drew) (fun h => h))
          have HO0 := hide (HOx.out.drew)
          have HOn0 := hide (own_only HOwnx.out ((Only.refl NoBlk _).drew) (fun _ _ h => h.elim))
          have HSr0 := hide (HSrx.out.only ((Only.refl NoBlk _).drew) (fun _ h => h))
          rw [← hV0] at HL0 HO0 HOn0 HSr0
          refine wp_region_held (S := fun w' => w'.cell? ⟨g3, 0, none⟩ = some (.int .i64 lwho) ∧ w'.cell? ⟨g3, 1, none⟩ = some (.int .i64 (q : Int)) ∧ w'.cell? ⟨g3, 2, none⟩ = some (.int .i64 lstart) ∧ w'.cell? ⟨g3, 3, none⟩ = some (.slice LA i0 lc) ∧ w'.cell? ⟨g3, 4, none⟩ = some (.slice LB s0 ld) ∧ w'.cell? ⟨g3, 5, none⟩ = some (.string lread) ∧ w'.cell? ⟨g3, 6, none⟩ = some (.string ltaken) ∧ w'.cell? ⟨g3, 7, none⟩ = some (.bool leof) ∧ w'.cell? ⟨g3, 8, none⟩ = some (.int .i64 lstatus) ∧ w'.cell? ⟨pb, po + q * 4, none⟩ = some (.string vs) ∧ w'.cell? ⟨pb, po + q * 4 + 1, none⟩ = some (.int .i64 vd) ∧ w'.cell? ⟨pb, po + q * 4 + 2, none⟩ = some (.int .i64 vj) ∧ w'.cell? ⟨pb, po + q * 4 + 3, none⟩ = some (.slice vPA vn vpc)) (by kernel_rfl) ?_
          change wpAnyH _ _ _ _ _ _ _ _ wc.drew
          have hHeld : (fun w' => w'.cell? ⟨g3, 0, none⟩ = some (.int .i64 lwho) ∧ w'.cell? ⟨g3, 1, none⟩ = some (.int .i64 (q : Int)) ∧ w'.cell? ⟨g3, 2, none⟩ = some (.int .i64 lstart) ∧ w'.cell? ⟨g3, 3, none⟩ = some (.slice LA i0 lc) ∧ w'.cell? ⟨g3, 4, none⟩ = some (.slice LB s0 ld) ∧ w'.cell? ⟨g3, 5, none⟩ = some (.string lread) ∧ w'.cell? ⟨g3, 6, none⟩ = some (.string ltaken) ∧ w'.cell? ⟨g3, 7, none⟩ = some (.bool leof) ∧ w'.cell? ⟨g3, 8, none⟩ = some (.int .i64 lstatus) ∧ w'.cell? ⟨pb, po + q * 4, none⟩ = some (.string vs) ∧ w'.cell? ⟨pb, po + q * 4 + 1, none⟩ = some (.int .i64 vd) ∧ w'.cell? ⟨pb, po + q * 4 + 2, none⟩ = some (.int .i64 vj) ∧ w'.cell? ⟨pb, po + q * 4 + 3, none⟩ = some (.slice vPA vn vpc)) wc.drew := by rw [← hV0]; exact (by obtain ⟨⟨x0, x1, x2, x3, x4, x5, x6, x7, x8⟩, _⟩ := (HL0.out).nine; exact ⟨x0, x1, x2, x3, x4, x5, x6, x7, x8, ((HO1.out.trans HO0.out).cell (p := ⟨pb, po + q * 4, none⟩) hpb (fun h => h)).trans HC0.out, ((HO1.out.trans HO0.out).cell (p := ⟨pb, po + q * 4 + 1, none⟩) hpb (fun h => h)).trans HC1.out, ((HO1.out.trans HO0.out).cell (p := ⟨pb, po + q * 4 + 2, none⟩) hpb (fun h => h)).trans HC2.out, ((HO1.out.trans HO0.out).cell (p := ⟨pb, po + q * 4 + 3, none⟩) hpb (fun h => h)).trans HC3.out⟩)
          rw [← hV0] at hHeld ⊢
          simp only [List.size_toArray, List.length_cons, List.length_nil, Nat.zero_add, Nat.reduceAdd]
          clear hV0
          refine wpAnyH_take (i := 0) (v := ?_) rfl (by kernel_rfl) (by kernel_rfl) (by kernel_rfl) (fun _ _ _ h => h) (Or.inl ⟨by rfl, ?_⟩) (by assumption) ?_
          rotate_left
          · (intro w9 hS9; try simp only [List.getElem_toArray, List.getElem_cons_zero, List.getElem_cons_succ]
             go_simp <;> rfl)
          try simp only [Act.put, List.setIfInBounds_toArray, List.set_cons_zero, List.set_cons_succ, List.getElem_toArray, List.getElem_cons_zero, List.getElem_cons_succ]
          refine wpAnyH_take (i := 1) (v := ?_) rfl (by kernel_rfl) (by kernel_rfl) (by kernel_rfl) (fun _ _ _ h => h) (Or.inl ⟨by rfl, ?_⟩) (by assumption) ?_
          rotate_left
          · (intro w9 hS9; try simp only [List.getElem_toArray, List.getElem_cons_zero, List.getElem_cons_succ]
             go_simp <;> rfl)
          try simp only [Act.put, List.setIfInBounds_toArray, List.set_cons_zero, List.set_cons_succ, List.getElem_toArray, List.getElem_cons_zero, List.getElem_cons_succ]
          refine wpAnyH_take (i := 2) (v := ?_) rfl (by kernel_rfl) (by kernel_rfl) (by kernel_rfl) (fun _ _ _ h => h) (Or.inl ⟨by rfl, ?_⟩) (by assumption) ?_
          rotate_left
          · (intro w9 hS9; try simp only [List.getElem_toArray, List.getElem_cons_zero, List.getElem_cons_succ]
             go_simp <;> rfl)
          try simp only [Act.put, List.setIfInBounds_toArray, List.set_cons_zero, List.set_cons_succ, List.getElem_toArray, List.getElem_cons_zero, List.getElem_cons_succ]
          refine wpAnyH_take (i := 3) (v := ?_) rfl (by kernel_rfl) (by kernel_rfl) (by kernel_rfl) (fun _ _ _ h => h) (Or.inl ⟨by rfl, ?_⟩) (by assumption) ?_
          rotate_left
          · (intro w9 hS9; try simp only [List.getElem_toArray, List.getElem_cons_zero, List.getElem_cons_succ]
             go_simp <;> rfl)
          try simp only [Act.put, List.setIfInBounds_toArray, List.set_cons_zero, List.set_cons_succ, List.getElem_toArray, List.getElem_cons_zero, List.getElem_cons_succ]
          refine wpAnyH_take (i := 4) (v := ?_) rfl (by kernel_rfl) (by kernel_rfl) (by kernel_rfl) (fun _ _ _ h => h) (Or.inl ⟨by rfl, ?_⟩) (by assumption) ?_
          rotate_left
          · (intro w9 hS9; try simp only [List.getElem_toArray, List.getElem_cons_zero, List.getElem_cons_succ]
             go_simp <;> rfl)
          try simp only [Act.put, List.setIfInBounds_toArray, List.set_cons_zero, List.set_cons_succ, List.getElem_toArray, List.getElem_cons_zero, List.getElem_cons_succ]
          refine wpAnyH_take (i := 5) (v := ?_) rfl (by kernel_rfl) (by kernel_rfl) (by kernel_rfl) (fun _ _ _ h => h) (Or.inl ⟨by rfl, ?_⟩) (by assumption) ?_
          rotate_left
          · (intro w9 hS9; try simp only [List.getElem_toArray, List.getElem_cons_zero, List.getElem_cons_succ]
             go_simp <;> rfl)
          try simp only [Act.put, List.setIfInBounds_toArray, List.set_cons_zero, List.set_cons_succ, List.getElem_toArray, List.getElem_cons_zero, List.getElem_cons_succ]
          refine wpAnyH_take (i := 6) (v := ?_) rfl (by kernel_rfl) (by kernel_rfl) (by kernel_rfl) (fun _ _ _ h => h) (Or.inl ⟨by rfl, ?_⟩) (by assumption) ?_
          rotate_left
          · (intro w9 hS9; try simp only [List.getElem_toArray, List.getElem_cons_zero, List.getElem_cons_succ]
             go_simp <;> rfl)
          try simp only [Act.put, List.setIfInBounds_toArray, List.set_cons_zero, List.set_cons_succ, List.getElem_toArray, List.getElem_cons_zero, List.getElem_cons_succ]
          refine wpAnyH_ready (rs := [7]) (by kernel_rfl) (by simp) ?_
          refine AllReadyH.cons rfl (fun K hK => ?_) AllReadyH.nil
          try simp only [List.getElem_toArray, List.getElem_cons_zero, List.getElem_cons_succ]
          try go_simp
          go_at_call 90
          have hcl := HLfq.out V0 (HO1.out.trans HO0.out) lwho q lstart LA i0 lc LB lsteps ld lread ltaken leof lstatus HTq.out.2 HSr0.out (Nat.le_trans HSq.out (by omega)) HTq.out.1
          rw [← HS0.out] at hcl
          rw [show progM _ _ _ _ = prM ⟨vs, vd, vj, vPA, vpc, vL⟩ from HPM.out.symm, ← HWv.out, show (PrV.L ⟨vs, vd, vj, vPA, vpc, vL⟩).length = vn from HVn.out.symm] at hcl
          dsimp only at hcl
          refine hcl.mono ?_
          rintro e V1 ⟨⟨WA, wc9, rfl, hrd9⟩, hb9⟩
          have HL1 := hide (HL0.out.below hb9)
          have HO1' := hide (HO0.out.trans (Only.of_below hb9 _))
          have HOn1 := hide (own_only HOn0.out (Only.of_below hb9 NoBlk) (fun _ _ h => h.elim))
          have HRd9 := hide hrd9
          clear hrd9 hb9 hcl
          obtain ⟨wn, hwn⟩ : ∃ wn, wn = WL.length := ⟨_, rfl⟩
          rw [← hwn] at hwl' ⊢
          have HWn := hide hwn
          clear hwn
          refine hK.out _ _ (by obtain ⟨⟨x0, x1, x2, x3, x4, x5, x6, x7, x8⟩, _⟩ := (HL1.out).nine; exact ⟨x0, x1, x2, x3, x4, x5, x6, x7, x8, ((HO1.out.trans HO1'.out).cell (p := ⟨pb, po + q * 4, none⟩) hpb (fun h => h)).trans HC0.out, ((HO1.out.trans HO1'.out).cell (p := ⟨pb, po + q * 4 + 1, none⟩) hpb (fun h => h)).trans HC1.out, ((HO1.out.trans HO1'.out).cell (p := ⟨pb, po + q * 4 + 2, none⟩) hpb (fun h => h)).trans HC2.out, ((HO1.out.trans HO1'.out).cell (p := ⟨pb, po + q * 4 + 3, none⟩) hpb (fun h => h)).trans HC3.out⟩) (fun hHeld => ?_)
          clear hK K
          try simp only [Act.put, List.setIfInBounds_toArray, List.set_cons_zero, List.set_cons_succ, List.getElem_toArray, List.getElem_cons_zero, List.getElem_cons_succ]
          refine wpAnyH_ready (rs := [8]) (by kernel_rfl) (by simp) ?_
          refine AllReadyH.cons rfl (fun K hK => ?_) AllReadyH.nil
          have hsz1 : w1.heap.size ≤ V1.heap.size := HO1'.out.size
          refine step_append_rd V1 (by rfl) (.tmp 41) (.tmp 48) _ (by rfl) w1.heap.size 84 il _ 7 56 Tryz.underlying54 hil hlz0 hlz1 hlz2 rfl (by omega) (.slice OA m oc) m (flat encWt out) (by rfl) HOn1.out NoBlk WA wn wc9 (flat encWt WL) (by rfl) HRd9.out (by rw [flat_len encWt 7 encWt_len, HWn.out]) (flat_oneW encWt_one WL) (by simp only [maxLen]; omega) (by omega) hsz1 ?_
          intro v9 V3 hown2 hgr _
          have HOwn9 := hide hown2
          have Gr := hide hgr
          have HL3 := hide (Blk.grown HL1.out HOn1.out (by decide) hgr)
          have HOV3 := hide (HO1'.out.grown hgr (fun j hj => Or.inr (own_ge HOn1.out j hj)))
          obtain ⟨NA, nc, rfl, _⟩ := own_cap hown2
          clear hown2 hgr
          refine hK.out _ _ (by obtain ⟨⟨x0, x1, x2, x3, x4, x5, x6, x7, x8⟩, _⟩ := (HL3.out).nine; exact ⟨x0, x1, x2, x3, x4, x5, x6, x7, x8, ((HO1.out.trans HOV3.out).cell (p := ⟨pb, po + q * 4, none⟩) hpb (fun h => h)).trans HC0.out, ((HO1.out.trans HOV3.out).cell (p := ⟨pb, po + q * 4 + 1, none⟩) hpb (fun h => h)).trans HC1.out, ((HO1.out.trans HOV3.out).cell (p := ⟨pb, po + q * 4 + 2, none⟩) hpb (fun h => h)).trans HC2.out, ((HO1.out.trans HOV3.out).cell (p := ⟨pb, po + q * 4 + 3, none⟩) hpb (fun h => h)).trans HC3.out⟩) (fun hHeld => ?_)
          clear hK K
          try simp only [Act.put, List.setIfInBounds_toArray, List.set_cons_zero, List.set_cons_succ, List.getElem_toArray, List.getElem_cons_zero, List.getElem_cons_succ]
          refine wpAnyH_take (i := 9) (v := ?_) rfl (by kernel_rfl) (by kernel_rfl) (by kernel_rfl) (fun _ _ _ h => h) (Or.inl ⟨by rfl, ?_⟩) (by assumption) ?_
          rotate_left
          · (intro w9 hS9; try simp only [List.getElem_toArray, List.getElem_cons_zero, List.getElem_cons_succ]
             go_simp <;> rfl)
          try simp only [Act.put, List.setIfInBounds_toArray, List.set_cons_zero, List.set_cons_succ, List.getElem_toArray, List.getElem_cons_zero, List.getElem_cons_succ]
          refine wpAnyH_done (by kernel_rfl) ?_ _
          try simp only [Exit.then]
          clear hHeld
          go_wp2_with fail
          go_roundw
          case rel =>
            refine ⟨k + 1, out ++ WL, by omega, by go_num, HF2, ?_, HOV3⟩
            rw [List.length_append, ← Hm.out, ← HWn.out, flat_append]
            exact HOwn9
          case measure => simp [intOf]; omega
end Go.Proofs.YtdmdohjdmnmabaaGreat
namespace Go.Proofs.YtdmdohjdmnmabaaGreat
open Go.RowKit
set_option linter.unusedVariables false
set_option linter.unusedSimpArgs false
set_option maxRecDepth 100000 in
set_option maxHeartbeats 6400000 in
theorem WaitsOf_c (SA : Option Addr) (sc : Nat) (Ps : List PrV) (A : Option Addr) (c : Nat) (l : List Ev) (w : World) (hs : PrsRd w NoBlk SA Ps) (hsn : Ps.length ≤ maxLen) (hsz : ∀ v ∈ Ps, PrSz v) (hnn : ∀ v ∈ Ps, PrNn v) (hr : Rd w NoBlk A (flat encEv l)) (hn : l.length ≤ 1000) (hx : ∀ x ∈ l, x.s.size ≤ 100) (htk : TkOk l) (hlc : l.length ≤ c) :
    Calls Tryz.prog 24 #[.slice SA Ps.length sc, .slice A l.length c] w fun e w' => (∃ A1 c1, e = .returned (.slice A1 (waitsM Ps l).length c1) ∧ Rd w' NoBlk A1 (flat encWt (waitsM Ps l))) ∧ Only NoBlk w w' := by
  have HP := hide (waitsof_c SA sc Ps A c l w hs hsn hsz hnn hr hn hx htk hlc)
  obtain ⟨T, hT⟩ : ∃ T, T = waitsM Ps l := ⟨_, rfl⟩
  obtain ⟨n, hnl⟩ : ∃ n, n = l.length := ⟨_, rfl⟩
  obtain ⟨np, hnp⟩ : ∃ np, np = Ps.length := ⟨_, rfl⟩
  rw [← hT, ← hnl, ← hnp] at HP
  rw [← hT, ← hnl, ← hnp]
  clear hs hsn hsz hnn hr hn hx htk hlc hT hnl hnp
  go_enter Tryz.func24, Tryz.ntmps24
  go_wp2_with fail
  refine HP.out.mono ?_
  rintro e w2 ⟨⟨A1, c1, rfl, hr2⟩, ho2⟩
  go_wp2_with fail
  go_ret
  exact ⟨⟨A1, c1, rfl, hr2⟩, ho2⟩
set_option maxRecDepth 100000 in
set_option maxHeartbeats 6400000 in
theorem wbound_c (s : SetM) (x : WtM) (each : Int) (w : World) (hg : goodB s = true) (hw0 : 0 ≤ waitS s ∧ waitS s ≤ 1000000000) (ha : x.until_ ≤ 9223372036854775807) (he : each ≤ 9223372036854775807) :
    Calls Tryz.prog 60 #[.agg (setV s), .agg #[.int .i64 x.id, .int .i64 x.op, .int .i64 x.from_, .int .i64 x.until_, .bool x.done, .int .i64 x.at_, .int .i64 x.what], .int .i64 each] w fun e w' => e = .returned (.int .i64 (untilS s x.until_ each)) ∧ Below w.heap.size w w' := by
  have HU := hide (fun w => Until_c s x.until_ each w hg hw0 ha he)
  obtain ⟨T, hT⟩ : ∃ T, T = untilS s x.until_ each := ⟨_, rfl⟩
  rw [← hT] at HU ⊢
  have HB := hide ((below_alloc w (.cells (setV s) 33)).alloc (by simp) (.cells #[.int .i64 x.id, .int .i64 x.op, .int .i64 x.from_, .int .i64 x.until_, .bool x.done, .int .i64 x.at_, .int .i64 x.what] 84))
  clear hg hw0 ha he hT
  go_enter Tryz.func60, Tryz.ntmps60
  go_wp2_with fail
  refine (HU.out _).mono ?_
  rintro e w2 ⟨rfl, hb2⟩
  have HB2 := hide (HB.out.trans (hb2.mono HB.out.size))
  clear hb2
  go_wp2_with fail
  go_ret
  exact ⟨rfl, HB2.out⟩
set_option maxRecDepth 100000 in
set_option maxHeartbeats 6400000 in
theorem wBound_c (s : SetM) (x : WtM) (each : Int) (w : World) (hg : goodB s = true) (hw0 : 0 ≤ waitS s ∧ waitS s ≤ 1000000000) (ha : x.until_ ≤ 9223372036854775807) (he : each ≤ 9223372036854775807) :
    Calls Tryz.prog 43 #[.agg (setV s), .agg #[.int .i64 x.id, .int .i64 x.op, .int .i64 x.from_, .int .i64 x.until_, .bool x.done, .int .i64 x.at_, .int .i64 x.what], .int .i64 each] w fun e w' => e = .returned (.int .i64 (untilS s x.until_ each)) ∧ Below w.heap.size w w' := by
  have HU := hide (fun w => wbound_c s x each w hg hw0 ha he)
  obtain ⟨T, hT⟩ : ∃ T, T = untilS s x.until_ each := ⟨_, rfl⟩
  rw [← hT] at HU ⊢
  have HB := hide ((below_alloc w (.cells (setV s) 33)).alloc (by simp) (.cells #[.int .i64 x.id, .int .i64 x.op, .int .i64 x.from_, .int .i64 x.until_, .bool x.done, .int .i64 x.at_, .int .i64 x.what] 84))
  clear hg hw0 ha he hT
  go_enter Tryz.func43, Tryz.ntmps43
  go_wp2_with fail
  refine (HU.out _).mono ?_
  rintro e w2 ⟨rfl, hb2⟩
  have HB2 := hide (HB.out.trans (hb2.mono HB.out.size))
  clear hb2
  go_wp2_with fail
  go_ret
  exact ⟨rfl, HB2.out⟩
def op35 : OpM := ⟨2, ⟨#[]⟩, 10, 0, [], 1, -1⟩
def ev35 : List Ev := [⟨1, 0, 0, 3, ⟨#[]⟩, 0, ⟨0, 0, 0, 0, 0, 0⟩⟩, ⟨2, 0, 0, 0, ⟨#[]⟩, 0, ⟨0, 0, 0, 0, 0, 0⟩⟩, ⟨8, 0, 0, 0, ⟨#[]⟩, 0, ⟨14, 0, 3, 0, 0, 0⟩⟩]
theorem lit35 (A B : Option Addr) (c d : Nat) : waitsM [⟨⟨#[97]⟩, 99, 0, A, c, [⟨op35, B, d⟩]⟩] ev35 = [⟨0, 0, 3, 13, true, 14, 3⟩] := by rfl
end Go.Proofs.YtdmdohjdmnmabaaGreat
namespace Go.Proofs.YtdmdohjdmnmabaaGreat
open Go.RowKit
set_option linter.unusedVariables false
set_option linter.unusedSimpArgs false
set_option maxRecDepth 100000 in
set_option maxHeartbeats 6400000 in
theorem lives35_c (w : World) : Calls Tryz.prog 12 #[] w fun e w' => e = .returned (.bool true) ∧ Only NoBlk w w' := by
  go_enter Tryz.func12, Tryz.ntmps12
  go_wp2_with fail
  refine (WaitsOf_c (some ⟨w.heap.size + 1 + 1, 0, none⟩) 1 [⟨⟨#[97]⟩, 99, 0, some ⟨w.heap.size, 0, none⟩, 1, [⟨op35, none, 0⟩]⟩] (some ⟨w.heap.size + 1 + 1 + 1, 0, none⟩) 3 ev35 _ ⟨?_, ?_⟩ (by simp [maxLen]) ?_ ?_ ?_ (by decide) (by decide) (by unfold TkOk; decide) (by decide)).mono ?_
  · exact rd_blkN (t := 24) (Blk.alloc (Blk.new' (by simp)) _) (fun h => h)
  · intro v hv
    simp only [List.mem_singleton] at hv
    subst hv
    refine ⟨rd_blkN (t := 75) (Blk.alloc (Blk.alloc (Blk.alloc (Blk.new' rfl) _) _) _) (fun h => h), ?_⟩
    intro o ho
    simp only [List.mem_singleton] at ho
    subst ho
    exact Rd.nil
  · intro v hv
    simp only [List.mem_singleton] at hv
    subst hv
    refine ⟨by simp [maxLen], show (⟨#[97]⟩ : ByteArray).size ≤ 9223372036854775807 by decide, ?_⟩
    intro o ho
    simp only [List.mem_singleton] at ho
    subst ho
    exact ⟨show op35.text.size ≤ 9223372036854775807 by decide, by simp [op35, maxLen], show ∀ a ∈ op35.arms, a.pat.size ≤ 9223372036854775807 by decide⟩
  · intro v hv
    simp only [List.mem_singleton] at hv
    subst hv
    intro o ho
    simp only [List.mem_singleton] at ho
    subst ho
    show (10 : Int) ≤ 9223372036854775807
    decide
  · exact rd_blkN (t := 82) (Blk.new' (by simp)) (fun h => h)
  · rintro e w2 ⟨⟨A1, c1, he, hr2⟩, ho2⟩
    rw [lit35] at he hr2
    subst he
    obtain ⟨b, o, rfl, _, hb, hc⟩ := flat_cells encWt_len hr2 0 ⟨0, 0, 3, 13, true, 14, 3⟩ rfl (by omega)
    have g0 := hc 0 (by omega)
    have g1 := hc 1 (by omega)
    have g2 := hc 2 (by omega)
    have g3 := hc 3 (by omega)
    have g4 := hc 4 (by omega)
    have g5 := hc 5 (by omega)
    have g6 := hc 6 (by omega)
    simp [encWt] at g0 g1 g2 g3 g4 g5 g6
    have HO := hide (show Only NoBlk w w2 from ((((((Only.refl NoBlk w).alloc _).alloc _).alloc _).alloc _)).trans ho2)
    have HRo := hide (fun w => wBound_c ⟨2, 4, 4, 4, 9, 1⟩ ⟨0, 0, 3, 13, true, 14, 3⟩ 2 w (by decide) (by decide) (by decide) (by decide))
    rw [show untilS ⟨2, 4, 4, 4, 9, 1⟩ 13 2 = 19 from by decide] at HRo
    have HG0 := hide g0
    have HG1 := hide g1
    have HG2 := hide g2
    have HG3 := hide g3
    have HG4 := hide g4
    have HG5 := hide g5
    have HG6 := hide g6
    clear hr2 ho2 hc g0 g1 g2 g3 g4 g5 g6
    simp only [List.length_cons, List.length_nil, Nat.zero_add]
    go_upto_region 4 with fail
    obtain ⟨W4, hW4⟩ : ∃ W4, W4 = w2.alloc (.cells #[.int .i64 2, .int .i64 4, .int .i64 4, .int .i64 4, .int .i64 9, .int .i64 1] 33) := ⟨_, rfl⟩
    have HO4 := hide (show Only NoBlk w W4 by rw [hW4]; exact HO.out.alloc _)
    have HS4 := hide (show Blk W4 w2.heap.size 33 #[.int .i64 2, .int .i64 4, .int .i64 4, .int .i64 4, .int .i64 9, .int .i64 1] by rw [hW4]; exact Blk.new _ _ _)
    have HB4 := hide (show Below w2.heap.size w2 W4 by rw [hW4]; exact below_alloc _ _)
    rw [← hW4]
    clear hW4
    obtain ⟨V0, hV0⟩ : ∃ V9, V9 = W4.drew := ⟨_, rfl⟩
    have HO0 := hide (HO4.out.drew)
    have HS0 := hide (HS4.out.only ((Only.refl NoBlk _).drew) (fun h => h))
    have HB0 := hide (below_dr HB4.out)
    rw [← hV0] at HO0 HS0 HB0
    refine wp_region_held (S := fun w' => w'.cell? ⟨b, o, none⟩ = some (.int .i64 0) ∧ w'.cell? ⟨b, o + 1, none⟩ = some (.int .i64 0) ∧ w'.cell? ⟨b, o + 2, none⟩ = some (.int .i64 3) ∧ w'.cell? ⟨b, o + 3, none⟩ = some (.int .i64 13) ∧ w'.cell? ⟨b, o + 4, none⟩ = some (.bool true) ∧ w'.cell? ⟨b, o + 5, none⟩ = some (.int .i64 14) ∧ w'.cell? ⟨b, o + 6, none⟩ = some (.int .i64 3) ∧ w'.cell? ⟨w2.heap.size, 0, none⟩ = some (.int .i64 2) ∧ w'.cell? ⟨w2.heap.size, 1, none⟩ = some (.int .i64 4) ∧ w'.cell? ⟨w2.heap.size, 2, none⟩ = some (.int .i64 4) ∧ w'.cell? ⟨w2.heap.size, 3, none⟩ = some (.int .i64 4) ∧ w'.cell? ⟨w2.heap.size, 4, none⟩ = some (.int .i64 9) ∧ w'.cell? ⟨w2.heap.size, 5, none⟩ = some (.int .i64 1)) (by kernel_rfl) ?_
    change wpAnyH _ _ _ _ _ _ _ _ W4.drew
    have hHeld : (fun w' => w'.cell? ⟨b, o, none⟩ = some (.int .i64 0) ∧ w'.cell? ⟨b, o + 1, none⟩ = some (.int .i64 0) ∧ w'.cell? ⟨b, o + 2, none⟩ = some (.int .i64 3) ∧ w'.cell? ⟨b, o + 3, none⟩ = some (.int .i64 13) ∧ w'.cell? ⟨b, o + 4, none⟩ = some (.bool true) ∧ w'.cell? ⟨b, o + 5, none⟩ = some (.int .i64 14) ∧ w'.cell? ⟨b, o + 6, none⟩ = some (.int .i64 3) ∧ w'.cell? ⟨w2.heap.size, 0, none⟩ = some (.int .i64 2) ∧ w'.cell? ⟨w2.heap.size, 1, none⟩ = some (.int .i64 4) ∧ w'.cell? ⟨w2.heap.size, 2, none⟩ = some (.int .i64 4) ∧ w'.cell? ⟨w2.heap.size, 3, none⟩ = some (.int .i64 4) ∧ w'.cell? ⟨w2.heap.size, 4, none⟩ = some (.int .i64 9) ∧ w'.cell? ⟨w2.heap.size, 5, none⟩ = some (.int .i64 1)) W4.drew := by rw [← hV0]; exact (by refine ⟨bkeepL HB0.out hb HG0.out, bkeepL HB0.out hb HG1.out, bkeepL HB0.out hb HG2.out, bkeepL HB0.out hb HG3.out, bkeepL HB0.out hb HG4.out, bkeepL HB0.out hb HG5.out, bkeepL HB0.out hb HG6.out, (by rw [(HS0.out).cell]; rfl), (by rw [(HS0.out).cell]; rfl), (by rw [(HS0.out).cell]; rfl), (by rw [(HS0.out).cell]; rfl), (by rw [(HS0.out).cell]; rfl), (by rw [(HS0.out).cell]; rfl)⟩)
    rw [← hV0] at hHeld ⊢
    simp only [List.size_toArray, List.length_cons, List.length_nil, Nat.zero_add, Nat.reduceAdd]
    clear hV0
    refine wpAnyH_take (i := 0) (v := ?_) rfl (by kernel_rfl) (by kernel_rfl) (by kernel_rfl) (fun _ _ _ h => h) (Or.inl ⟨by rfl, ?_⟩) (by assumption) ?_
    rotate_left
    · (intro w9 hS9; try simp only [List.getElem_toArray, List.getElem_cons_zero, List.getElem_cons_succ]
       go_simp <;> rfl)
    try simp only [Act.put, List.setIfInBounds_toArray, List.set_cons_zero, List.set_cons_succ, List.getElem_toArray, List.getElem_cons_zero, List.getElem_cons_succ]
    refine wpAnyH_take (i := 1) (v := ?_) rfl (by kernel_rfl) (by kernel_rfl) (by kernel_rfl) (fun _ _ _ h => h) (Or.inl ⟨by rfl, ?_⟩) (by assumption) ?_
    rotate_left
    · (intro w9 hS9; try simp only [List.getElem_toArray, List.getElem_cons_zero, List.getElem_cons_succ]
       go_simp <;> rfl)
    try simp only [Act.put, List.setIfInBounds_toArray, List.set_cons_zero, List.set_cons_succ, List.getElem_toArray, List.getElem_cons_zero, List.getElem_cons_succ]
    refine wpAnyH_take (i := 2) (v := ?_) rfl (by kernel_rfl) (by kernel_rfl) (by kernel_rfl) (fun _ _ _ h => h) (Or.inl ⟨by rfl, ?_⟩) (by assumption) ?_
    rotate_left
    · (intro w9 hS9; try simp only [List.getElem_toArray, List.getElem_cons_zero, List.getElem_cons_succ]
       go_simp <;> rfl)
    try simp only [Act.put, List.setIfInBounds_toArray, List.set_cons_zero, List.set_cons_succ, List.getElem_toArray, List.getElem_cons_zero, List.getElem_cons_succ]
    refine wpAnyH_take (i := 3) (v := ?_) rfl (by kernel_rfl) (by kernel_rfl) (by kernel_rfl) (fun _ _ _ h => h) (Or.inl ⟨by rfl, ?_⟩) (by assumption) ?_
    rotate_left
    · (intro w9 hS9; try simp only [List.getElem_toArray, List.getElem_cons_zero, List.getElem_cons_succ]
       go_simp <;> rfl)
    try simp only [Act.put, List.setIfInBounds_toArray, List.set_cons_zero, List.set_cons_succ, List.getElem_toArray, List.getElem_cons_zero, List.getElem_cons_succ]
    refine wpAnyH_take (i := 4) (v := ?_) rfl (by kernel_rfl) (by kernel_rfl) (by kernel_rfl) (fun _ _ _ h => h) (Or.inl ⟨by rfl, ?_⟩) (by assumption) ?_
    rotate_left
    · (intro w9 hS9; try simp only [List.getElem_toArray, List.getElem_cons_zero, List.getElem_cons_succ]
       go_simp <;> rfl)
    try simp only [Act.put, List.setIfInBounds_toArray, List.set_cons_zero, List.set_cons_succ, List.getElem_toArray, List.getElem_cons_zero, List.getElem_cons_succ]
    refine wpAnyH_take (i := 5) (v := ?_) rfl (by kernel_rfl) (by kernel_rfl) (by kernel_rfl) (fun _ _ _ h => h) (Or.inl ⟨by rfl, ?_⟩) (by assumption) ?_
    rotate_left
    · (intro w9 hS9; try simp only [List.getElem_toArray, List.getElem_cons_zero, List.getElem_cons_succ]
       go_simp <;> rfl)
    try simp only [Act.put, List.setIfInBounds_toArray, List.set_cons_zero, List.set_cons_succ, List.getElem_toArray, List.getElem_cons_zero, List.getElem_cons_succ]
    refine wpAnyH_take (i := 6) (v := ?_) rfl (by kernel_rfl) (by kernel_rfl) (by kernel_rfl) (fun _ _ _ h => h) (Or.inl ⟨by rfl, ?_⟩) (by assumption) ?_
    rotate_left
    · (intro w9 hS9; try simp only [List.getElem_toArray, List.getElem_cons_zero, List.getElem_cons_succ]
       go_simp <;> rfl)
    try simp only [Act.put, List.setIfInBounds_toArray, List.set_cons_zero, List.set_cons_succ, List.getElem_toArray, List.getElem_cons_zero, List.getElem_cons_succ]
    refine wpAnyH_take (i := 7) (v := ?_) rfl (by kernel_rfl) (by kernel_rfl) (by kernel_rfl) (fun _ _ _ h => h) (Or.inl ⟨by rfl, ?_⟩) (by assumption) ?_
    rotate_left
    · (intro w9 hS9; try simp only [List.getElem_toArray, List.getElem_cons_zero, List.getElem_cons_succ]
       go_simp <;> rfl)
    try simp only [Act.put, List.setIfInBounds_toArray, List.set_cons_zero, List.set_cons_succ, List.getElem_toArray, List.getElem_cons_zero, List.getElem_cons_succ]
    refine wpAnyH_take (i := 8) (v := ?_) rfl (by kernel_rfl) (by kernel_rfl) (by kernel_rfl) (fun _ _ _ h => h) (Or.inl ⟨by rfl, ?_⟩) (by assumption) ?_
    rotate_left
    · (intro w9 hS9; try simp only [List.getElem_toArray, List.getElem_cons_zero, List.getElem_cons_succ]
       go_simp <;> rfl)
    try simp only [Act.put, List.setIfInBounds_toArray, List.set_cons_zero, List.set_cons_succ, List.getElem_toArray, List.getElem_cons_zero, List.getElem_cons_succ]
    refine wpAnyH_take (i := 9) (v := ?_) rfl (by kernel_rfl) (by kernel_rfl) (by kernel_rfl) (fun _ _ _ h => h) (Or.inl ⟨by rfl, ?_⟩) (by assumption) ?_
    rotate_left
    · (intro w9 hS9; try simp only [List.getElem_toArray, List.getElem_cons_zero, List.getElem_cons_succ]
       go_simp <;> rfl)
    try simp only [Act.put, List.setIfInBounds_toArray, List.set_cons_zero, List.set_cons_succ, List.getElem_toArray, List.getElem_cons_zero, List.getElem_cons_succ]
    refine wpAnyH_take (i := 10) (v := ?_) rfl (by kernel_rfl) (by kernel_rfl) (by kernel_rfl) (fun _ _ _ h => h) (Or.inl ⟨by rfl, ?_⟩) (by assumption) ?_
    rotate_left
    · (intro w9 hS9; try simp only [List.getElem_toArray, List.getElem_cons_zero, List.getElem_cons_succ]
       go_simp <;> rfl)
    try simp only [Act.put, List.setIfInBounds_toArray, List.set_cons_zero, List.set_cons_succ, List.getElem_toArray, List.getElem_cons_zero, List.getElem_cons_succ]
    refine wpAnyH_take (i := 11) (v := ?_) rfl (by kernel_rfl) (by kernel_rfl) (by kernel_rfl) (fun _ _ _ h => h) (Or.inl ⟨by rfl, ?_⟩) (by assumption) ?_
    rotate_left
    · (intro w9 hS9; try simp only [List.getElem_toArray, List.getElem_cons_zero, List.getElem_cons_succ]
       go_simp <;> rfl)
    try simp only [Act.put, List.setIfInBounds_toArray, List.set_cons_zero, List.set_cons_succ, List.getElem_toArray, List.getElem_cons_zero, List.getElem_cons_succ]
    refine wpAnyH_take (i := 12) (v := ?_) rfl (by kernel_rfl) (by kernel_rfl) (by kernel_rfl) (fun _ _ _ h => h) (Or.inl ⟨by rfl, ?_⟩) (by assumption) ?_
    rotate_left
    · (intro w9 hS9; try simp only [List.getElem_toArray, List.getElem_cons_zero, List.getElem_cons_succ]
       go_simp <;> rfl)
    try simp only [Act.put, List.setIfInBounds_toArray, List.set_cons_zero, List.set_cons_succ, List.getElem_toArray, List.getElem_cons_zero, List.getElem_cons_succ]
    refine wpAnyH_take (i := 13) (v := ?_) rfl (by kernel_rfl) (by kernel_rfl) (by kernel_rfl) (fun _ _ _ h => h) (Or.inl ⟨by rfl, ?_⟩) (by assumption) ?_
    rotate_left
    · (intro w9 hS9; try simp only [List.getElem_toArray, List.getElem_cons_zero, List.getElem_cons_succ]
       go_simp <;> rfl)
    try simp only [Act.put, List.setIfInBounds_toArray, List.set_cons_zero, List.set_cons_succ, List.getElem_toArray, List.getElem_cons_zero, List.getElem_cons_succ]
    refine wpAnyH_take (i := 14) (v := ?_) rfl (by kernel_rfl) (by kernel_rfl) (by kernel_rfl) (fun _ _ _ h => h) (Or.inl ⟨by rfl, ?_⟩) (by assumption) ?_
    rotate_left
    · (intro w9 hS9; try simp only [List.getElem_toArray, List.getElem_cons_zero, List.getElem_cons_succ]
       go_simp <;> rfl)
    try simp only [Act.put, List.setIfInBounds_toArray, List.set_cons_zero, List.set_cons_succ, List.getElem_toArray, List.getElem_cons_zero, List.getElem_cons_succ]
    refine wpAnyH_ready (rs := [15]) (by kernel_rfl) (by simp) ?_
    refine AllReadyH.cons rfl (fun K hK => ?_) AllReadyH.nil
    try simp only [List.getElem_toArray, List.getElem_cons_zero, List.getElem_cons_succ]
    try go_simp
    go_at_call 43
    refine (HRo.out _).mono ?_
    rintro e V1 ⟨rfl, hb1⟩
    have HO1 := hide (HO0.out.trans (Only.of_below hb1 _))
    have HS1 := hide (HS0.out.below hb1)
    have HB1 := hide (HB0.out.trans (hb1.mono HB0.out.size))
    clear hb1
    refine hK.out _ _ (by refine ⟨bkeepL HB1.out hb HG0.out, bkeepL HB1.out hb HG1.out, bkeepL HB1.out hb HG2.out, bkeepL HB1.out hb HG3.out, bkeepL HB1.out hb HG4.out, bkeepL HB1.out hb HG5.out, bkeepL HB1.out hb HG6.out, (by rw [(HS1.out).cell]; rfl), (by rw [(HS1.out).cell]; rfl), (by rw [(HS1.out).cell]; rfl), (by rw [(HS1.out).cell]; rfl), (by rw [(HS1.out).cell]; rfl), (by rw [(HS1.out).cell]; rfl)⟩) (fun hHeld => ?_)
    clear hK K
    try simp only [Act.put, List.setIfInBounds_toArray, List.set_cons_zero, List.set_cons_succ, List.getElem_toArray, List.getElem_cons_zero, List.getElem_cons_succ]
    refine wpAnyH_take (i := 16) (v := ?_) rfl (by kernel_rfl) (by kernel_rfl) (by kernel_rfl) (fun _ _ _ h => h) (Or.inl ⟨by rfl, ?_⟩) (by assumption) ?_
    rotate_left
    · (intro w9 hS9; try simp only [List.getElem_toArray, List.getElem_cons_zero, List.getElem_cons_succ]
       go_simp <;> rfl)
    try simp only [Act.put, List.setIfInBounds_toArray, List.set_cons_zero, List.set_cons_succ, List.getElem_toArray, List.getElem_cons_zero, List.getElem_cons_succ]
    refine wpAnyH_take (i := 17) (v := ?_) rfl (by kernel_rfl) (by kernel_rfl) (by kernel_rfl) (fun _ _ _ h => h) (Or.inl ⟨by rfl, ?_⟩) (by assumption) ?_
    rotate_left
    · (intro w9 hS9; try simp only [List.getElem_toArray, List.getElem_cons_zero, List.getElem_cons_succ]
       go_simp <;> rfl)
    try simp only [Act.put, List.setIfInBounds_toArray, List.set_cons_zero, List.set_cons_succ, List.getElem_toArray, List.getElem_cons_zero, List.getElem_cons_succ]
    refine wpAnyH_take (i := 18) (v := ?_) rfl (by kernel_rfl) (by kernel_rfl) (by kernel_rfl) (fun _ _ _ h => h) (Or.inl ⟨by rfl, ?_⟩) (by assumption) ?_
    rotate_left
    · (intro w9 hS9; try simp only [List.getElem_toArray, List.getElem_cons_zero, List.getElem_cons_succ]
       go_simp <;> rfl)
    try simp only [Act.put, List.setIfInBounds_toArray, List.set_cons_zero, List.set_cons_succ, List.getElem_toArray, List.getElem_cons_zero, List.getElem_cons_succ]
    refine wpAnyH_done (by kernel_rfl) ?_ _
    try simp only [Exit.then]
    clear hHeld
    go_wp2_with fail
    go_ret
    exact ⟨rfl, HO1.out⟩
end Go.Proofs.YtdmdohjdmnmabaaGreat
namespace Go.Proofs.YtdmdohjdmnmabaaGreat
open Go.ChangeShapes Go.WideShapes Go.ChangeAt Go.RowKit Go.Deep
theorem list2' {α : Type} {l : List α} {a b : α} (h : l.length = 2) (h0 : l[0]? = some a) (h1 : l[1]? = some b) : l = [a, b] := by
  match l, h with
  | [x0, x1], _ => simp at h0 h1; rw [h0, h1]
theorem list4' {α : Type} {l : List α} {a b c d : α} (h : l.length = 4) (h0 : l[0]? = some a) (h1 : l[1]? = some b) (h2 : l[2]? = some c) (h3 : l[3]? = some d) : l = [a, b, c, d] := by
  match l, h with
  | [x0, x1, x2, x3], _ => simp at h0 h1 h2 h3; rw [h0, h1, h2, h3]
theorem list7' {α : Type} {l : List α} {a b c d e f g : α} (h : l.length = 7) (h0 : l[0]? = some a) (h1 : l[1]? = some b) (h2 : l[2]? = some c) (h3 : l[3]? = some d) (h4 : l[4]? = some e) (h5 : l[5]? = some f) (h6 : l[6]? = some g) : l = [a, b, c, d, e, f, g] := by
  match l, h with
  | [x0, x1, x2, x3, x4, x5, x6], _ => simp at h0 h1 h2 h3 h4 h5 h6; rw [h0, h1, h2, h3, h4, h5, h6]
section
variable {H : Type} {enc : TypeId × Value → H} {w : World}
theorem cell_int {t : TypeId} {n : Nat} {v : Value} {y : DataW H × List MemPlace} (ht : Tryz.prog.underlying t = some (.int .i64)) (h : DataW.trod enc Tryz.prog w 0 (fun _ => true) true n t [v] = some y) : ∃ k : Int, v = .int .i64 k := by
  obtain ⟨k, hc, _, _⟩ := DataW.trod_int ht h
  injection hc with hc _
  exact ⟨k, hc⟩
theorem cell_str {t : TypeId} {n : Nat} {v : Value} {y : DataW H × List MemPlace} (ht : Tryz.prog.underlying t = some .string) (h : DataW.trod enc Tryz.prog w 0 (fun _ => true) true n t [v] = some y) : ∃ s : ByteArray, v = .string s ∧ s.size ≤ maxLen := by
  obtain ⟨s, hc, _, hs⟩ := DataW.trod_string ht h
  injection hc with hc _
  exact ⟨s, hc, hs⟩
set_option maxRecDepth 100000 in
theorem arm_of {fuel : Nat} {cs : List Value} {x : DataW H × List MemPlace} (h : DataW.trod enc Tryz.prog w 0 (fun _ => true) true fuel 79 cs = some x) : ∃ a : ArmM, cs = encArm a ∧ a.pat.size ≤ maxLen := by
  obtain ⟨hl, hf⟩ := struct_cells (fs := _) Tryz.underlying79 (by kernel_rfl) (by kernel_rfl) h
  obtain ⟨v0, y0, n0, e0, t0⟩ := hf 0 _ rfl
  obtain ⟨v1, y1, n1, e1, t1⟩ := hf 1 _ rfl
  obtain ⟨s, rfl, hs⟩ := cell_str Tryz.underlying9 t0
  obtain ⟨k, rfl⟩ := cell_int Tryz.underlying3 t1
  exact ⟨⟨s, k⟩, list2' hl e0 e1, hs⟩
def OpOk (w : World) (v : OpV) : Prop := Rd w NoBlk v.A (flat encArm v.o.arms) ∧ OpSz v
theorem maxLen_le : maxLen ≤ 9223372036854775807 := by simp [maxLen]
set_option maxRecDepth 100000 in
theorem op_of {fuel : Nat} {cs : List Value} {x : DataW H × List MemPlace} (h : DataW.trod enc Tryz.prog w 0 (fun _ => true) true fuel 75 cs = some x) : ∃ v : OpV, cs = encOp v ∧ OpOk w v := by
  obtain ⟨hl, hf⟩ := struct_cells (fs := _) Tryz.underlying75 (by kernel_rfl) (by kernel_rfl) h
  obtain ⟨v0, y0, n0, e0, t0⟩ := hf 0 _ rfl
  obtain ⟨v1, y1, n1, e1, t1⟩ := hf 1 _ rfl
  obtain ⟨v2, y2, n2, e2, t2⟩ := hf 2 _ rfl
  obtain ⟨v3, y3, n3, e3, t3⟩ := hf 3 _ rfl
  obtain ⟨v4, y4, n4, e4, t4⟩ := hf 4 _ rfl
  obtain ⟨v5, y5, n5, e5, t5⟩ := hf 5 _ rfl
  obtain ⟨v6, y6, n6, e6, t6⟩ := hf 6 _ rfl
  obtain ⟨k, rfl⟩ := cell_int Tryz.underlying3 t0
  obtain ⟨s, rfl, hs⟩ := cell_str Tryz.underlying9 t1
  obtain ⟨nn, rfl⟩ := cell_int Tryz.underlying2 t2
  obtain ⟨gt, rfl⟩ := cell_int Tryz.underlying3 t3
  obtain ⟨ot, rfl⟩ := cell_int Tryz.underlying3 t5
  obtain ⟨oe, rfl⟩ := cell_int Tryz.underlying3 t6
  have hv := slice_of_cell Tryz.underlying73 t4
  obtain ⟨A, n, c, xs, hv', hl4, hnc, hcm, hr, hq, _⟩ := open_rows (sz := 2) (Q := fun cs => ∃ a : ArmM, cs = encArm a ∧ a.pat.size ≤ maxLen) Tryz.underlying73 (by kernel_rfl) (by omega) hv (trod_of_cell hv t4) (fun fuel cs x hx => arm_of hx)
  obtain ⟨l, hxl, hok⟩ := exists_map (enc := encArm) xs (fun x hx => (hq x hx).2)
  subst hxl
  have hln : l.length = n := by simpa using hl4
  subst hln
  subst hv'
  refine ⟨⟨⟨k, s, nn, gt, l, ot, oe⟩, A, c⟩, list7' hl e0 e1 e2 e3 e4 e5 e6, hr, Nat.le_trans hs maxLen_le, Nat.le_trans hnc hcm, fun a ha => Nat.le_trans (hok a ha) maxLen_le⟩
set_option maxRecDepth 100000 in
theorem prog_of {fuel : Nat} {cs : List Value} {x : DataW H × List MemPlace} (h : DataW.trod enc Tryz.prog w 0 (fun _ => true) true fuel 24 cs = some x) :
    ∃ (s : ByteArray) (d j : Int) (A : Option Addr) (L : List OpV) (c : Nat), cs = [.string s, .int .i64 d, .int .i64 j, .slice A L.length c] ∧ s.size ≤ maxLen ∧ OpsRd w NoBlk A L ∧ L.length ≤ maxLen ∧ ∀ v ∈ L, OpSz v := by
  obtain ⟨hl, hf⟩ := struct_cells (fs := _) Tryz.underlying24 (by kernel_rfl) (by kernel_rfl) h
  obtain ⟨v0, y0, n0, e0, t0⟩ := hf 0 _ rfl
  obtain ⟨v1, y1, n1, e1, t1⟩ := hf 1 _ rfl
  obtain ⟨v2, y2, n2, e2, t2⟩ := hf 2 _ rfl
  obtain ⟨v3, y3, n3, e3, t3⟩ := hf 3 _ rfl
  obtain ⟨s, rfl, hs⟩ := cell_str Tryz.underlying9 t0
  obtain ⟨d, rfl⟩ := cell_int Tryz.underlying2 t1
  obtain ⟨j, rfl⟩ := cell_int Tryz.underlying3 t2
  have hv := slice_of_cell Tryz.underlying22 t3
  obtain ⟨A, n, c, xs, hv', hl4, hnc, hcm, hr, hq, _⟩ := open_rows (sz := 7) (Q := fun cs => ∃ a : OpV, cs = encOp a ∧ OpOk w a) Tryz.underlying22 (by kernel_rfl) (by omega) hv (trod_of_cell hv t3) (fun fuel cs x hx => op_of hx)
  obtain ⟨L, hxl, hok⟩ := exists_map (enc := encOp) xs (fun x hx => (hq x hx).2)
  subst hxl
  have hln : L.length = n := by simpa using hl4
  subst hln
  subst hv'
  exact ⟨s, d, j, A, L, c, list4' hl e0 e1 e2 e3, hs, ⟨hr, fun v hv => (hok v hv).1⟩, Nat.le_trans hnc hcm, fun v hv => (hok v hv).2⟩
end
set_option maxRecDepth 100000 in
theorem open_prog {H : Type} {enc : TypeId × Value → H} {w : World} {v : Value} {d : DataW H} {p : List MemPlace} {r : Reach} {b0 : Nat} (hv : Value.okWide Tryz.prog w r b0 24 v) (h : DataW.Trod enc Tryz.prog w 0 (fun _ => true) true 24 v d p) :
    ∃ (s : ByteArray) (d j : Int) (A : Option Addr) (L : List OpV) (c : Nat), v = .agg #[.string s, .int .i64 d, .int .i64 j, .slice A L.length c] ∧ s.size ≤ maxLen ∧ OpsRd w NoBlk A L ∧ L.length ≤ maxLen ∧ ∀ v ∈ L, OpSz v := by
  obtain ⟨cs, rfl, hsz⟩ := okWide_struct Tryz.underlying24 hv
  obtain ⟨fuel, hf⟩ := h
  obtain ⟨s, d, j, A, L, c, hq, hs, hr, hn, hz⟩ := prog_of hf
  refine ⟨s, d, j, A, L, c, ?_, hs, hr, hn, hz⟩
  have hq2 : cs.toList = [.string s, .int .i64 d, .int .i64 j, .slice A L.length c] := hq
  obtain ⟨l⟩ := cs
  simp only at hq2
  rw [hq2]
set_option maxRecDepth 100000 in
theorem open_step {H : Type} {enc : TypeId × Value → H} {w : World} {v : Value} {d : DataW H} {p : List MemPlace} {r : Reach} {b0 : Nat} (hv : Value.okWide Tryz.prog w r b0 26 v) (h : DataW.Trod enc Tryz.prog w 0 (fun _ => true) true 26 v d p) :
    ∃ st sa sw sr sn ss : Int, v = .agg #[.int .i64 st, .int .i64 sa, .int .i64 sw, .int .i64 sr, .int .i64 sn, .int .i64 ss] := by
  obtain ⟨cs, rfl, hsz⟩ := okWide_struct Tryz.underlying26 hv
  obtain ⟨fuel, hf⟩ := h
  obtain ⟨⟨st, sa, sw, sr, sn, ss⟩, hq⟩ := step_of hf
  refine ⟨st, sa, sw, sr, sn, ss, ?_⟩
  have hq2 : cs.toList = [.int .i64 st, .int .i64 sa, .int .i64 sw, .int .i64 sr, .int .i64 sn, .int .i64 ss] := hq
  obtain ⟨l⟩ := cs
  simp only at hq2
  rw [hq2]
end Go.Proofs.YtdmdohjdmnmabaaGreat
namespace Go.Proofs.YtdmdohjdmnmabaaGreat
open Go.RowKit
set_option linter.unusedVariables false
set_option linter.unusedSimpArgs false
theorem OpsRd.monoM {w : World} {M M' : Nat → Prop} {A : Option Addr} {L : List OpV} (h : OpsRd w M A L) (hm : ∀ b, M' b → M b) : OpsRd w M' A L := ⟨h.1.mono hm, fun v hv => (h.2 v hv).mono hm⟩
set_option maxRecDepth 100000 in
set_option maxHeartbeats 12800000 in
theorem WaitsNext_walk (s : ByteArray) (d j : Int) (A : Option Addr) (L : List OpV) (c : Nat) (st sa sw sr sn ss : Int) (w : World) (hr : OpsRd w NoBlk A L) (hn : L.length ≤ maxLen) (hz : ∀ v ∈ L, OpSz v) :
    Calls Tryz.prog 3 #[.agg #[.string s, .int .i64 d, .int .i64 j, .slice A L.length c], .agg #[.int .i64 st, .int .i64 sa, .int .i64 sw, .int .i64 sr, .int .i64 sn, .int .i64 ss]] w fun e w' => e = .returned (.bool true) ∧ Only NoBlk w w' := by
  obtain ⟨W, hW⟩ : ∃ W, W = (w.alloc (.cells #[.string s, .int .i64 d, .int .i64 j, .slice A L.length c] 24)).alloc (.cells #[.int .i64 st, .int .i64 sa, .int .i64 sw, .int .i64 sr, .int .i64 sn, .int .i64 ss] 26) := ⟨_, rfl⟩
  have HB := hide (show Below w.heap.size w W by rw [hW]; exact (below_alloc _ _).alloc (by simp) _)
  have HP := hide (show Blk W w.heap.size 24 #[.string s, .int .i64 d, .int .i64 j, .slice A L.length c] by rw [hW]; exact (Blk.new w 24 _).alloc _)
  have HS := hide (show Blk W (w.heap.size + 1) 26 #[.int .i64 st, .int .i64 sa, .int .i64 sw, .int .i64 sr, .int .i64 sn, .int .i64 ss] by rw [hW]; exact Blk.new' (by simp))
  have HF1 := hide (few_c s d j A L c 9 W (hr.only (Only.of_below HB.out NoBlk) (fun _ h => h.elim)) hn hz (by omega))
  have HFz := hide (fun (L' : List OpV) (h : L'.map (·.o) = fewOps L 9) => few_sz h hz)
  have HFl := hide (fun (L' : List OpV) (h : L'.map (·.o) = fewOps L 9) => Nat.le_trans (few_len h) hn)
  have HWs := hide (show W.heap.size = w.heap.size + 2 by rw [hW]; simp)
  have HW := hide hW
  obtain ⟨n, hnl⟩ : ∃ n, n = L.length := ⟨_, rfl⟩
  rw [← hnl] at HP HF1 HW ⊢
  clear hr hn hz hW hnl
  go_enter Tryz.func3, Tryz.ntmps3
  go_upto_region 1 with fail
  change Code.wp _ _ _ _ ((w.alloc (.cells #[.string s, .int .i64 d, .int .i64 j, .slice A n c] 24)).alloc (.cells #[.int .i64 st, .int .i64 sa, .int .i64 sw, .int .i64 sr, .int .i64 sn, .int .i64 ss] 26))
  rw [← HW.out]
  obtain ⟨⟨g0, g1, g2, g3⟩, _⟩ := HP.out.four
  go_wp2_with fail
  refine HF1.out.mono ?_
  rintro e w2 ⟨⟨B, L1, c1, rfl, hm1, hr1⟩, hb1⟩
  have HM1 := hide hm1
  have HR1 := hide hr1
  have HB2 := hide (HB.out.trans (hb1.mono HB.out.size))
  have HP2 := hide (HP.out.below hb1)
  have HS2 := hide (HS.out.below hb1)
  have HLz := hide (HFz.out L1 hm1)
  have HLl := hide (HFl.out L1 hm1)
  clear hm1 hr1 hb1 g0 g1 g2 g3
  obtain ⟨⟨g0, g1, g2, g3⟩, f0, f1, f2, f3⟩ := HP2.out.four
  obtain ⟨s1, hs1⟩ : ∃ s1, s1 = cutS s 20 := ⟨_, rfl⟩
  have HS1 := hide hs1
  rw [← hs1]
  obtain ⟨m, hm⟩ : ∃ m, m = L1.length := ⟨_, rfl⟩
  have Hm := hide hm
  rw [← hm]
  clear hs1 hm
  go_upto_region 2 with fail
  rw [put4]
  obtain ⟨W3, hW3⟩ : ∃ W3, W3 = putFrom w2 w.heap.size 0 [.string s1, .int .i64 d, .int .i64 j, .slice B m c1] := ⟨_, rfl⟩
  have HB3 := hide (show Below w.heap.size w W3 by rw [hW3]; exact below_put [.string s1, .int .i64 d, .int .i64 j, .slice B m c1] 0 HB2.out (Nat.le_refl _))
  have HP3 := hide (show Blk W3 w.heap.size 24 #[.string s1, .int .i64 d, .int .i64 j, .slice B m c1] by rw [hW3]; exact HP2.out.put [.string s1, .int .i64 d, .int .i64 j, .slice B m c1] rfl)
  have HS3 := hide (show Blk W3 (w.heap.size + 1) 26 #[.int .i64 st, .int .i64 sa, .int .i64 sw, .int .i64 sr, .int .i64 sn, .int .i64 ss] by rw [hW3]; exact HS2.out.only (only_put [.string s1, .int .i64 d, .int .i64 j, .slice B m c1] 0 w2 w.heap.size) (fun h => by have : w.heap.size + 1 = w.heap.size := h; omega))
  have HR3 := hide (show OpsRd W3 NoBlk B L1 by rw [hW3]; exact (HR1.out.only (only_put [.string s1, .int .i64 d, .int .i64 j, .slice B m c1] 0 w2 w.heap.size) (fun k hk => by have : k = w.heap.size := hk; have := HWs.out; show k < W.heap.size; omega)).monoM (fun _ h => h.elim))
  rw [← hW3]
  clear hW3 g0 g1 g2 g3 f0 f1 f2 f3
  have HFw := hide (fun (w' : World) (k : Only NoBlk W3 w') => few_c s1 d j B L1 c1 9 w' (HR3.out.only k (fun _ h => h)) HLl.out HLz.out (by omega))
  have HNr := hide (fun (w' : World) (k : Only NoBlk W3 w') => refNext_c s1 d j B c1 L1 st sa sw sr sn ss w' (HR3.out.only k (fun _ h => h)) HLl.out (by rw [HS1.out, cutS_size]; omega) HLz.out)
  rw [← Hm.out] at HFw HNr
  have HNw := hide (fun (B2 : Option Addr) (c2 : Nat) (L2 : List OpV) (w' : World) (h2 : OpsRd w' NoBlk B2 L2) (hm2 : L2.map (·.o) = fewOps L1 9) => Next_c (cutS s1 20) d j B2 c2 L2 st sa sw sr sn ss w' h2 (Nat.le_trans (few_len hm2) HLl.out) (by rw [cutS_size]; rw [HS1.out, cutS_size]; omega) (few_sz hm2 HLz.out))
  have HEq := hide (fun (L2 : List OpV) (hm2 : L2.map (·.o) = fewOps L1 9) => show progM (cutS s1 20) d j L2 = progM s1 d j L1 by
    unfold progM
    rw [hm2, fewOps_idem HM1.out, HS1.out, cutS_twice])
  have hcm := next_comes (progM s1 d j L1) ⟨st, sa, sw, sr, sn, ss⟩
  rw [show (progM s1 d j L1).ops.length = m by rw [Hm.out]; unfold progM; simp] at hcm
  obtain ⟨nx, hnx⟩ : ∃ nx, nx = NextM (progM s1 d j L1) ⟨st, sa, sw, sr, sn, ss⟩ := ⟨_, rfl⟩
  rw [← hnx] at HNr hcm
  have HNx := hide hnx
  have HCm := hide hcm
  clear hnx hcm
  obtain ⟨V0, hV0⟩ : ∃ V9, V9 = W3.drew := ⟨_, rfl⟩
  have HO0 := hide (show Only NoBlk W3 V0 by rw [hV0]; exact (Only.refl NoBlk _).drew)
  refine wp_region_held (S := fun w' => w'.cell? ⟨w.heap.size, 0, none⟩ = some (.string s1) ∧ w'.cell? ⟨w.heap.size, 1, none⟩ = some (.int .i64 d) ∧ w'.cell? ⟨w.heap.size, 2, none⟩ = some (.int .i64 j) ∧ w'.cell? ⟨w.heap.size, 3, none⟩ = some (.slice B m c1) ∧ w'.cell? ⟨w.heap.size + 1, 0, none⟩ = some (.int .i64 st) ∧ w'.cell? ⟨w.heap.size + 1, 1, none⟩ = some (.int .i64 sa) ∧ w'.cell? ⟨w.heap.size + 1, 2, none⟩ = some (.int .i64 sw) ∧ w'.cell? ⟨w.heap.size + 1, 3, none⟩ = some (.int .i64 sr) ∧ w'.cell? ⟨w.heap.size + 1, 4, none⟩ = some (.int .i64 sn) ∧ w'.cell? ⟨w.heap.size + 1, 5, none⟩ = some (.int .i64 ss)) (by kernel_rfl) ?_
  change wpAnyH _ _ _ _ _ _ _ _ W3.drew
  have hHeld : (fun w' => w'.cell? ⟨w.heap.size, 0, none⟩ = some (.string s1) ∧ w'.cell? ⟨w.heap.size, 1, none⟩ = some (.int .i64 d) ∧ w'.cell? ⟨w.heap.size, 2, none⟩ = some (.int .i64 j) ∧ w'.cell? ⟨w.heap.size, 3, none⟩ = some (.slice B m c1) ∧ w'.cell? ⟨w.heap.size + 1, 0, none⟩ = some (.int .i64 st) ∧ w'.cell? ⟨w.heap.size + 1, 1, none⟩ = some (.int .i64 sa) ∧ w'.cell? ⟨w.heap.size + 1, 2, none⟩ = some (.int .i64 sw) ∧ w'.cell? ⟨w.heap.size + 1, 3, none⟩ = some (.int .i64 sr) ∧ w'.cell? ⟨w.heap.size + 1, 4, none⟩ = some (.int .i64 sn) ∧ w'.cell? ⟨w.heap.size + 1, 5, none⟩ = some (.int .i64 ss)) W3.drew := by rw [← hV0]; exact (by obtain ⟨⟨q0, q1, q2, q3⟩, _⟩ := (HP3.out.only HO0.out (fun h => h)).four; obtain ⟨q5, q6, q7, q8, q9, qa⟩ := (HS3.out.only HO0.out (fun h => h)).six; exact ⟨q0, q1, q2, q3, q5, q6, q7, q8, q9, qa⟩)
  rw [← hV0] at hHeld ⊢
  simp only [List.size_toArray, List.length_cons, List.length_nil, Nat.zero_add, Nat.reduceAdd]
  clear hV0
  refine wpAnyH_take (i := 0) (v := ?_) rfl (by kernel_rfl) (by kernel_rfl) (by kernel_rfl) (fun _ _ _ h => h) (Or.inl ⟨by rfl, ?_⟩) (by assumption) ?_
  rotate_left
  · (intro w9 hS9; try simp only [List.getElem_toArray, List.getElem_cons_zero, List.getElem_cons_succ]
     go_simp <;> rfl)
  try simp only [Act.put, List.setIfInBounds_toArray, List.set_cons_zero, List.set_cons_succ, List.getElem_toArray, List.getElem_cons_zero, List.getElem_cons_succ]
  refine wpAnyH_take (i := 2) (v := ?_) rfl (by kernel_rfl) (by kernel_rfl) (by kernel_rfl) (fun _ _ _ h => h) (Or.inl ⟨by rfl, ?_⟩) (by assumption) ?_
  rotate_left
  · (intro w9 hS9; try simp only [List.getElem_toArray, List.getElem_cons_zero, List.getElem_cons_succ]
     go_simp <;> rfl)
  try simp only [Act.put, List.setIfInBounds_toArray, List.set_cons_zero, List.set_cons_succ, List.getElem_toArray, List.getElem_cons_zero, List.getElem_cons_succ]
  refine wpAnyH_ready (rs := [1]) (by kernel_rfl) (by simp) ?_
  refine AllReadyH.cons rfl (fun K hK => ?_) AllReadyH.nil
  try simp only [List.getElem_toArray, List.getElem_cons_zero, List.getElem_cons_succ]
  try go_simp
  go_at_call 8
  refine (HFw.out _ HO0.out).mono ?_
  rintro e V1 ⟨⟨B2, L2, c2, rfl, hm2, hr2⟩, hb2⟩
  have HO1 := hide (HO0.out.trans (Only.of_below hb2 NoBlk))
  have HNq := hide (HNw.out B2 c2 L2 V1 (hr2.monoM (fun _ h => h.elim)) hm2)
  rw [HEq.out L2 hm2, ← HNx.out] at HNq
  clear hm2 hr2 hb2
  obtain ⟨m2, hm2⟩ : ∃ m2, m2 = L2.length := ⟨_, rfl⟩
  rw [← hm2] at HNq ⊢
  obtain ⟨s2, hs2⟩ : ∃ s2, s2 = cutS s1 20 := ⟨_, rfl⟩
  rw [← hs2] at HNq ⊢
  clear hm2 hs2
  refine hK.out _ _ (by obtain ⟨⟨q0, q1, q2, q3⟩, _⟩ := (HP3.out.only HO1.out (fun h => h)).four; obtain ⟨q5, q6, q7, q8, q9, qa⟩ := (HS3.out.only HO1.out (fun h => h)).six; exact ⟨q0, q1, q2, q3, q5, q6, q7, q8, q9, qa⟩) (fun hHeld => ?_)
  clear hK K
  try simp only [Act.put, List.setIfInBounds_toArray, List.set_cons_zero, List.set_cons_succ, List.getElem_toArray, List.getElem_cons_zero, List.getElem_cons_succ]
  refine wpAnyH_ready (rs := [3]) (by kernel_rfl) (by simp) ?_
  refine AllReadyH.cons rfl (fun K hK => ?_) AllReadyH.nil
  try simp only [List.getElem_toArray, List.getElem_cons_zero, List.getElem_cons_succ]
  try go_simp
  go_at_call 9
  refine HNq.out.mono ?_
  rintro e V2 ⟨rfl, ho2⟩
  have HO2 := hide (HO1.out.trans ho2)
  clear ho2
  refine hK.out _ _ (by obtain ⟨⟨q0, q1, q2, q3⟩, _⟩ := (HP3.out.only HO2.out (fun h => h)).four; obtain ⟨q5, q6, q7, q8, q9, qa⟩ := (HS3.out.only HO2.out (fun h => h)).six; exact ⟨q0, q1, q2, q3, q5, q6, q7, q8, q9, qa⟩) (fun hHeld => ?_)
  clear hK K
  try simp only [Act.put, List.setIfInBounds_toArray, List.set_cons_zero, List.set_cons_succ, List.getElem_toArray, List.getElem_cons_zero, List.getElem_cons_succ]
  refine wpAnyH_take (i := 4) (v := ?_) rfl (by kernel_rfl) (by kernel_rfl) (by kernel_rfl) (fun _ _ _ h => h) (Or.inl ⟨by rfl, ?_⟩) (by assumption) ?_
  rotate_left
  · (intro w9 hS9; try simp only [List.getElem_toArray, List.getElem_cons_zero, List.getElem_cons_succ]
     go_simp <;> rfl)
  try simp only [Act.put, List.setIfInBounds_toArray, List.set_cons_zero, List.set_cons_succ, List.getElem_toArray, List.getElem_cons_zero, List.getElem_cons_succ]
  refine wpAnyH_done (by kernel_rfl) ?_ _
  try simp only [Exit.then]
  clear hHeld
  obtain ⟨⟨g0, g1, g2, g3⟩, _⟩ := (HP3.out.only HO2.out (fun h => h)).four
  obtain ⟨y0, y1, y2, y3, y4, y5⟩ := (HS3.out.only HO2.out (fun h => h)).six
  go_wp2_with fail
  refine (HNr.out _ HO2.out).mono ?_
  rintro e V3 ⟨rfl, hb3⟩
  have HO3 := hide (HO2.out.trans (Only.of_below hb3 NoBlk))
  clear hb3 g0 g1 g2 g3 y0 y1 y2 y3 y4 y5
  obtain ⟨⟨g0, g1, g2, g3⟩, _⟩ := (HP3.out.only HO3.out (fun h => h)).four
  have b0 : (nx == nx) = true := by simp
  have HOw := hide (Only.of_below HB3.out NoBlk)
  by_cases h1 : nx = -1
  · have b1 : (nx == -1) = true := by simp [h1]
    clear h1
    go_wp2_with fail
    refine (lives35_c _).mono ?_
    rintro e V4 ⟨rfl, ho4⟩
    have HO4 := hide (HOw.out.trans (HO3.out.trans ho4))
    clear ho4
    go_wp2_with fail
    go_ret
    exact ⟨rfl, HO4.out⟩
  · have b1 : (nx == -1) = false := by simp [h1]
    have HCt := hide (show comesB m nx = true from HCm.out.resolve_left h1)
    clear h1
    go_wp2_with fail
    refine (refComes_c s1 d j B m c1 nx _).mono ?_
    rintro e V4 ⟨rfl, hb4⟩
    rw [HCt.out]
    have HO4 := hide (HO3.out.trans (Only.of_below hb4 NoBlk))
    clear hb4
    go_wp2_with fail
    refine (lives35_c _).mono ?_
    rintro e V5 ⟨rfl, ho5⟩
    have HO5 := hide (HOw.out.trans (HO4.out.trans ho5))
    clear ho5
    go_wp2_with fail
    go_ret
    exact ⟨rfl, HO5.out⟩
end Go.Proofs.YtdmdohjdmnmabaaGreat
