/- All waits, by the program. Conditions: those of each theorem. -/
import Derived.Test.YtdmdohjdmnmabaaGreatQw36
import Derived.Test.YtdmdohjdmnmabaaGreatQw23
namespace Go.Proofs.YtdmdohjdmnmabaaGreat
open Go.RowKit
set_option linter.unusedVariables false
set_option linter.unusedSimpArgs false

theorem flat_oneW {α : Type} {enc : α → List Value} (h : ∀ a, ∀ u ∈ enc a, u.oneCell' = true) (l : List α) : ∀ u ∈ flat enc l, u.oneCell' = true := by
 intro u hu
 unfold flat at hu
 rw [List.mem_flatten] at hu
 obtain ⟨r, hr, hu⟩ := hu
 obtain ⟨a, _, rfl⟩ := List.mem_map.1 hr
 exact h a u hu
/-- the ticks of events are within 64 bits -/
def TkOk (l : List Ev) : Prop := ∀ x ∈ l, x.tick ≤ 9223372036854775807 ∧ x.st.tick ≤ 9223372036854775807
theorem fold_tk (id : Int) : ∀ (l : List Ev) (f : LifeM), (∀ y ∈ f.steps, y.tick ≤ 9223372036854775807) → TkOk l → (∀ y ∈ (l.foldl (addL id) f).steps, y.tick ≤ 9223372036854775807) ∧ (l.foldl (addL id) f).start = f.start := by
 intro l
 induction l with
 | nil => intro f h _; exact ⟨h, rfl⟩
 | cons x r ih =>
  intro f h hl
  have hx := (hl x (by simp)).2
  have h1 : (∀ y ∈ (addL id f x).steps, y.tick ≤ 9223372036854775807) ∧ (addL id f x).start = f.start := by
   unfold addL
   repeat' split
   all_goals refine ⟨?_, rfl⟩
   all_goals first
    | exact h
    | (intro y hy
       rcases List.mem_append.1 hy with hy | hy
       ·exact h y hy
       ·rw [List.mem_singleton.1 hy]; exact hx)
  have h2 := ih (addL id f x) h1.1 (fun y hy => hl y (by simp [hy]))
  exact ⟨h2.1, h2.2.trans h1.2⟩
theorem go_tk (id : Int) : ∀ (l : List Ev) (c : Int), c ≤ 9223372036854775807 → TkOk l → ∀ f, lifeGo id c l = some f → (∀ y ∈ f.steps, y.tick ≤ 9223372036854775807) ∧ f.start ≤ 9223372036854775807 := by
 intro l
 induction l with
 | nil => intro c _ _ f h; cases h
 | cons x r ih =>
  intro c hc hl f h
  unfold lifeGo at h
  have hr : TkOk r := fun y hy => hl y (by simp [hy])
  split at h
  ·injection h with h
   subst h
   have := fold_tk id r (life0 x.n c) (by intro y hy; cases hy) hr
   exact ⟨this.1, by rw [this.2]; exact hc⟩
  ·refine ih _ ?_ hr f h
   split
   ·exact (hl x (by simp)).1
   ·exact hc
theorem lifeO_tk (id : Int) (l : List Ev) (h : TkOk l) : (∀ y ∈ (lifeO (lifeGo id 0 l)).steps, y.tick ≤ 9223372036854775807) ∧ (lifeO (lifeGo id 0 l)).start ≤ 9223372036854775807 := by
 cases hf : lifeGo id 0 l with
 | none => exact ⟨fun y hy => (by cases hy), (by show (0 : Int) ≤ 9223372036854775807; omega)⟩
 | some f => exact go_tk id l 0 (by omega) h f hf
theorem lifeO_steps (id : Int) (l : List Ev) (hx : ∀ x ∈ l, x.s.size ≤ 100) : (lifeO (lifeGo id 0 l)).steps.length ≤ l.length := by
 cases hf : lifeGo id 0 l with
 | none => exact Nat.zero_le _
 | some f => exact (life_small hf hx).2
theorem fold_wk (P : ProgM) (id : Int) : ∀ (S : List Stp) (f : WkM), (S.foldl (wkStep P id) f).out.length ≤ f.out.length + S.length := by
 intro S
 induction S with
 | nil => intro f; exact Nat.le_refl _
 | cons x r ih =>
  intro f
  have h1 : (wkStep P id f x).out.length ≤ f.out.length + 1 := by
   unfold wkStep
   split
   ·omega
   ·simp only
    split
    ·simp
    ·omega
  have h2 := ih (wkStep P id f x)
  simp only [List.foldl_cons, List.length_cons]
  omega
theorem lifeW_len (P : ProgM) (id st : Int) (S : List Stp) : (lifeW P id st S).length ≤ S.length + 1 := by
 have h := fold_wk P id S (wk0 P id st)
 have h0 : (wk0 P id st).out.length = 0 := rfl
 unfold lifeW wkEnd
 split
 ·rw [List.length_append]; simp; omega
 ·omega
def waitsP (l : List Ev) (v : PrV) (id : Int) : List WtM := lifeW (prM v) (whoL id (lifeGo id 0 l)) (lifeO (lifeGo id 0 l)).start (lifeO (lifeGo id 0 l)).steps
theorem waits_le (l : List Ev) (hx : ∀ x ∈ l, x.s.size ≤ 100) (v : PrV) (id : Int) : (waitsP l v id).length ≤ l.length + 1 := by
 have h1 := lifeW_len (prM v) (whoL id (lifeGo id 0 l)) (lifeO (lifeGo id 0 l)).start (lifeO (lifeGo id 0 l)).steps
 have h2 := lifeO_steps id l hx
 unfold waitsP
 omega
/-- all waits -/
def waitsM (Ps : List PrV) (l : List Ev) : List WtM := perM Ps l (waitsP l) (idsL l)
def PrNn (v : PrV) : Prop := ∀ o ∈ v.L, o.o.n ≤ 9223372036854775807
set_option maxRecDepth 100000 in
set_option maxHeartbeats 25600000 in
theorem waitsof_c (SA : Option Addr) (sc : Nat) (Ps : List PrV) (A : Option Addr) (c : Nat) (l : List Ev) (w : World) (hs : PrsRd w NoBlk SA Ps) (hsn : Ps.length ≤ maxLen) (hsz : ∀ v ∈ Ps, PrSz v) (hnn : ∀ v ∈ Ps, PrNn v) (hr : Rd w NoBlk A (flat encEv l)) (hn : l.length ≤ 1000) (hx : ∀ x ∈ l, x.s.size ≤ 100) (htk : TkOk l) (hlc : l.length ≤ c) :
 Calls Tryz.prog 56 #[.slice SA Ps.length sc, .slice A l.length c] w fun e w' => (∃ v, e = .returned v ∧ w'.ownsRow w.heap.size 84 7 v (waitsM Ps l).length (flat encWt (waitsM Ps l))) ∧ Only NoBlk w w' := by
 obtain ⟨il, hil, hlz0, hlz1, hlz2⟩ := info_parts Tryz.infoWt
 have hsn' : Ps.length ≤ 9223372036854775807 := hsn
 have HIds := hide (fun (w' : World) (k : Only NoBlk w w') => by
  have := Ids_c NoBlk A c l w' (hr.only k (fun _ h => h)) (by omega) (fun k h => h.elim)
  rw [show Lib.compact ((openedL l).mergeSort fun x y => decide (x ≤ y)) = idsL l from (ids_uniq l).symm] at this
  exact this)
 have HOf := hide (fun (id : Int) (w' : World) (k : Only NoBlk w w') => Of_c NoBlk A c l id w' (hr.only k (fun _ h => h)) (by omega) hx hlc (fun k h => h.elim))
 have HPr := hide (fun (w' : World) (k : Only NoBlk w w') (i : Nat) (hi : i < Ps.length) => pr_cells ((hs.only k (fun _ h => h)).1) i hi)
 have HGood := hide (fun (w' : World) (k : Only NoBlk w w') (i : Nat) (hi : i < Ps.length) => pGood_c (prAt Ps i).s (prAt Ps i).d (prAt Ps i).j (prAt Ps i).PA (prAt Ps i).pc (prAt Ps i).L w' ((hs.only k (fun _ h => h)).2 _ (prAt_mem hi)) (hsz _ (prAt_mem hi)).1 (hsz _ (prAt_mem hi)).2.1 (hsz _ (prAt_mem hi)).2.2)
 have HLife := hide (fun (i : Nat) (hi : i < Ps.length) (w' : World) (k : Only NoBlk w w') (id sn start : Int) (IA : Option Addr) (ni ic : Nat) (SA : Option Addr) (S : List Stp) (sc : Nat) (rd tk : ByteArray) (eof : Bool) (status : Int) (h1 : start ≤ 9223372036854775807) (h2 : Rd w' NoBlk SA (flat encStp S)) (h3 : S.length ≤ 10000) (h4 : ∀ x ∈ S, x.tick ≤ 9223372036854775807) =>
  life_c (prAt Ps i).s (prAt Ps i).d (prAt Ps i).j (prAt Ps i).PA (prAt Ps i).pc (prAt Ps i).L id sn start IA ni ic SA S sc rd tk eof status w' ((hs.only k (fun _ h => h)).2 _ (prAt_mem hi)) (hsz _ (prAt_mem hi)).1 (hsz _ (prAt_mem hi)).2.2 (hnn _ (prAt_mem hi)) h1 h2 h3 h4)
 have HTk := hide (fun id => lifeO_tk id l htk)
 have HSl := hide (fun id => Nat.le_trans (lifeO_steps id l hx) hn)
 have hile := ids_le l
 have hpl := per_len Ps l (waitsP l) (l.length + 1) (waits_le l hx)
 have HWl := hide (waits_le l hx)
 have HPm := hide (show waitsM Ps l = perM Ps l (waitsP l) (idsL l) from rfl)
 obtain ⟨N, hN⟩ : ∃ N, N = (idsL l).length := ⟨_, rfl⟩
 obtain ⟨n, hnl⟩ : ∃ n, n = l.length := ⟨_, rfl⟩
 obtain ⟨np, hnp⟩ : ∃ np, np = Ps.length := ⟨_, rfl⟩
 have HN := hide hN
 have Hnl := hide hnl
 have Hnp := hide hnp
 obtain ⟨T, hT⟩ : ∃ T, T = waitsM Ps l := ⟨_, rfl⟩
 rw [← hT] at HPm ⊢
 rw [← hN] at HIds hile
 rw [← hnl] at HIds HOf hn hlc hile hpl HWl ⊢
 rw [← hnp] at HPr HGood HLife hsn' ⊢
 have HPL := hide hpl
 clear hs hsn hsz hnn hr hx htk hN hnl hnp hpl hT
 go_enter Tryz.func56, Tryz.ntmps56
 go_wp2_with fail
 refine (HIds.out _ (Only.refl _ w)).mono ?_
 rintro e w1 ⟨hb1, A1, c1, rfl, hr1⟩
 have HB1 := hide hb1
 have HO1 := hide (Only.of_below hb1 NoBlk)
 have HR1 := hide hr1
 clear hb1 hr1
 go_wp2_with fail
 go_loopw [5, 13] (fun v i wr => ∃ (k : Nat) (out : List WtM), k ≤ N ∧ i = .int .i64 k ∧ Hid (perM Ps l (waitsP l) ((idsL l).take k) = out) ∧ Hid (wr.ownsRow w1.heap.size 84 7 v out.length (flat encWt out)) ∧ Hid (Only NoBlk w1 wr)) (fun _ i _ => N - (intOf i).toNat)
 case atStart => exact ⟨0, [], Nat.zero_le _, rfl, hide (by simp [perM]), hide (own_nil (Nat.le_refl _)), hide (Only.refl _ _)⟩
 case round =>
  obtain ⟨k, out, hk, rfl, hout, hown, ho⟩ := hrel
  obtain ⟨OA, oc, rfl, hoc⟩ := own_cap hown.out
  have hol : out.length ≤ 1100000 := by
   have h1 := HPL.out ((idsL l).take k)
   rw [hout.out, List.length_take, ← HN.out] at h1
   have h2 : min k N ≤ 1000 := by omega
   have h3 : min k N * (n + 1) ≤ 1000 * 1001 := Nat.mul_le_mul h2 (by omega)
   omega
  obtain ⟨m, hm⟩ : ∃ m, m = out.length := ⟨_, rfl⟩
  rw [← hm] at hown hol hoc ⊢
  have Hm := hide hm
  clear hm
  by_cases hlt : k < N
  case neg =>
   obtain rfl : k = N := by omega
   have hd : decide ((k : Int) < (k : Int)) = false := by simp
   have hd2 : decide (k < k) = false := by simp
   have HF := hide (show T = out by rw [HPm.out, ← hout.out, HN.out, List.take_length])
   go_wp2_with fail
   go_ret
   rw [HF.out, ← Hm.out]
   exact ⟨⟨_, rfl, own_base hown.out HO1.out.size⟩, HO1.out.trans ho.out⟩
  case pos =>
   have HF := hide (per_succ Ps l (waitsP l) (idsL l) k (by rw [← HN.out]; exact hlt))
   obtain ⟨b, oo, rfl, hb, g0⟩ := id_cell (HR1.out.only ho.out (fun _ h => h)) k (by rw [← HN.out]; exact hlt)
   obtain ⟨id, hid⟩ : ∃ id, id = nth (idsL l) k := ⟨_, rfl⟩
   rw [← hid] at g0 HF
   have d1 : decide ((k : Int) < (N : Int)) = true := by simp; exact hlt
   have d2 : decide (k < N) = true := by simp; exact hlt
   have j1 : (0 : Int) ≤ (k : Int) := by omega
   have j2 : (k : Int) < (N : Int) := by omega
   have w0 : IntKind.i64.wrap ((k : Int) + 1) = (k : Int) + 1 := IntWalk.i64_in _ (by omega)
   have HOw := hide (HO1.out.trans ho.out)
   have HOfr := hide (HOf.out id wr HOw.out)
   have hszr : w1.heap.size ≤ wr.heap.size := ho.out.size
   clear hid
   go_wp2_with fail
   refine HOfr.out.mono ?_
   intro e w3 he
   obtain ⟨hb3, LA, lc, LB, ld, rfl, _, hsr⟩ := ret_one he
   have HTq := hide (HTk.out id)
   have HSq := hide (HSl.out id)
   have HWq := hide (fun v => HWl.out v id)
   have HWp := hide (fun v => show waitsP l v id = lifeW (prM v) (whoL id (lifeGo id 0 l)) (lifeO (lifeGo id 0 l)).start (lifeO (lifeGo id 0 l)).steps from rfl)
   obtain ⟨sn, hsn2⟩ : ∃ sn, sn = scrN l id := ⟨_, rfl⟩
   have hsn3 : (lifeO (lifeGo id 0 l)).script = sn := hsn2.symm
   rw [hsn3]
   obtain ⟨i0, hi0⟩ : ∃ i0, i0 = (lifeO (lifeGo id 0 l)).ins.length := ⟨_, rfl⟩
   rw [← hi0]
   obtain ⟨lsteps, hls⟩ : ∃ s, s = (lifeO (lifeGo id 0 l)).steps := ⟨_, rfl⟩
   obtain ⟨lstart, hlst⟩ : ∃ s, s = (lifeO (lifeGo id 0 l)).start := ⟨_, rfl⟩
   obtain ⟨lwho, hlw⟩ : ∃ s, s = whoL id (lifeGo id 0 l) := ⟨_, rfl⟩
   rw [← hls, ← hlst] at HTq
   rw [← hls] at HSq hsr
   rw [← hls, ← hlst, ← hlw] at HWp ⊢
   obtain ⟨s0, hs0⟩ : ∃ s0, s0 = lsteps.length := ⟨_, rfl⟩
   rw [← hs0]
   have HS0 := hide hs0
   generalize (lifeO (lifeGo id 0 l)).read = lread
   generalize (lifeO (lifeGo id 0 l)).taken = ltaken
   generalize (lifeO (lifeGo id 0 l)).eof = leof
   generalize (lifeO (lifeGo id 0 l)).status = lstatus
   generalize (lifeGo id 0 l).isSome = lis
   have HSr := hide hsr
   have HO3 := hide (ho.out.trans (Only.of_below hb3 NoBlk))
   have HOwn3 := hide (own_only hown.out (Only.of_below hb3 NoBlk) (fun _ _ h => h.elim))
   clear he hb3 hi0 hs0 hsn3 g0 HOfr HOw ho hown hls hlst hlw hsr
   have HSB := hide (show scrB Ps l id = ((decide (0 ≤ sn) && decide (sn < Ps.length)) && goodM (prM (prAt Ps sn.toNat))) by unfold scrB; rw [← hsn2])
   rw [← Hnp.out] at HSB
   rw [← hsn2] at HF
   clear hsn2

   go_upto_region 6 with fail
   obtain ⟨W4, hW4⟩ : ∃ W4, W4 = w3.alloc (.cells #[.int .i64 lwho, .int .i64 sn, .int .i64 lstart, .slice LA i0 lc, .slice LB s0 ld, .string lread, .string ltaken, .bool leof, .int .i64 lstatus] 118) := ⟨_, rfl⟩
   have HLf := hide (show Blk W4 w3.heap.size 118 #[.int .i64 lwho, .int .i64 sn, .int .i64 lstart, .slice LA i0 lc, .slice LB s0 ld, .string lread, .string ltaken, .bool leof, .int .i64 lstatus] by rw [hW4]; exact Blk.new _ _ _)
   have HO4 := hide (show Only NoBlk w1 W4 by rw [hW4]; exact HO3.out.alloc _)
   have HOwn4 := hide (show W4.ownsRow w1.heap.size 84 7 (.slice OA m oc) m (flat encWt out) by rw [hW4]; exact HOwn3.out.alloc _)
   have HSr4 := hide (show Rd W4 NoBlk LB (flat encStp lsteps) by rw [hW4]; exact HSr.out.alloc _)
   rw [← hW4]
   obtain ⟨g3, hg3⟩ : ∃ g3, g3 = w3.heap.size := ⟨_, rfl⟩
   rw [← hg3] at HLf ⊢
   clear hW4 HO3 HOwn3 HSr hg3
   obtain ⟨⟨x0, x1, x2, x3, x4, x5, x6, x7, x8⟩, _⟩ := HLf.out.nine
   go_cut [40] from 23 to 39 (fun v wx => v = .bool (scrB Ps l id) ∧ Hid (Only NoBlk W4 wx))
   case first =>
    by_cases hs0 : sn < 0
    ·have b0 : decide ((0 : Int) ≤ sn) = false := by simp; omega
     have HQ := hide (show scrB Ps l id = false by rw [HSB.out, show decide (0 ≤ sn) = false by simp; omega]; rfl)
     clear hs0
     go_wp2_with fail
     go_meet
     exact ⟨by rw [HQ.out], hide (Only.refl _ _)⟩
    ·have b0 : decide ((0 : Int) ≤ sn) = true := by simp; omega
     by_cases hs1 : (np : Int) ≤ sn
     ·have b1 : decide (sn < (np : Int)) = false := by simp; omega
      have HQ := hide (show scrB Ps l id = false by rw [HSB.out, show decide (sn < (np : Int)) = false by simp; omega]; simp)
      clear hs0 hs1
      go_wp2_with fail
      go_meet
      exact ⟨by rw [HQ.out], hide (Only.refl _ _)⟩
     ·have b1 : decide (sn < (np : Int)) = true := by simp; omega
      obtain ⟨q, hq⟩ : ∃ q : Nat, sn = q := ⟨sn.toNat, by omega⟩
      subst hq
      have hqn : q < np := by omega
      have hqt : ((q : Int).toNat) = q := by omega
      rw [hqt] at HSB
      have HQ := hide (show scrB Ps l id = goodM (prM (prAt Ps q)) by rw [HSB.out, show decide ((0 : Int) ≤ (q : Int)) = true by simp, show decide ((q : Int) < (np : Int)) = true by simp; omega]; rfl)
      have HGq := hide (fun (w' : World) (k : Only NoBlk w w') => HGood.out w' k q hqn)
      obtain ⟨pb, po, rfl, hpb, p0, p1, p2, p3⟩ := HPr.out W4 (HO1.out.trans HO4.out) q hqn
      obtain ⟨gd, hgd⟩ : ∃ gd, gd = goodM (prM (prAt Ps q)) := ⟨_, rfl⟩
      have hgd' : goodM (progM (prAt Ps q).s (prAt Ps q).d (prAt Ps q).j (prAt Ps q).L) = gd := hgd.symm
      rw [hgd'] at HGq
      rw [← hgd] at HQ
      clear hgd hgd' hs0 hs1
      obtain ⟨v, hv⟩ : ∃ v, v = prAt Ps q := ⟨_, rfl⟩
      rw [← hv] at p0 p1 p2 p3 HGq
      obtain ⟨vs, vd, vj, vPA, vpc, vL⟩ := v
      obtain ⟨vn, hvn⟩ : ∃ vn, vn = vL.length := ⟨_, rfl⟩
      simp only at p0 p1 p2 p3 HGq
      rw [← hvn] at p3 HGq
      clear hvn hv
      have i1 : (0 : Int) ≤ (q : Int) := by omega
      have i2 : (q : Int) < (np : Int) := by omega
      go_wp2_with fail
      all_goals first
       | (exfalso; omega)
       | (refine (HGq.out _ (HO1.out.trans HO4.out)).mono ?_
          rintro e w5 ⟨rfl, ho5⟩
          have HO5 := hide ho5
          clear ho5
          go_wp2_with fail
          go_meet
          exact ⟨by rw [HQ.out], HO5⟩)
   case rest =>
    obtain ⟨rfl, hox⟩ := hcut
    clear x0 x1 x2 x3 x4 x5 x6 x7 x8
    have HLx := hide (HLf.out.only hox.out (fun h => h))
    have HOx := hide (HO4.out.trans hox.out)
    have HOwnx := hide (own_only HOwn4.out hox.out (fun _ _ h => h.elim))
    have HSrx := hide (HSr4.out.only hox.out (fun _ h => h))
    clear HLf HO4 HOwn4 HSr4 hox
    cases hsb : scrB Ps l id with
    | false =>
     have HF2 := hide (show perM Ps l (waitsP l) (List.take (k + 1) (idsL l)) = out by rw [HF.out, hsb, hout.out]; simp)
     clear hsb
     go_wp2_with fail
     go_roundw
     case rel => exact ⟨k + 1, out, by omega, by go_num, HF2, by rw [← Hm.out]; exact HOwnx, HOx⟩
     case measure => simp [intOf]; omega
    | true =>
     rw [hsb] at HSB
     have hh := HSB.out
     have hsn0 : 0 ≤ sn ∧ sn < np := by
      have := hh.symm
      simp only [Bool.and_eq_true, decide_eq_true_eq] at this
      exact this.1
     have HF2 := hide (show perM Ps l (waitsP l) (List.take (k + 1) (idsL l)) = out ++ waitsP l (prAt Ps sn.toNat) id by rw [HF.out, hsb, hout.out]; simp)
     clear hsb hh HSB
     obtain ⟨q, hq⟩ : ∃ q : Nat, sn = q := ⟨sn.toNat, by omega⟩
     subst hq
     have hqn : q < np := by omega
     have hqt : ((q : Int).toNat) = q := by omega
     rw [hqt] at HF2
     have HOwx := hide (HO1.out.trans HOx.out)
     obtain ⟨pb, po, rfl, hpb, p0, p1, p2, p3⟩ := HPr.out w (Only.refl _ w) q hqn
     have HLfq := hide (HLife.out q hqn)
     have HWv := hide (HWp.out (prAt Ps q))
     have hwl := HWq.out (prAt Ps q)
     obtain ⟨WL, hWL⟩ : ∃ WL, WL = waitsP l (prAt Ps q) id := ⟨_, rfl⟩
     rw [← hWL] at HF2 HWv hwl
     have HPM := hide (show prM (prAt Ps q) = progM (prAt Ps q).s (prAt Ps q).d (prAt Ps q).j (prAt Ps q).L from rfl)
     obtain ⟨v, hv⟩ : ∃ v, v = prAt Ps q := ⟨_, rfl⟩
     rw [← hv] at p0 p1 p2 p3 HLfq HPM HWv
     obtain ⟨vs, vd, vj, vPA, vpc, vL⟩ := v
     simp only at p0 p1 p2 p3
     obtain ⟨vn, hvn⟩ : ∃ vn, vn = vL.length := ⟨_, rfl⟩
     rw [← hvn] at p3
     have HVn := hide hvn
     have HC0 := hide p0
     have HC1 := hide p1
     have HC2 := hide p2
     have HC3 := hide p3
     have i1 : (0 : Int) ≤ (q : Int) := by omega
     have i2 : (q : Int) < (np : Int) := by omega
     have hwl' : WL.length ≤ 1001 := by omega
     clear hv hsn0 hvn hWL p0 p1 p2 p3
     go_upto_region 7 with fail
     obtain ⟨V0, hV0⟩ : ∃ V9, V9 = wc.drew := ⟨_, rfl⟩
     have HL0 := hide (HLx.out.only ((Only.refl NoBlk _).drew) (fun h => h))
     have HO0 := hide (HOx.out.drew)
     have HOn0 := hide (own_only HOwnx.out ((Only.refl NoBlk _).drew) (fun _ _ h => h.elim))
     have HSr0 := hide (HSrx.out.only ((Only.refl NoBlk _).drew) (fun _ h => h))
     rw [← hV0] at HL0 HO0 HOn0 HSr0
     refine wp_region_held (S := fun w' => w'.cell? ⟨g3, 0, none⟩ = some (.int .i64 lwho) ∧ w'.cell? ⟨g3, 1, none⟩ = some (.int .i64 (q : Int)) ∧ w'.cell? ⟨g3, 2, none⟩ = some (.int .i64 lstart) ∧ w'.cell? ⟨g3, 3, none⟩ = some (.slice LA i0 lc) ∧ w'.cell? ⟨g3, 4, none⟩ = some (.slice LB s0 ld) ∧ w'.cell? ⟨g3, 5, none⟩ = some (.string lread) ∧ w'.cell? ⟨g3, 6, none⟩ = some (.string ltaken) ∧ w'.cell? ⟨g3, 7, none⟩ = some (.bool leof) ∧ w'.cell? ⟨g3, 8, none⟩ = some (.int .i64 lstatus) ∧ w'.cell? ⟨pb, po + q * 4, none⟩ = some (.string vs) ∧ w'.cell? ⟨pb, po + q * 4 + 1, none⟩ = some (.int .i64 vd) ∧ w'.cell? ⟨pb, po + q * 4 + 2, none⟩ = some (.int .i64 vj) ∧ w'.cell? ⟨pb, po + q * 4 + 3, none⟩ = some (.slice vPA vn vpc)) (by kernel_rfl) ?_
     change wpAnyH _ _ _ _ _ _ _ _ wc.drew
     have hHeld : (fun w' => w'.cell? ⟨g3, 0, none⟩ = some (.int .i64 lwho) ∧ w'.cell? ⟨g3, 1, none⟩ = some (.int .i64 (q : Int)) ∧ w'.cell? ⟨g3, 2, none⟩ = some (.int .i64 lstart) ∧ w'.cell? ⟨g3, 3, none⟩ = some (.slice LA i0 lc) ∧ w'.cell? ⟨g3, 4, none⟩ = some (.slice LB s0 ld) ∧ w'.cell? ⟨g3, 5, none⟩ = some (.string lread) ∧ w'.cell? ⟨g3, 6, none⟩ = some (.string ltaken) ∧ w'.cell? ⟨g3, 7, none⟩ = some (.bool leof) ∧ w'.cell? ⟨g3, 8, none⟩ = some (.int .i64 lstatus) ∧ w'.cell? ⟨pb, po + q * 4, none⟩ = some (.string vs) ∧ w'.cell? ⟨pb, po + q * 4 + 1, none⟩ = some (.int .i64 vd) ∧ w'.cell? ⟨pb, po + q * 4 + 2, none⟩ = some (.int .i64 vj) ∧ w'.cell? ⟨pb, po + q * 4 + 3, none⟩ = some (.slice vPA vn vpc)) wc.drew := by rw [← hV0]; exact (by obtain ⟨⟨x0, x1, x2, x3, x4, x5, x6, x7, x8⟩, _⟩ := (HL0.out).nine; exact ⟨x0, x1, x2, x3, x4, x5, x6, x7, x8, ((HO1.out.trans HO0.out).cell (p := ⟨pb, po + q * 4, none⟩) hpb (fun h => h)).trans HC0.out, ((HO1.out.trans HO0.out).cell (p := ⟨pb, po + q * 4 + 1, none⟩) hpb (fun h => h)).trans HC1.out, ((HO1.out.trans HO0.out).cell (p := ⟨pb, po + q * 4 + 2, none⟩) hpb (fun h => h)).trans HC2.out, ((HO1.out.trans HO0.out).cell (p := ⟨pb, po + q * 4 + 3, none⟩) hpb (fun h => h)).trans HC3.out⟩)
     rw [← hV0] at hHeld ⊢
     simp only [List.size_toArray, List.length_cons, List.length_nil, Nat.zero_add, Nat.reduceAdd]
     clear hV0
     refine wpAnyH_take (i := 0) (v := ?_) rfl (by kernel_rfl) (by kernel_rfl) (by kernel_rfl) (fun _ _ _ h => h) (Or.inl ⟨by rfl, ?_⟩) (by assumption) ?_
     rotate_left
     ·(intro w9 hS9; (try simp only [List.getElem_toArray, List.getElem_cons_zero, List.getElem_cons_succ]); go_simp <;> rfl)
     refine wpAnyH_take (i := 1) (v := ?_) rfl (by kernel_rfl) (by kernel_rfl) (by kernel_rfl) (fun _ _ _ h => h) (Or.inl ⟨by rfl, ?_⟩) (by assumption) ?_
     rotate_left
     ·(intro w9 hS9; (try simp only [List.getElem_toArray, List.getElem_cons_zero, List.getElem_cons_succ]); go_simp <;> rfl)
     refine wpAnyH_take (i := 2) (v := ?_) rfl (by kernel_rfl) (by kernel_rfl) (by kernel_rfl) (fun _ _ _ h => h) (Or.inl ⟨by rfl, ?_⟩) (by assumption) ?_
     rotate_left
     ·(intro w9 hS9; (try simp only [List.getElem_toArray, List.getElem_cons_zero, List.getElem_cons_succ]); go_simp <;> rfl)
     refine wpAnyH_take (i := 3) (v := ?_) rfl (by kernel_rfl) (by kernel_rfl) (by kernel_rfl) (fun _ _ _ h => h) (Or.inl ⟨by rfl, ?_⟩) (by assumption) ?_
     rotate_left
     ·(intro w9 hS9; (try simp only [List.getElem_toArray, List.getElem_cons_zero, List.getElem_cons_succ]); go_simp <;> rfl)
     refine wpAnyH_take (i := 4) (v := ?_) rfl (by kernel_rfl) (by kernel_rfl) (by kernel_rfl) (fun _ _ _ h => h) (Or.inl ⟨by rfl, ?_⟩) (by assumption) ?_
     rotate_left
     ·(intro w9 hS9; (try simp only [List.getElem_toArray, List.getElem_cons_zero, List.getElem_cons_succ]); go_simp <;> rfl)
     refine wpAnyH_take (i := 5) (v := ?_) rfl (by kernel_rfl) (by kernel_rfl) (by kernel_rfl) (fun _ _ _ h => h) (Or.inl ⟨by rfl, ?_⟩) (by assumption) ?_
     rotate_left
     ·(intro w9 hS9; (try simp only [List.getElem_toArray, List.getElem_cons_zero, List.getElem_cons_succ]); go_simp <;> rfl)
     refine wpAnyH_take (i := 6) (v := ?_) rfl (by kernel_rfl) (by kernel_rfl) (by kernel_rfl) (fun _ _ _ h => h) (Or.inl ⟨by rfl, ?_⟩) (by assumption) ?_
     rotate_left
     ·(intro w9 hS9; (try simp only [List.getElem_toArray, List.getElem_cons_zero, List.getElem_cons_succ]); go_simp <;> rfl)
     try simp only [Act.put, List.setIfInBounds_toArray, List.set_cons_zero, List.set_cons_succ, List.getElem_toArray, List.getElem_cons_zero, List.getElem_cons_succ]
     refine wpAnyH_ready (rs := [7]) (by kernel_rfl) (by simp) ?_
     refine AllReadyH.cons rfl (fun K hK => ?_) AllReadyH.nil
     try simp only [List.getElem_toArray, List.getElem_cons_zero, List.getElem_cons_succ]
     try go_simp
     go_at_call 90
     have hcl := HLfq.out V0 (HO1.out.trans HO0.out) lwho q lstart LA i0 lc LB lsteps ld lread ltaken leof lstatus HTq.out.2 HSr0.out (Nat.le_trans HSq.out (by omega)) HTq.out.1
     rw [← HS0.out] at hcl
     rw [show progM _ _ _ _ = prM ⟨vs, vd, vj, vPA, vpc, vL⟩ from HPM.out.symm, ← HWv.out, show (PrV.L ⟨vs, vd, vj, vPA, vpc, vL⟩).length = vn from HVn.out.symm] at hcl
     dsimp only at hcl
     refine hcl.mono ?_
     rintro e V1 ⟨⟨WA, wc9, rfl, hrd9⟩, hb9⟩
     have HL1 := hide (HL0.out.below hb9)
     have HO1' := hide (HO0.out.trans (Only.of_below hb9 _))
     have HOn1 := hide (own_only HOn0.out (Only.of_below hb9 NoBlk) (fun _ _ h => h.elim))
     have HRd9 := hide hrd9
     clear hrd9 hb9 hcl
     obtain ⟨wn, hwn⟩ : ∃ wn, wn = WL.length := ⟨_, rfl⟩
     rw [← hwn] at hwl' ⊢
     have HWn := hide hwn
     clear hwn
     refine hK.out _ _ (by obtain ⟨⟨x0, x1, x2, x3, x4, x5, x6, x7, x8⟩, _⟩ := (HL1.out).nine; exact ⟨x0, x1, x2, x3, x4, x5, x6, x7, x8, ((HO1.out.trans HO1'.out).cell (p := ⟨pb, po + q * 4, none⟩) hpb (fun h => h)).trans HC0.out, ((HO1.out.trans HO1'.out).cell (p := ⟨pb, po + q * 4 + 1, none⟩) hpb (fun h => h)).trans HC1.out, ((HO1.out.trans HO1'.out).cell (p := ⟨pb, po + q * 4 + 2, none⟩) hpb (fun h => h)).trans HC2.out, ((HO1.out.trans HO1'.out).cell (p := ⟨pb, po + q * 4 + 3, none⟩) hpb (fun h => h)).trans HC3.out⟩) (fun hHeld => ?_)
     clear hK K
     try simp only [Act.put, List.setIfInBounds_toArray, List.set_cons_zero, List.set_cons_succ, List.getElem_toArray, List.getElem_cons_zero, List.getElem_cons_succ]
     refine wpAnyH_ready (rs := [8]) (by kernel_rfl) (by simp) ?_
     refine AllReadyH.cons rfl (fun K hK => ?_) AllReadyH.nil
     have hsz1 : w1.heap.size ≤ V1.heap.size := HO1'.out.size
     refine step_append_rd V1 (by rfl) (.tmp 41) (.tmp 48) _ (by rfl) w1.heap.size 84 il _ 7 56 Tryz.underlying54 hil hlz0 hlz1 hlz2 rfl (by omega) (.slice OA m oc) m (flat encWt out) (by rfl) HOn1.out NoBlk WA wn wc9 (flat encWt WL) (by rfl) HRd9.out (by rw [flat_len encWt 7 encWt_len, HWn.out]) (flat_oneW encWt_one WL) (by simp only [maxLen]; omega) (by omega) hsz1 ?_
     intro v9 V3 hown2 hgr _
     have HOwn9 := hide hown2
     have Gr := hide hgr
     have HL3 := hide (Blk.grown HL1.out HOn1.out (by decide) hgr)
     have HOV3 := hide (HO1'.out.grown hgr (fun j hj => Or.inr (own_ge HOn1.out j hj)))
     obtain ⟨NA, nc, rfl, _⟩ := own_cap hown2
     clear hown2 hgr
     refine hK.out _ _ (by obtain ⟨⟨x0, x1, x2, x3, x4, x5, x6, x7, x8⟩, _⟩ := (HL3.out).nine; exact ⟨x0, x1, x2, x3, x4, x5, x6, x7, x8, ((HO1.out.trans HOV3.out).cell (p := ⟨pb, po + q * 4, none⟩) hpb (fun h => h)).trans HC0.out, ((HO1.out.trans HOV3.out).cell (p := ⟨pb, po + q * 4 + 1, none⟩) hpb (fun h => h)).trans HC1.out, ((HO1.out.trans HOV3.out).cell (p := ⟨pb, po + q * 4 + 2, none⟩) hpb (fun h => h)).trans HC2.out, ((HO1.out.trans HOV3.out).cell (p := ⟨pb, po + q * 4 + 3, none⟩) hpb (fun h => h)).trans HC3.out⟩) (fun hHeld => ?_)
     clear hK K
     refine wpAnyH_take (i := 9) (v := ?_) rfl (by kernel_rfl) (by kernel_rfl) (by kernel_rfl) (fun _ _ _ h => h) (Or.inl ⟨by rfl, ?_⟩) (by assumption) ?_
     rotate_left
     ·(intro w9 hS9; (try simp only [List.getElem_toArray, List.getElem_cons_zero, List.getElem_cons_succ]); go_simp <;> rfl)
     try simp only [Act.put, List.setIfInBounds_toArray, List.set_cons_zero, List.set_cons_succ, List.getElem_toArray, List.getElem_cons_zero, List.getElem_cons_succ]
     refine wpAnyH_done (by kernel_rfl) ?_ _
     try simp only [Exit.then]
     clear hHeld
     go_wp2_with fail
     go_roundw
     case rel =>
      refine ⟨k + 1, out ++ WL, by omega, by go_num, HF2, ?_, HOV3⟩
      rw [List.length_append, ← Hm.out, ← HWn.out, flat_append]
      exact HOwn9
     case measure => simp [intOf]; omega
end Go.Proofs.YtdmdohjdmnmabaaGreat
