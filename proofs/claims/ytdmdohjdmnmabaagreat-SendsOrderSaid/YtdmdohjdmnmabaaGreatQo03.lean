/- Parts of a chain of lemmas: App, Cut, Few. Conditions: those of each theorem. -/
import Derived.Test.YtdmdohjdmnmabaaGreatQo01
import Derived.Maps.AppendAt
import Derived.Deep.AppendLies
import Derived.Deep.RegionLaw
import Derived.Test.YtdmdohjdmnmabaaGreatQo02
import Derived.BigRegion
import Derived.RegionTactic
import Derived.BigQuiet
import Derived.Deep.QuietTactic
import Derived.Deep.RegionHeld3
import Derived.Deep.DeepCutAuto
import Derived.Deep.CutBlock
namespace Go.Proofs.YtdmdohjdmnmabaaGreat
open Go.RowKit
set_option linter.unusedVariables false

section
variable {P : Program} (w : World)
theorem run_append_of_nil (base : Nat) (t ty e : TypeId) (i : TypeInfo) (size : Nat) (ht : P.underlying t = some (.slice e)) (hi : P.info? e = some i)
    (v : Value) (n : Nat) (xs : List Value) (hown : w.ownsRow base e size v n xs) (c : Nat) : (Builtin.append_ #[t, t] ty #[v, .slice none 0 c]).run P w = .ok v w := by
  rcases hown.2 with ⟨rfl, rfl⟩ | ⟨g, cap, cur, rfl, _, _, hnc, _⟩
  · simp [Builtin.append_, run_underlying ht, sizeOf, typeInfo, hi, Builtin.lenOf, Builtin.firstCells]
  · simp [Builtin.append_, run_underlying ht, sizeOf, typeInfo, hi, Builtin.lenOf, Builtin.firstCells, hnc, storeCells]
theorem run_append_rd (base : Nat) (t ty e : TypeId) (i : TypeInfo) (z : Value) (size bytes : Nat) (ht : P.underlying t = some (.slice e)) (hi : P.info? e = some i) (hz : i.zero = some z)
    (hsize : i.size = size) (hby : i.bytes = bytes) (hzs : z.cells.size = size) (hsz : 0 < size)
    (v : Value) (n : Nat) (xs : List Value) (hown : w.ownsRow base e size v n xs)
    (M : Nat → Prop) (A : Option Addr) (m c : Nat) (news : List Value) (hr : Rd w M A news) (hl : news.length = m * size) (h1 : ∀ u ∈ news, u.oneCell' = true)
    (h63 : n + m ≤ maxLen) (hbytes : (n + m) * bytes ≤ 140737488355328) (hbase : base ≤ w.heap.size) :
    ∃ v' w', (Builtin.append_ #[t, t] ty #[v, .slice A m c]).run P w = .ok v' w' ∧ w'.ownsRow base e size v' (n + m) (xs ++ news) ∧ w.grownBy w' v.ownBlock ∧
      (v'.ownBlock = v.ownBlock ∨ v'.ownBlock = some w.heap.size) := by
  rcases hr with hn | ⟨b, o, hA, _, _, hc⟩
  · subst hn
    have hm : m = 0 := by
      rcases Nat.eq_zero_or_pos m with h0 | h0
      · exact h0
      · have := Nat.mul_pos h0 hsz
        simp at hl; omega
    subst hm
    cases A with
    | none => exact ⟨v, w, run_append_of_nil w base t ty e i size ht hi v n xs hown c, by simpa using hown, World.grownBy.refl w _, .inl rfl⟩
    | some ad =>
      obtain ⟨v', w', hrun, h2, h3, _, h5⟩ := run_append_own_at (P := P) w base t ty e i z size bytes ht hi hz hsize hby hzs hsz v n xs hown ad 0 c [] (by simp) (by simp) (by simp) h63 hbytes hbase
      exact ⟨v', w', hrun, h2, h3, h5⟩
  · subst hA
    have hcells : ∀ j u, news[j]? = some u → w.cell? ((⟨b, o, none⟩ : Addr).add j) = some u := by
      intro j u hu
      rw [Addr.add_lit, ← hu]
      exact hc j (List.getElem?_eq_some_iff.1 hu).1
    obtain ⟨v', w', hrun, h2, h3, _, h5⟩ := run_append_own_at (P := P) w base t ty e i z size bytes ht hi hz hsize hby hzs hsz v n xs hown ⟨b, o, none⟩ m c news hl hcells h1 h63 hbytes hbase
    exact ⟨v', w', hrun, h2, h3, h5⟩
theorem wp_append_rd {o : Oper} {a : Act} {K : Act → World → Prop} {Q : Exit → Act → World → Prop} (s x : Operand) (t : TypeId)
    (ho : o.op = .call { callee := .builtin .append, args := #[s, x], argTypes := #[t, t] })
    (base : Nat) (e : TypeId) (i : TypeInfo) (z : Value) (size bytes : Nat) (ht : P.underlying t = some (.slice e)) (hi : P.info? e = some i) (hz : i.zero = some z)
    (hsize : i.size = size) (hby : i.bytes = bytes) (hzs : z.cells.size = size) (hsz : 0 < size)
    (v : Value) (n : Nat) (xs : List Value) (hs : a.eval s = v) (hown : w.ownsRow base e size v n xs)
    (M : Nat → Prop) (A : Option Addr) (m c : Nat) (news : List Value) (hx : a.eval x = .slice A m c) (hr : Rd w M A news) (hl : news.length = m * size) (h1 : ∀ u ∈ news, u.oneCell' = true)
    (h63 : n + m ≤ maxLen) (hbytes : (n + m) * bytes ≤ 140737488355328) (hbase : base ≤ w.heap.size)
    (h : ∀ v' w', w'.ownsRow base e size v' (n + m) (xs ++ news) → w.grownBy w' v.ownBlock → (v'.ownBlock = v.ownBlock ∨ v'.ownBlock = some w.heap.size) → K (a.put o.dst v') w') : o.wp P a w K Q := by
  obtain ⟨v', w', hrun, h2, h3, h4⟩ := run_append_rd (P := P) w base t o.type e i z size bytes ht hi hz hsize hby hzs hsz v n xs hown M A m c news hr hl h1 h63 hbytes hbase
  unfold Oper.wp execOp
  simp only [ho, resolve, invoke, builtin, Sem.run_bind, Sem.run_pure, Result.andThen_ok, List.map_toArray, List.map_cons, List.map_nil, hs, hx, hrun]
  exact h v' w' h2 h3 h4
theorem wpList_append_rd {ops : Array Oper} {rest : List Oper} {o : Oper} {a : Act} {Q : Exit → Act → World → Prop} (hgd : o.guard = none) (s x : Operand) (t : TypeId)
    (ho : o.op = .call { callee := .builtin .append, args := #[s, x], argTypes := #[t, t] })
    (base : Nat) (e : TypeId) (i : TypeInfo) (z : Value) (size bytes : Nat) (ht : P.underlying t = some (.slice e)) (hi : P.info? e = some i) (hz : i.zero = some z)
    (hsize : i.size = size) (hby : i.bytes = bytes) (hzs : z.cells.size = size) (hsz : 0 < size)
    (v : Value) (n : Nat) (xs : List Value) (hs : a.eval s = v) (hown : w.ownsRow base e size v n xs)
    (M : Nat → Prop) (A : Option Addr) (m c : Nat) (news : List Value) (hx : a.eval x = .slice A m c) (hr : Rd w M A news) (hl : news.length = m * size) (h1 : ∀ u ∈ news, u.oneCell' = true)
    (h63 : n + m ≤ maxLen) (hbytes : (n + m) * bytes ≤ 140737488355328) (hbase : base ≤ w.heap.size)
    (h : ∀ v' w', w'.ownsRow base e size v' (n + m) (xs ++ news) → w.grownBy w' v.ownBlock → (v'.ownBlock = v.ownBlock ∨ v'.ownBlock = some w.heap.size) → wpList P ops Q rest (a.put o.dst v') w') : wpList P ops Q (o :: rest) a w :=
  wpList_plain hgd fun _ hK => wp_append_rd w s x t ho base e i z size bytes ht hi hz hsize hby hzs hsz v n xs hs hown M A m c news hx hr hl h1 h63 hbytes hbase fun v' w' h2 h3 h4 => hK _ _ (h v' w' h2 h3 h4)
theorem step_append_rd {ops : Array Oper} {o : Oper} {a : Act} {K : Act → World → Prop} {Q : Exit → Act → World → Prop} {E : Prop} (hgd : o.guard = none) (s x : Operand) (t : TypeId)
    (ho : o.op = .call { callee := .builtin .append, args := #[s, x], argTypes := #[t, t] })
    (base : Nat) (e : TypeId) (i : TypeInfo) (z : Value) (size bytes : Nat) (ht : P.underlying t = some (.slice e)) (hi : P.info? e = some i) (hz : i.zero = some z)
    (hsize : i.size = size) (hby : i.bytes = bytes) (hzs : z.cells.size = size) (hsz : 0 < size)
    (v : Value) (n : Nat) (xs : List Value) (hs : a.eval s = v) (hown : w.ownsRow base e size v n xs)
    (M : Nat → Prop) (A : Option Addr) (m c : Nat) (news : List Value) (hx : a.eval x = .slice A m c) (hr : Rd w M A news) (hl : news.length = m * size) (h1 : ∀ u ∈ news, u.oneCell' = true)
    (h63 : n + m ≤ maxLen) (hbytes : (n + m) * bytes ≤ 140737488355328) (hbase : base ≤ w.heap.size)
    (h : ∀ v' w', w'.ownsRow base e size v' (n + m) (xs ++ news) → w.grownBy w' v.ownBlock → (v'.ownBlock = v.ownBlock ∨ v'.ownBlock = some w.heap.size) → K (a.put o.dst v') w') :
    if Region.wanted o (yielded ops a.tmps) = true then Oper.wp P o a w K Q else E := by
  have hw : Region.wanted o (yielded ops a.tmps) = true := by simp [Region.wanted, hgd]
  rw [if_pos hw]
  exact wp_append_rd w s x t ho base e i z size bytes ht hi hz hsize hby hzs hsz v n xs hs hown M A m c news hx hr hl h1 h63 hbytes hbase h
end
theorem own_empty {w : World} {base : Nat} {e : TypeId} {size : Nat} (h : base ≤ w.heap.size) : (w.alloc (.cells #[] e)).ownsRow base e size (.slice (some ⟨w.heap.size, 0, none⟩) 0 0) 0 [] :=
  ⟨by simp, Or.inr ⟨w.heap.size, 0, #[], rfl, h, heap_alloc_new _ _, Nat.le_refl _, by unfold maxLen; omega, by simp, by simp⟩⟩
theorem own_empty' {w : World} {base g : Nat} {e : TypeId} {size : Nat} (h : base ≤ w.heap.size) (hg : g = w.heap.size) : (w.alloc (.cells #[] e)).ownsRow base e size (.slice (some ⟨g, 0, none⟩) 0 0) 0 [] := by
  subst hg; exact own_empty h
theorem Rd.alloc {w : World} {M : Nat → Prop} {A : Option Addr} {xs : List Value} (h : Rd w M A xs) (o : Obj) : Rd (w.alloc o) M A xs := h.only ((Only.refl NoBlk _).alloc o) (fun _ h => h.elim)
/-- a block reads as its cells -/
theorem rd_blkN {w : World} {M : Nat → Prop} {g : Nat} {t : TypeId} {xs : List Value} (h : Blk w g t xs.toArray) (hm : ¬ M g) : Rd w M (some ⟨g, 0, none⟩) xs :=
  Or.inr ⟨g, 0, rfl, hm, h.lt, fun j hj => by
    rw [h.cell, List.getElem?_toArray, Nat.zero_add]⟩
theorem own_cap {w : World} {base size n : Nat} {e : TypeId} {v : Value} {xs : List Value} (h : w.ownsRow base e size v n xs) : ∃ A c, v = .slice A n c ∧ n ≤ c := by
  rcases h.2 with ⟨hv, hn⟩ | ⟨g, cap, cur, hv, _, _, hnc, _⟩
  · exact ⟨none, 0, by rw [hv, hn], by omega⟩
  · exact ⟨_, cap, hv, hnc⟩
end Go.Proofs.YtdmdohjdmnmabaaGreat
namespace Go.Proofs.YtdmdohjdmnmabaaGreat
open Go.RowKit
set_option linter.unusedVariables false

theorem below_drewN (w : World) (n : Nat) : Below w.heap.size w (w.drewN n) := ⟨rfl, rfl, rfl, Nat.le_refl _, fun _ _ => rfl⟩
theorem below_drew (w : World) : Below w.heap.size w w.drew := ⟨rfl, rfl, rfl, Nat.le_refl _, fun _ _ => rfl⟩
theorem below_alloc (w : World) (o : Obj) : Below w.heap.size w (w.alloc o) := (Below.refl _ _).alloc (Nat.le_refl _) _
def cutS (s : ByteArray) (most : Nat) : ByteArray := if most < s.size then s.extract 0 most else s
theorem cutS_size (s : ByteArray) (most : Nat) : (cutS s most).size = min s.size most := by
  unfold cutS
  split
  · rw [ba_sub_size s 0 most (by omega) (by omega)]; omega
  · omega
theorem cutS_c (s : ByteArray) (most : Nat) (w : World) (hm : most ≤ 100000) :
    Calls Tryz.prog 38 #[.string s, .int .i64 most] w fun e w' => e = .returned (.string (cutS s most)) ∧ w = w' := by
  unfold cutS
  by_cases h : most < s.size
  · rw [if_pos h]
    have hle : most ≤ s.size := by omega
    go_enter Tryz.func38, Tryz.ntmps38
    go_wp2
    go_ret
    exact ⟨rfl, rfl⟩
  · rw [if_neg h]
    have hd : decide ((most : Int) < s.size) = false := by simp; omega
    have hd2 : decide (most < s.size) = false := by simp; omega
    go_enter Tryz.func38, Tryz.ntmps38
    go_wp2
    go_ret
    exact ⟨rfl, rfl⟩
/-- events that are returned -/
def RetEvs (M : Nat → Prop) (L : List Ev) (w : World) (e : Ending) (w' : World) : Prop :=
  ∃ A c, e = .returned (.slice A L.length c) ∧ Rd w' M A (flat encEv L) ∧ Below w.heap.size w w' ∧ L.length ≤ c
theorem encEv_one (x : Ev) : ∀ u ∈ encEv x, u.oneCell' = true := by
  intro u hu
  simp [encEv] at hu
  rcases hu with rfl | rfl | rfl | rfl | rfl | rfl | rfl | rfl | rfl | rfl | rfl | rfl <;> rfl
theorem Tryz.infoEv : (Tryz.prog.info? 82).map (fun i => (i.zero, i.size, i.bytes)) = some (some (.agg #[.int .i64 0, .int .i64 0, .int .i64 0, .int .i64 0, .string ⟨#[]⟩, .int .i64 0, .int .i64 0, .int .i64 0, .int .i64 0, .int .i64 0, .int .i64 0, .int .i64 0]), 12, 104) := by kernel_rfl
theorem Tryz.infoInp : (Tryz.prog.info? 137).map (fun i => (i.zero, i.size, i.bytes)) = some (some (.agg #[.int .i64 0, .string ⟨#[]⟩, .int .i64 0, .int .i64 0]), 4, 40) := by kernel_rfl
theorem Tryz.infoStp : (Tryz.prog.info? 26).map (fun i => (i.zero, i.size, i.bytes)) = some (some (.agg #[.int .i64 0, .int .i64 0, .int .i64 0, .int .i64 0, .int .i64 0, .int .i64 0]), 6, 48) := by kernel_rfl
theorem Tryz.infoOut : (Tryz.prog.info? 197).map (fun i => (i.zero, i.size, i.bytes)) = some (some (.agg #[.int .i64 0, .string ⟨#[]⟩, .int .i64 0, .int .i64 0, .int .i64 0, .int .i64 0, .int .i64 0, .int .i64 0, .bool false]), 9, 80) := by kernel_rfl
def fewL (l : List Ev) (m : Nat) : List Ev := (l.take m).map fun x => { x with s := cutS x.s 24 }
end Go.Proofs.YtdmdohjdmnmabaaGreat
namespace Go.Proofs.YtdmdohjdmnmabaaGreat
open Go.RowKit
set_option linter.unusedVariables false

section
variable {w : World} {M : Nat → Prop} {A : Option Addr} {l : List Ev}
theorem ev_cells (hr : Rd w M A (flat encEv l)) (k : Nat) (hk : k < l.length) : ∃ b o, A = some ⟨b, o, none⟩ ∧ ¬ M b ∧ b < w.heap.size ∧
    w.cell? ⟨b, o + k * 12, none⟩ = some (.int .i64 (evAt l k).k) ∧ w.cell? ⟨b, o + k * 12 + 1, none⟩ = some (.int .i64 (evAt l k).id) ∧ w.cell? ⟨b, o + k * 12 + 2, none⟩ = some (.int .i64 (evAt l k).n) ∧ w.cell? ⟨b, o + k * 12 + 3, none⟩ = some (.int .i64 (evAt l k).tick) ∧
    w.cell? ⟨b, o + k * 12 + 4, none⟩ = some (.string (evAt l k).s) ∧ w.cell? ⟨b, o + k * 12 + 5, none⟩ = some (.int .i64 (evAt l k).err) ∧ w.cell? ⟨b, o + k * 12 + 6, none⟩ = some (.int .i64 (evAt l k).st.tick) ∧ w.cell? ⟨b, o + k * 12 + 7, none⟩ = some (.int .i64 (evAt l k).st.at_) ∧
    w.cell? ⟨b, o + k * 12 + 8, none⟩ = some (.int .i64 (evAt l k).st.what) ∧ w.cell? ⟨b, o + k * 12 + 9, none⟩ = some (.int .i64 (evAt l k).st.arm) ∧ w.cell? ⟨b, o + k * 12 + 10, none⟩ = some (.int .i64 (evAt l k).st.n) ∧ w.cell? ⟨b, o + k * 12 + 11, none⟩ = some (.int .i64 (evAt l k).st.status) := by
  obtain ⟨b, o, hA, hm, hb, hc⟩ := flat_cells encEv_len hr k _ (evAt_some hk) (by omega)
  exact ⟨b, o, hA, hm, hb, hc 0 (by omega), hc 1 (by omega), hc 2 (by omega), hc 3 (by omega), hc 4 (by omega), hc 5 (by omega), hc 6 (by omega), hc 7 (by omega), hc 8 (by omega), hc 9 (by omega), hc 10 (by omega), hc 11 (by omega)⟩
end
theorem bkeepL {B : Nat} {w0 w1 : World} {b o : Nat} {v : Value} (h : Below B w0 w1) (hb : b < B) (hc : w0.cell? ⟨b, o, none⟩ = some v) : w1.cell? ⟨b, o, none⟩ = some v :=
  (h.cell (p := ⟨b, o, none⟩) hb).trans hc
/-- the twelve values of an event -/
def evV (x : Ev) : Array Value := #[.int .i64 x.k, .int .i64 x.id, .int .i64 x.n, .int .i64 x.tick, .string x.s, .int .i64 x.err, .int .i64 x.st.tick, .int .i64 x.st.at_, .int .i64 x.st.what, .int .i64 x.st.arm, .int .i64 x.st.n, .int .i64 x.st.status]
theorem fewL_succ (l : List Ev) (k : Nat) (h : k < l.length) : fewL l (k + 1) = fewL l k ++ [{ evAt l k with s := cutS (evAt l k).s 24 }] := by
  unfold fewL
  rw [List.take_succ_eq_append_getElem h, List.map_append]
  have e : evAt l k = l[k] := by simp [evAt, List.getD, h]
  rw [e]; rfl
theorem fewL_len (l : List Ev) (k : Nat) (h : k ≤ l.length) : (fewL l k).length = k := by
  unfold fewL
  rw [List.length_map, List.length_take]; omega
set_option maxRecDepth 100000 in
set_option maxHeartbeats 1600000 in
theorem Few_c (M : Nat → Prop) (A : Option Addr) (c : Nat) (l : List Ev) (most : Nat) (w : World) (hr : Rd w M A (flat encEv l)) (hn0 : l.length ≤ maxLen) (hm : most ≤ 1000) (hM : ∀ k, M k → k < w.heap.size) :
    Calls Tryz.prog 13 #[.slice A l.length c, .int .i64 most] w (RetEvs M (fewL l most) w) := by
  have hn : l.length ≤ 9223372036854775807 := hn0
  have Hc := hide (fun k hk => ev_cells hr k hk)
  have HM := hide hM
  obtain ⟨i0, hi, hz0, hz1, hz2⟩ := info_parts Tryz.infoEv
  obtain ⟨n, hnl⟩ : ∃ n, n = l.length := ⟨_, rfl⟩
  rw [← hnl] at hn ⊢
  have Hn := hide hnl
  clear hr hM hn0 hnl
  go_enter Tryz.func13, Tryz.ntmps13
  go_wp2_with fail
  go_loopw [5, 6] (fun v i wr => ∃ k : Nat, k ≤ n ∧ k ≤ most ∧ i = .int .i64 k ∧ wr.ownsRow w.heap.size 82 12 v k (flat encEv (fewL l k)) ∧ Below w.heap.size w wr) (fun _ i _ => n - (intOf i).toNat)
  case atStart => exact ⟨0, Nat.zero_le _, Nat.zero_le _, rfl, own_empty (Nat.le_refl _), below_alloc _ _⟩
  case round =>
    obtain ⟨k, hk, hkm, rfl, hown, hbel⟩ := hrel
    by_cases hboth : k < n ∧ k < most
    · obtain ⟨hlt, hltm⟩ := hboth
      obtain ⟨b, o, rfl, _, hb, g0, g1, g2, g3, g4, g5, g6, g7, g8, g9, g10, g11⟩ := Hc.out k (by rw [← Hn.out]; exact hlt)
      replace g0 := bkeepL hbel hb g0
      replace g1 := bkeepL hbel hb g1
      replace g2 := bkeepL hbel hb g2
      replace g3 := bkeepL hbel hb g3
      replace g4 := bkeepL hbel hb g4
      replace g5 := bkeepL hbel hb g5
      replace g6 := bkeepL hbel hb g6
      replace g7 := bkeepL hbel hb g7
      replace g8 := bkeepL hbel hb g8
      replace g9 := bkeepL hbel hb g9
      replace g10 := bkeepL hbel hb g10
      replace g11 := bkeepL hbel hb g11
      have HF := hide (fewL_succ l k (by rw [← Hn.out]; exact hlt))
      obtain ⟨x, hx⟩ : ∃ x, x = evAt l k := ⟨_, rfl⟩
      rw [← hx] at g0 g1 g2 g3 g4 g5 g6 g7 g8 g9 g10 g11
      have HX := hide hx
      clear hx
      obtain ⟨y, hy⟩ : ∃ y : Ev, y = { x with s := cutS x.s 24 } := ⟨_, rfl⟩
      have HY := hide hy
      have hsy := hide (show cutS x.s 24 = y.s by rw [hy])
      clear hy
      have hrd : Rd (((wr.alloc (.cells (encEv { x with s := cutS x.s 24 }).toArray 82)).alloc (.cells (encEv { x with s := cutS x.s 24 }).toArray 82))) NoBlk (some ⟨wr.heap.size + 1, 0, none⟩) (encEv { x with s := cutS x.s 24 }) := rd_blkN (Blk.new' (by simp)) (fun h => h)
      have Hrd := hide hrd
      have Hone := hide (encEv_one { x with s := cutS x.s 24 })
      clear hrd
      go_wp2_with (first
        | (go_at_call 38; refine (cutS_c x.s 24 _ (by omega)).mono ?_; rintro e w2 ⟨rfl, rfl⟩)
        | (at_builtin; refine wpList_append_rd _ rfl (.tmp 28) (.tmp 30) _ rfl w.heap.size 82 i0 _ 12 104 Tryz.underlying38 hi hz0 hz1 hz2 rfl (by omega) _ k _ rfl ((hown.alloc _).alloc _) NoBlk (some ⟨wr.heap.size + 1, 0, none⟩) 1 1 (encEv { x with s := cutS x.s 24 }) rfl Hrd.out rfl Hone.out (by simp only [maxLen]; omega) (by omega) (by have := hbel.size; simp; omega) ?_; intro v2 w2 hown2 hgr _; have Own2 := hide hown2; have Gr := hide hgr; clear hown2 hgr))
      go_roundw
      case rel =>
        refine ⟨k + 1, by omega, by omega, by go_num, ?_, ?_⟩
        · rw [HF.out, ← HX.out, flat_append]
          have := Own2.out
          simpa [flat] using this
        · exact ((hbel.alloc hbel.size _).alloc (by have := hbel.size; simp; omega) _).grown Gr.out (by have := hbel.size; simp; omega) (fun j hj => by have := own_ge hown j hj; omega)
      case measure => simp [intOf]; omega
    · have hke : (fewL l most).length = k ∧ fewL l most = fewL l k := by
        have hln := Hn.out
        by_cases h1 : k = n
        · have e : fewL l most = fewL l k := by
            unfold fewL
            rw [List.take_of_length_le (by omega), List.take_of_length_le (by omega)]
          exact ⟨by rw [e, fewL_len l k (by omega)], e⟩
        · have h2 : k = most := by omega
          rw [h2]
          exact ⟨fewL_len l most (by omega), rfl⟩
      have HK := hide hke
      clear hke
      obtain ⟨A1, c1, rfl, hcap⟩ := own_cap hown
      have Hr := hide (Rd.of_own hown HM.out)
      have fin : RetEvs M (fewL l most) w (.returned (.slice A1 k c1)) wr := by
        refine ⟨A1, c1, by rw [HK.out.1], ?_, hbel, by rw [HK.out.1]; exact hcap⟩
        rw [HK.out.2]; exact Hr.out
      have Fin := hide fin
      clear fin
      by_cases hlt : k < n
      · have hd : decide ((k : Int) < most) = false := by simp; omega
        have hd2 : decide (k < most) = false := by simp; omega
        clear hboth hown hbel
        go_wp2_with fail
        go_ret
        exact Fin.out
      · have hd : decide ((k : Int) < n) = false := by simp; omega
        have hd2 : decide (k < n) = false := by simp; omega
        clear hboth hown hbel
        go_wp2_with fail
        go_ret
        exact Fin.out
/-- the first who was opened under a number: its place -/
def idxO (id : Int) (l : List Ev) : Int := if l.any (opens id) then (l.findIdx (opens id) : Int) else -1
theorem pred_c (x : Ev) (id : Int) (b : Nat) (w : World) (hb : w.cell? ⟨b, 0, none⟩ = some (.int .i64 id)) (hlt : b < w.heap.size) :
    Calls Tryz.prog 130 #[.agg #[.int .i64 x.k, .int .i64 x.id, .int .i64 x.n, .int .i64 x.tick, .string x.s, .int .i64 x.err, .int .i64 x.st.tick, .int .i64 x.st.at_, .int .i64 x.st.what, .int .i64 x.st.arm, .int .i64 x.st.n, .int .i64 x.st.status], .pointer (some ⟨b, 0, none⟩)] w fun e w' => e = .returned (.bool (opens id x)) ∧ Below w.heap.size w w' := by
  unfold opens
  have hne : ¬ b = w.heap.size := by omega
  have hne2 : ¬ w.heap.size = b := by omega
  by_cases h : x.k = 2
  · by_cases h2 : x.id = id
    · rw [decide_eq_true ⟨h, h2⟩]
      have hb1 : (x.k == 2) = true := by simp [h]
      have hb2 : (x.id == id) = true := by simp [h2]
      clear h h2
      go_enter Tryz.func130, Tryz.ntmps130
      go_wp2_with fail
      go_ret
      exact ⟨rfl, below_alloc _ _⟩
    · rw [decide_eq_false (fun h => h2 h.2)]
      have hb1 : (x.k == 2) = true := by simp [h]
      have hb2 : (x.id == id) = false := by simp [h2]
      clear h h2
      go_enter Tryz.func130, Tryz.ntmps130
      go_wp2_with fail
      go_ret
      exact ⟨rfl, below_alloc _ _⟩
  · rw [decide_eq_false (fun h' => h h'.1)]
    have hb1 : (x.k == 2) = false := by simp [h]
    clear h
    go_enter Tryz.func130, Tryz.ntmps130
    go_wp2_with fail
    go_ret
    exact ⟨rfl, below_alloc _ _⟩
theorem idxO_at (id : Int) (l : List Ev) (k : Nat) (hk : k < l.length) (h : ∀ y ∈ l.take k, opens id y = false) (hx : opens id (evAt l k) = true) : idxO id l = k := by
  have e : evAt l k = l[k] := by simp [evAt, List.getD, hk]
  rw [e] at hx
  unfold idxO
  have ha : l.any (opens id) = true := List.any_eq_true.2 ⟨l[k], List.getElem_mem hk, hx⟩
  rw [if_pos ha]
  have : l.findIdx (opens id) = k := by
    rw [List.findIdx_eq hk]
    refine ⟨hx, fun j hj => ?_⟩
    exact h _ (by rw [List.mem_take_iff_getElem]; exact ⟨j, by omega, rfl⟩)
  rw [this]
theorem idxO_none (id : Int) (l : List Ev) (h : ∀ y ∈ l, opens id y = false) : idxO id l = -1 := by
  unfold idxO
  have ha : ¬ l.any (opens id) = true := by
    rw [List.any_eq_true]
    rintro ⟨x, hx, ho⟩
    rw [h x hx] at ho
    cases ho
  rw [if_neg ha]
set_option maxRecDepth 100000 in
set_option maxHeartbeats 1600000 in
theorem IndexO_c (M : Nat → Prop) (A : Option Addr) (c : Nat) (l : List Ev) (id : Int) (b : Nat) (w : World) (hr : Rd w M A (flat encEv l)) (hn0 : l.length ≤ maxLen) (hb : w.cell? ⟨b, 0, none⟩ = some (.int .i64 id)) (hlt : b < w.heap.size) :
    Calls Tryz.prog 129 #[.slice A l.length c, .func (.func 130) #[] #[.pointer (some ⟨b, 0, none⟩)]] w fun e w' => e = .returned (.int .i64 (idxO id l)) ∧ Below w.heap.size w w' := by
  have hn : l.length ≤ 9223372036854775807 := hn0
  have Hc := hide (fun k hk => ev_cells hr k hk)
  obtain ⟨n, hnl⟩ : ∃ n, n = l.length := ⟨_, rfl⟩
  rw [← hnl] at hn ⊢
  have Hn := hide hnl
  have Hb := hide hb
  clear hr hn0 hnl hb
  go_enter Tryz.func129, Tryz.ntmps129
  go_wp2_with fail
  go_loopw [8] (fun i wr => ∃ k : Nat, k ≤ n ∧ i = .int .i64 k ∧ Hid (∀ y ∈ l.take k, opens id y = false) ∧ Below w.heap.size w wr) (fun i _ => n - (intOf i).toNat)
  case atStart => exact ⟨0, Nat.zero_le _, rfl, hide (by simp), Below.refl _ _⟩
  case round =>
    obtain ⟨k, hk, rfl, hnone, hbel⟩ := hrel
    by_cases hlt2 : k < n
    · obtain ⟨b2, o, rfl, _, hb2, g0, g1, g2, g3, g4, g5, g6, g7, g8, g9, g10, g11⟩ := Hc.out k (by rw [← Hn.out]; exact hlt2)
      replace g0 := bkeepL hbel hb2 g0
      replace g1 := bkeepL hbel hb2 g1
      replace g2 := bkeepL hbel hb2 g2
      replace g3 := bkeepL hbel hb2 g3
      replace g4 := bkeepL hbel hb2 g4
      replace g5 := bkeepL hbel hb2 g5
      replace g6 := bkeepL hbel hb2 g6
      replace g7 := bkeepL hbel hb2 g7
      replace g8 := bkeepL hbel hb2 g8
      replace g9 := bkeepL hbel hb2 g9
      replace g10 := bkeepL hbel hb2 g10
      replace g11 := bkeepL hbel hb2 g11
      have hpred := pred_c (evAt l k) id b wr (bkeepL hbel hlt Hb.out) (Nat.lt_of_lt_of_le hlt hbel.size)
      cases ho : opens id (evAt l k) with
      | true =>
        rw [ho] at hpred
        have HP := hide hpred
        have HI := hide (idxO_at id l k (by rw [← Hn.out]; exact hlt2) hnone.out ho)
        clear hpred ho
        go_wp2_with (go_at_call 130; refine HP.out.mono ?_; rintro e w2 ⟨rfl, hb2⟩)
        go_ret
        exact ⟨ret_int HI.out.symm, hbel.trans (hb2.mono hbel.size)⟩
      | false =>
        rw [ho] at hpred
        have HP := hide hpred
        have HI : Hid (∀ y ∈ l.take (k + 1), opens id y = false) := by
          intro y hy
          rw [List.take_succ_eq_append_getElem (by rw [← Hn.out]; exact hlt2)] at hy
          rcases List.mem_append.1 hy with hy | hy
          · exact hnone.out y hy
          · simp at hy
            subst hy
            rw [← ho]
            have e : evAt l k = l[k]'(by rw [← Hn.out]; exact hlt2) := by simp [evAt, List.getD, show k < l.length by rw [← Hn.out]; exact hlt2]
            rw [e]
        clear hpred ho hnone
        go_wp2_with (go_at_call 130; refine HP.out.mono ?_; rintro e w2 ⟨rfl, hb2⟩)
        go_roundw
        case rel => exact ⟨k + 1, by omega, by go_num, HI, hbel.trans (hb2.mono hbel.size)⟩
        case measure => simp [intOf]; omega
    · have hd : decide ((k : Int) < n) = false := by simp; omega
      have hd2 : decide (k < n) = false := by simp; omega
      have HI := hide (idxO_none id l (fun y hy => hnone.out y (by rw [List.take_of_length_le (by rw [← Hn.out]; omega)]; exact hy)))
      go_wp2_with fail
      go_ret
      exact ⟨ret_int HI.out.symm, hbel⟩
end Go.Proofs.YtdmdohjdmnmabaaGreat
