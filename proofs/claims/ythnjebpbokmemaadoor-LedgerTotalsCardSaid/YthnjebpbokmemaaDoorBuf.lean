/- A text that is built: what it holds, and that nothing else is changed. Conditions: those of each theorem. -/
import Derived.Test.YthnjebpbokmemaaDoorLed3
import Derived.Laws.AppendOwn
namespace Go.Proofs.YthnjebpbokmemaaDoor
open Go.RowKit
set_option linter.unusedVariables false

/-- a builder in block b holds bs; its buffer is nil, or a row from B on -/
def BufAt (B b : Nat) (bs : List Value) (w : World) : Prop :=
  ∃ p v, (p = .pointer none ∨ p = .pointer (some ⟨b, 0, none⟩)) ∧ Blk w b 62 #[p, v] ∧ w.ownsRow B 5 1 v bs.length bs ∧ v.ownBlock ≠ some b
theorem Tryd.infoByte : (Tryd.prog.info? 5).map (fun i => (i.zero, i.size, i.bytes)) = some (some (.int .u8 0), 1, 1) := by kernel_rfl
/-- of the blocks below B only b's may have changed -/
def Keep (B b : Nat) : Nat → Prop := fun k => k = b ∨ B ≤ k
theorem copy_c (B b : Nat) (bs : List Value) (w : World) (h : BufAt B b bs w) : Calls Tryd.prog 37 #[.pointer (some ⟨b, 0, none⟩)] w fun e w' => e = .returned (.tuple #[]) ∧ (∃ v, Blk w' b 62 #[.pointer (some ⟨b, 0, none⟩), v] ∧ w'.ownsRow B 5 1 v bs.length bs ∧ v.ownBlock ≠ some b) ∧ Only (· = b) w w' ∧ (∀ B', B' ≤ b → Below B' w w') := by
  obtain ⟨p, v, hp, hb, hown, hne⟩ := h
  rcases hp with rfl | rfl
  · refine (Any.Builder_copyCheck_fresh (P := Tryd.prog) (ρ := Tryd.lays156_ren) { Tryd.lays166 with } Tryd.Builder_Extra_156.toX72 b w (by rw [hb.cell]; rfl) (by unfold World.shape?; rw [show w.heap[b]? = some (.cells #[.pointer none, v] 62 (0, 0)) from hb]; rfl) (hb.frozen 0)).mono ?_
    rintro e w' ⟨rfl, rfl⟩
    refine ⟨rfl, ⟨v, hb.set_ 0 _, own_only hown (only_set w b 0 _) (fun g cs hg hx => ?_), hne⟩, only_set w b 0 _, fun B' hB' => (Below.refl B' w).setCell hB' _⟩
    subst hg
    exact Blk.ne_ hx hb (by decide) rfl
  · refine (Any.Builder_copyCheck_used (P := Tryd.prog) (ρ := Tryd.lays156_ren) { Tryd.lays166 with } Tryd.Builder_Extra_156.toX72 b w (by rw [hb.cell]; rfl)).mono ?_
    rintro e w' ⟨rfl, rfl⟩
    exact ⟨rfl, ⟨v, hb, hown, hne⟩, Only.refl _ _, fun B' _ => Below.refl B' _⟩
set_option maxHeartbeats 2000000 in
set_option maxRecDepth 100000 in
theorem WStr_c (B b : Nat) (bs : List Value) (s : ByteArray) (w : World) (h : BufAt B b bs w) (hlen : bs.length + s.size ≤ 140737488355328) (hBw : B ≤ w.heap.size) (hbB : b < B) :
    Calls Tryd.prog 25 #[.pointer (some ⟨b, 0, none⟩), .string s] w fun e w' => e = .returned (.tuple #[.int .i64 s.size, .nilIface]) ∧ BufAt B b (bs ++ Lib.strCells s) w' ∧ Only (Keep B b) w w' ∧ Below b w w' := by
  obtain ⟨i0, hi, hz0, hz1, hz2⟩ := info_parts Tryd.infoByte
  have HC := hide (copy_c B b bs w h)
  clear h
  go_enter Tryd.func25, Tryd.ntmps25
  go_wp2_with fail
  refine HC.out.mono ?_
  rintro e w1 ⟨rfl, ⟨v, hbk, hown, hne⟩, ho1, hbl1⟩
  have c0 : w1.cell? ⟨b, 0, none⟩ = some (.pointer (some ⟨b, 0, none⟩)) := by rw [hbk.cell]; rfl
  have c1 : w1.cell? ⟨b, 1, none⟩ = some v := by rw [hbk.cell]; rfl
  have HB1 := hide (hbl1 b (Nat.le_refl _))
  have HO1 := hide ho1
  clear hbl1 ho1
  go_wp2_with (at_builtin; refine Lib.wpList_append_own_string _ rfl _ _ 60 9 rfl B 5 i0 Tryd.underlying60 Tryd.underlying9 hi hz0 hz1 hz2 _ _ _ rfl hown s rfl ?c3 ?c4 ?c5 ?_)
  case c3 => unfold maxLen; omega
  case c4 => omega
  case c5 => have := HO1.out.size; omega
  intro v' w2 hown' hgrow _
  have hb2 : Blk w2 b 62 #[.pointer (some ⟨b, 0, none⟩), v] := (hgrow.block b hbk.lt (fun e => hne e.symm)).trans hbk
  have d0 : w2.cell? ⟨b, 0, none⟩ = some (.pointer (some ⟨b, 0, none⟩)) := by rw [hb2.cell]; rfl
  have d1 : w2.cell? ⟨b, 1, none⟩ = some v := by rw [hb2.cell]; rfl
  have f1 : w2.frozen? ⟨b, 1, none⟩ = false := hb2.frozen 1
  have HO2 := hide ((HO1.out.mono (T := Keep B b) (fun k _ hk => Or.inl hk)).grown hgrow (fun k hk => Or.inl (Or.inr (own_ge hown k hk))))
  have HB2 := hide (HB1.out.grown hgrow (by have := HO1.out.size; omega) (fun k hk => by have := own_ge hown k hk; omega))
  have HW2 := hide hown'
  have HBk := hide hb2
  obtain ⟨ao, n', cap, hv'⟩ : ∃ ao n' cap, v' = .slice ao n' cap := by
    rcases hown'.2 with ⟨hv, _⟩ | ⟨g, cap, cur, hv, _⟩
    · exact ⟨_, _, _, hv⟩
    · exact ⟨_, _, _, hv⟩
  subst hv'
  clear hown' hgrow hb2 hown hbk HC
  go_wp2_with fail
  refine bodyPost_ret (v := .tuple #[.int .i64 s.size, .nilIface]) (by simp [results, Tryd.results25, go_sem]) rfl ?_
  have hnb : Value.ownBlock (.slice ao n' cap) ≠ some b := by
    intro e
    have := own_ge HW2.out b e
    omega
  refine ⟨rfl, ⟨_, .slice ao n' cap, Or.inr rfl, HBk.out.set_ 1 _, ?_, hnb⟩, HO2.out.setCell (Or.inl (Or.inl rfl)) _, HB2.out.setCell (Nat.le_refl _) _⟩
  have h2 := own_only HW2.out (only_set w2 b 1 (.slice ao n' cap)) (fun g cs hg hx => by
    subst hg
    exact Blk.ne_ hx HBk.out (by decide) rfl)
  simpa [Lib.strCells_length] using h2
set_option maxHeartbeats 2000000 in
set_option maxRecDepth 100000 in
theorem WByte_c (B b : Nat) (bs : List Value) (c : Int) (w : World) (h : BufAt B b bs w) (hlen : bs.length + 1 ≤ 140737488355328) (hBw : B ≤ w.heap.size) (hbB : b < B) :
    Calls Tryd.prog 26 #[.pointer (some ⟨b, 0, none⟩), .int .u8 c] w fun e w' => e = .returned .nilIface ∧ BufAt B b (bs ++ [.int .u8 c]) w' ∧ Only (Keep B b) w w' ∧ Below b w w' := by
  obtain ⟨i0, hi, hz0, hz1, hz2⟩ := info_parts Tryd.infoByte
  have HC := hide (copy_c B b bs w h)
  clear h
  go_enter Tryd.func26, Tryd.ntmps26
  go_wp2_with fail
  refine HC.out.mono ?_
  rintro e w1 ⟨rfl, ⟨v, hbk, hown, hne⟩, ho1, hbl1⟩
  have c0 : w1.cell? ⟨b, 0, none⟩ = some (.pointer (some ⟨b, 0, none⟩)) := by rw [hbk.cell]; rfl
  have c1 : w1.cell? ⟨b, 1, none⟩ = some v := by rw [hbk.cell]; rfl
  have HB1 := hide (hbl1 b (Nat.le_refl _))
  have HO1 := hide ho1
  have hblt := hbk.lt
  clear hbl1 ho1
  go_wp2_with (at_builtin; refine wpList_append_own _ rfl _ _ 60 rfl B 5 i0 (.int .u8 0) 1 1 Tryd.underlying60 hi hz0 hz1 hz2 rfl (by decide) _ _ _ rfl (hown.alloc _) ⟨w1.heap.size, 0, none⟩ 1 1 [.int .u8 c] rfl rfl ?c1 ?c2 ?c3 ?c4 ?c5 ?_)
  case c1 =>
    intro j u hj
    match j, hj with
    | 0, hj => simp at hj; subst hj; simp [Addr.add]
  case c2 => intro u hu; simp at hu; subst hu; rfl
  case c3 => unfold maxLen; omega
  case c4 => omega
  case c5 => have := HO1.out.size; simp; omega
  intro v' w2 hown' hgrow _
  have hb2 : Blk w2 b 62 #[.pointer (some ⟨b, 0, none⟩), v] := (hgrow.block b (by simp; omega) (fun e => hne e.symm)).trans (hbk.alloc _)
  have d0 : w2.cell? ⟨b, 0, none⟩ = some (.pointer (some ⟨b, 0, none⟩)) := by rw [hb2.cell]; rfl
  have d1 : w2.cell? ⟨b, 1, none⟩ = some v := by rw [hb2.cell]; rfl
  have f1 : w2.frozen? ⟨b, 1, none⟩ = false := hb2.frozen 1
  have HO2 := hide (((HO1.out.mono (T := Keep B b) (fun k _ hk => Or.inl hk)).alloc _).grown hgrow (fun k hk => Or.inl (Or.inr (own_ge hown k hk))))
  have HB2 := hide ((HB1.out.alloc (by have := HO1.out.size; omega) _).grown hgrow (by have := HO1.out.size; simp; omega) (fun k hk => by have := own_ge hown k hk; omega))
  have HW2 := hide hown'
  have HBk := hide hb2
  obtain ⟨ao, n', cap, hv'⟩ : ∃ ao n' cap, v' = .slice ao n' cap := by
    rcases hown'.2 with ⟨hv, _⟩ | ⟨g, cap, cur, hv, _⟩
    · exact ⟨_, _, _, hv⟩
    · exact ⟨_, _, _, hv⟩
  subst hv'
  clear hown' hgrow hb2 hown hbk HC
  go_wp2_with fail
  go_ret
  have hnb : Value.ownBlock (.slice ao n' cap) ≠ some b := by
    intro e
    have := own_ge HW2.out b e
    omega
  refine ⟨rfl, ⟨_, .slice ao n' cap, Or.inr rfl, HBk.out.set_ 1 _, ?_, hnb⟩, HO2.out.setCell (Or.inl (Or.inl rfl)) _, HB2.out.setCell (Nat.le_refl _) _⟩
  have h2 := own_only HW2.out (only_set w2 b 1 (.slice ao n' cap)) (fun g cs hg hx => by
    subst hg
    exact Blk.ne_ hx HBk.out (by decide) rfl)
  simpa using h2
theorem BufAt.call {B b : Nat} {bs : List Value} {w w' : World} (h : BufAt B b bs w) (hb : Below w.heap.size w w') : BufAt B b bs w' := by
  obtain ⟨p, v, hp, hk, hown, hne⟩ := h
  exact ⟨p, v, hp, hk.below hb, own_only hown (Only.of_below hb NoBlk) (fun _ _ h => h.elim), hne⟩
theorem Str_c (B b : Nat) (l : List UInt8) (w : World) (h : BufAt B b (Lib.byteCells l) w) (hBw : b ≤ w.heap.size) (hbB : b ≤ B) :
    Calls Tryd.prog 27 #[.pointer (some ⟨b, 0, none⟩)] w fun e w' => e = .returned (.string (bs l)) ∧ Below b w w' := by
  obtain ⟨p, v, hp, hk, hown, hne⟩ := h
  have hw := own_base hown hbB
  exact Tryd.Builder_String_any b b l w (by
    rcases hp with rfl | rfl
    · exact Or.inl ⟨Nat.le_refl _, v, hk, hw, hne⟩
    · exact Or.inr ⟨Nat.le_refl _, v, hk, hw, hne⟩) hBw
end Go.Proofs.YthnjebpbokmemaaDoor
