/- A ring of the call's own, its room left open. Conditions: those of each theorem. -/
import Derived.Test.YtmkbhejbbhikcaaRing4
namespace Go.Proofs.Ytmkbhejbbhikcaa
open Go.RowKit
set_option linter.unusedVariables false
structure RSt (w wx : World) (p h N : Nat) (S : ByteArray) : Prop where
  at_ : ∃ C f X Y, RingAt wx p h N C f X Y S
  fs : w.heap.size ≤ p ∧ w.heap.size ≤ h
  ho : Only NoBlk w wx
section
variable {w wx : World} {p h N : Nat} {S : ByteArray}
theorem RSt.fit (hs : RSt w wx p h N S) : S.size ≤ N ∧ 1 ≤ N ∧ N ≤ 4096 := by
  obtain ⟨C, f, X, Y, hr⟩ := hs.at_
  exact ⟨hr.rep.fit, hr.rep.n1, hr.rep.n2⟩
theorem RSt.lt (hs : RSt w wx p h N S) : p < wx.heap.size ∧ h < wx.heap.size := by
  obtain ⟨C, f, X, Y, hr⟩ := hs.at_
  exact hr.lt
theorem RSt.only {T : Nat → Prop} {w' : World} (hs : RSt w wx p h N S) (k : Only T wx w') (hp : ¬ T p) (hh : ¬ T h) (hT : ∀ i, T i → w.heap.size ≤ i) : RSt w w' p h N S := by
  obtain ⟨C, f, X, Y, hr⟩ := hs.at_
  exact ⟨⟨C, f, X, Y, hr.only k hp hh⟩, hs.fs, hs.ho.fresh k (fun i _ hi => Or.inr (hT i hi))⟩
theorem RSt.below {w' : World} (hs : RSt w wx p h N S) (k : Below wx.heap.size wx w') : RSt w w' p h N S :=
  hs.only (Only.of_below k NoBlk) (fun h => h) (fun h => h) (fun _ h => h.elim)
theorem RSt.drew (hs : RSt w wx p h N S) : RSt w wx.drew p h N S := hs.below (below_drew _)
theorem RSt.change {w' : World} {C f : Nat} {X : List UInt8} {Y : List Value} {S' : ByteArray} (hs : RSt w wx p h N S) (hr : RingAt w' p h N C f X Y S') (k : Only (fun i => i = p ∨ i = h) wx w') : RSt w w' p h N S' :=
  ⟨⟨C, f, X, Y, hr⟩, hs.fs, hs.ho.fresh k (fun i _ hi => Or.inr (by rcases hi with rfl | rfl; exact hs.fs.1; exact hs.fs.2))⟩
theorem New_s (w0 : World) (most : Int) (w : World) (hw : Only NoBlk w0 w) : Calls Try.prog 33 #[.int .i64 most] w fun e w' => ∃ p h, e = .returned (.pointer (some ⟨p, 0, none⟩)) ∧ RSt w0 w' p h (clip most 1 4096).toNat ⟨#[]⟩ ∧ w.heap.size ≤ p ∧ w.heap.size ≤ h ∧ Only NoBlk w w' :=
  (New_r most w).mono fun e w' ⟨he, h1, ho, _⟩ => ⟨_, _, he, ⟨⟨_, _, _, _, h1⟩, ⟨by have := hw.size; omega, hw.size⟩, hw.trans ho⟩, by omega, Nat.le_refl _, ho⟩
theorem Put_s (s : ByteArray) (hl : s.size ≤ maxLen) (hs : RSt w wx p h N S) :
    Calls Try.prog 34 #[.pointer (some ⟨p, 0, none⟩), .string s] wx fun e w' => e = .returned (.int .i64 (rput N S s)) ∧ RSt w w' p h N (rputS N S s) ∧ Only (fun i => i = p ∨ i = h) wx w' := by
  obtain ⟨C, f, X, Y, hr⟩ := hs.at_
  exact (Put_c s hl hr).mono fun e w' ⟨he, h1, ho⟩ => ⟨he, hs.change h1 ho, ho⟩
theorem Take_s (n : Int) (hs : RSt w wx p h N S) :
    Calls Try.prog 35 #[.pointer (some ⟨p, 0, none⟩), .int .i64 n] wx fun e w' => e = .returned (.string (S.extract 0 (tk n S))) ∧ RSt w w' p h N (S.extract (tk n S) S.size) ∧ Only (fun i => i = p ∨ i = h) wx w' := by
  obtain ⟨C, f, X, Y, hr⟩ := hs.at_
  exact (Take_c n hr).mono fun e w' ⟨he, h1, ho⟩ => ⟨he, hs.change h1 (ho.mono fun _ _ e => Or.inl e), ho.mono fun _ _ e => Or.inl e⟩
theorem Drop_s (n : Int) (hs : RSt w wx p h N S) :
    Calls Try.prog 46 #[.pointer (some ⟨p, 0, none⟩), .int .i64 n] wx fun e w' => e = .returned (.int .i64 (tk n S)) ∧ RSt w w' p h N (S.extract (tk n S) S.size) ∧ Only (fun i => i = p ∨ i = h) wx w' := by
  obtain ⟨C, f, X, Y, hr⟩ := hs.at_
  exact (Drop_c n hr).mono fun e w' ⟨he, h1, ho⟩ => ⟨he, hs.change h1 (ho.mono fun _ _ e => Or.inl e), ho.mono fun _ _ e => Or.inl e⟩
theorem Len_s (hs : RSt w wx p h N S) : Calls Try.prog 42 #[.pointer (some ⟨p, 0, none⟩)] wx fun e w' => e = .returned (.int .i64 S.size) ∧ wx = w' := by
  obtain ⟨C, f, X, Y, hr⟩ := hs.at_
  exact len_c hr
theorem Most_s (hs : RSt w wx p h N S) : Calls Try.prog 44 #[.pointer (some ⟨p, 0, none⟩)] wx fun e w' => e = .returned (.int .i64 N) ∧ wx = w' := by
  obtain ⟨C, f, X, Y, hr⟩ := hs.at_
  exact most_c hr
theorem Room_s (hs : RSt w wx p h N S) : Calls Try.prog 43 #[.pointer (some ⟨p, 0, none⟩)] wx fun e w' => e = .returned (.int .i64 ((N : Int) - S.size)) ∧ Below wx.heap.size wx w' := by
  obtain ⟨C, f, X, Y, hr⟩ := hs.at_
  exact Room_b hr
theorem Peek_s (a n : Int) (hs : RSt w wx p h N S) : Calls Try.prog 37 #[.pointer (some ⟨p, 0, none⟩), .int .i64 a, .int .i64 n] wx fun e w' => e = .returned (.string (pk a n S)) ∧ Below wx.heap.size wx w' := by
  obtain ⟨C, f, X, Y, hr⟩ := hs.at_
  exact Peek_b a n hr
theorem told_s (a n : Int) (hs : RSt w wx p h N S) : Calls Try.prog 45 #[.pointer (some ⟨p, 0, none⟩), .agg #[.string S, .int .i64 N], .int .i64 a, .int .i64 n] wx fun e w' => e = .returned (.bool true) ∧ Below wx.heap.size wx w' := by
  obtain ⟨C, f, X, Y, hr⟩ := hs.at_
  exact rtold_c a n hr
end
end Go.Proofs.Ytmkbhejbbhikcaa
