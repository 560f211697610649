/- What one had to write, plain. No program. Conditions: those of each theorem. -/
import Derived.Test.YtdmdohjdmnmabaaGreatQo47
namespace Go.Proofs.YtdmdohjdmnmabaaGreat
set_option linter.unusedVariables false
set_option linter.unusedSimpArgs false

/-- the text of a send -/
def txtS (p : ProgM) (x : SdM) : ByteArray := (p.ops.getD x.op.toNat opM0).text
/-- all texts in order -/
def catS (p : ProgM) (Q : List SdM) : ByteArray := Q.foldl (fun s x => s ++ txtS p x) ⟨#[]⟩
/-- how much is ahead of the last text -/
def lstS (p : ProgM) (Q : List SdM) : Nat := (catS p Q.dropLast).size
/-- whether it was taken so -/
def rightS (p : ProgM) (Q : List SdM) (t : ByteArray) : Bool :=
  decide (lstS p Q ≤ t.size) && (decide (t.size ≤ (catS p Q).size) && decide ((catS p Q).extract 0 t.size = t))
theorem catS_succ (p : ProgM) (Q : List SdM) (k : Nat) (h : k < Q.length) : catS p (Q.take (k + 1)) = catS p (Q.take k) ++ txtS p (Q[k]) := by
  rw [List.take_succ_eq_append_getElem h]
  unfold catS
  rw [List.foldl_append]
  rfl
theorem lstS_succ (p : ProgM) (Q : List SdM) (k : Nat) (h : k < Q.length) : lstS p (Q.take (k + 1)) = (catS p (Q.take k)).size := by
  unfold lstS
  rw [List.take_succ_eq_append_getElem h, List.dropLast_concat]
theorem scan_op (id : Int) (l : List Ev) (k : Nat) (s : SdM × Bool) : (scanStep id l k s).1.op = s.1.op := by
  unfold scanStep
  split
  · rfl
  split
  · rfl
  · show (if _ then _ else _ : SdM).op = _
    split
    · unfold writeX doneX takeX; repeat' split
      all_goals rfl
    split
    · unfold doneX; split <;> rfl
    · rfl
theorem scanD_op (id : Int) (l : List Ev) (x : SdM) (i : Nat) : ∀ m, (scanD id l x i m).1.op = x.op
  | 0 => rfl
  | m + 1 => by
    show (if m ≤ i then (x, false) else scanStep id l m (scanD id l x i m)).1.op = _
    split
    · rfl
    · rw [scan_op, scanD_op id l x i m]
theorem pair_ok (p : ProgM) (id : Int) (l : List Ev) (m : Nat) : ∀ i, ∀ y ∈ pairS p id l m i, sendB p y.1.op = true
  | 0 => fun y hy => by simp [pairS] at hy
  | i + 1 => fun y hy => by
    simp only [pairS, List.mem_append] at hy
    rcases hy with hy | hy
    · exact pair_ok p id l m i y hy
    · split at hy
      · rename_i h
        simp only [List.mem_singleton] at hy
        rw [hy, scanD_op]
        exact h
      · simp at hy
theorem sends_ok {p : ProgM} {id : Int} {l : List Ev} {x : SdM} (h : x ∈ sendsM p id l) : sendB p x.op = true := by
  rw [sends_doc] at h
  unfold docS at h
  obtain ⟨y, hy, rfl⟩ := List.mem_map.1 h
  exact pair_ok p id l _ _ y hy
theorem sendB_lt {p : ProgM} {op : Int} (h : sendB p op = true) : 0 ≤ op ∧ op < p.ops.length ∧ (p.ops.getD op.toNat opM0).kind = 1 := by
  simp only [sendB, Bool.and_eq_true, decide_eq_true_eq] at h
  exact ⟨h.1.1, h.1.2, h.2⟩
/-- in a good script a text that is sent has at most 256 bytes -/
theorem first_zero : ∀ (L : List Int) (i : Nat), (firstAt i L).2 = 0 → ∀ e ∈ L, e = 0 := by
  intro L
  induction L with
  | nil => intro i _ e he; simp at he
  | cons a L ih =>
    intro i h e he
    unfold firstAt at h
    split at h
    · rename_i ha
      exact absurd h ha
    · rename_i ha
      rcases List.mem_cons.1 he with rfl | he
      · exact Decidable.not_not.1 ha
      · exact ih _ h e he
theorem txt_le {p : ProgM} {x : SdM} (hg : goodM p = true) (h : sendB p x.op = true) : (txtS p x).size ≤ 256 := by
  obtain ⟨h0, h1, h2⟩ := sendB_lt h
  have hlt : x.op.toNat < p.ops.length := by omega
  have hm : p.ops.getD x.op.toNat opM0 ∈ p.ops := by
    have : p.ops.getD x.op.toNat opM0 = p.ops[x.op.toNat] := by simp [List.getD, hlt]
    rw [this]; exact List.getElem_mem hlt
  have hw : (wrongM p).2 = 0 := by simpa [goodM] using hg
  have he : opE p.ops.length (p.ops.getD x.op.toNat opM0) = 0 := by
    unfold wrongM at hw
    split at hw
    · rename_i hh; exact absurd hw hh
    · exact first_zero _ _ hw _ (List.mem_map.2 ⟨_, hm, rfl⟩)
  unfold txtS
  revert he h2
  generalize p.ops.getD x.op.toNat opM0 = o
  intro h2 he
  unfold opE at he
  rw [if_neg (by omega)] at he
  split at he
  · simp at he
  split at he
  · simp at he
  split at he
  · simp at he
  · omega
theorem cat_le {p : ProgM} {Q : List SdM} (hg : goodM p = true) (h : ∀ x ∈ Q, sendB p x.op = true) : ∀ k, k ≤ Q.length → (catS p (Q.take k)).size ≤ 256 * k
  | 0, _ => Nat.zero_le _
  | k + 1, hk => by
    rw [catS_succ p Q k (by omega)]
    have h1 := cat_le hg h k (by omega)
    have h2 := txt_le (x := Q[k]) hg (h _ (List.getElem_mem _))
    rw [ByteArray.size_append]
    omega
/-- what one had to write, and whether it was taken so -/
def ordS (Ps : List PrV) (l : List Ev) (id : Int) : ByteArray × Bool :=
  if scrO Ps l id = true then (catS (prM (prAt Ps (scrN l id).toNat)) (sendsM (prM (prAt Ps (scrN l id).toNat)) id l), rightS (prM (prAt Ps (scrN l id).toNat)) (sendsM (prM (prAt Ps (scrN l id).toNat)) id l) (lifeO (lifeGo id 0 l)).taken) else (⟨#[]⟩, false)
end Go.Proofs.YtdmdohjdmnmabaaGreat
