/- Parts of a chain of lemmas: Uniq, ProT, DelI. Conditions: those of each theorem. -/
import Derived.Test.YtaioaojfdngfdaaGreatDoorNb43
import Derived.Test.YtaioaojfdngfdaaGreatDoorNb41
import Derived.Test.YtaioaojfdngfdaaGreatDoorNb09
import Derived.BigFrame
import Derived.Deep.RegionHeld3
set_option linter.unusedVariables false
set_option linter.unusedSimpArgs false
namespace Go.Proofs.YtaioaojfdngfdaaGreatDoor
open Go.RowKit
theorem strict_eq : ∀ (a b : List Int), a.Pairwise (· < ·) → b.Pairwise (· < ·) → (∀ y, y ∈ a ↔ y ∈ b) → a = b := by
 intro a
 induction a with
 | nil =>
  intro b _ _ h
  cases b with
  | nil => rfl
  | cons x r => exact absurd ((h x).2 (by simp)) (by simp)
 | cons x r ih =>
  intro b ha hb h
  cases b with
  | nil => exact absurd ((h x).1 (by simp)) (by simp)
  | cons y s =>
   rw [List.pairwise_cons] at ha hb
   have hxy : x = y := by
    have h1 : x ∈ y :: s := (h x).1 (by simp)
    have h2 : y ∈ x :: r := (h y).2 (by simp)
    rcases List.mem_cons.1 h1 with h1 | h1
    ·exact h1
    ·rcases List.mem_cons.1 h2 with h2 | h2
     ·exact h2.symm
     ·have := hb.1 x h1; have := ha.1 y h2; omega
   subst hxy
   congr 1
   refine ih s ha.2 hb.2 (fun z => ⟨fun hz => ?_, fun hz => ?_⟩)
   ·rcases List.mem_cons.1 ((h z).1 (List.mem_cons_of_mem _ hz)) with e | e
    ·have := ha.1 z hz; omega
    ·exact e
   ·rcases List.mem_cons.1 ((h z).2 (List.mem_cons_of_mem _ hz)) with e | e
    ·have := hb.1 z hz; omega
    ·exact e
theorem compUp (d : Array Int) (hs : ∀ i j, i ≤ j → j < d.size → d[i]! ≤ d[j]!) : ∀ m, m ≤ d.size → (Lib.compactUpTo d m).Pairwise (· < ·) ∧ (∀ y, y ∈ Lib.compactUpTo d m ↔ ∃ j, j < m ∧ d[j]! = y) := by
 intro m
 induction m with
 | zero => intro _; simp [Lib.compactUpTo]
 | succ m ih =>
  intro hm
  obtain ⟨h1, h2⟩ := ih (by omega)
  rw [Lib.compactUpTo_succ]
  by_cases hk : Lib.keeps d m = true
  ·rw [if_pos hk]
   constructor
   ·rw [List.pairwise_append]
    refine ⟨h1, List.pairwise_singleton _ _, fun a ha b hb => ?_⟩
    simp at hb; subst hb
    obtain ⟨j, hj, rfl⟩ := (h2 a).1 ha
    have hle := hs j (m - 1) (by omega) (by omega)
    have hle2 := hs (m - 1) m (by omega) (by omega)
    have hne : d[m]! ≠ d[m - 1]! := by
     unfold Lib.keeps at hk
     rcases of_decide_eq_true hk with h | h
     ·omega
     ·exact h
    omega
   ·intro y
    rw [List.mem_append, h2 y]
    constructor
    ·rintro (⟨j, hj, e⟩ | h)
     ·exact ⟨j, by omega, e⟩
     ·simp at h; exact ⟨m, by omega, h.symm⟩
    ·rintro ⟨j, hj, e⟩
     by_cases hjm : j = m
     ·subst hjm; exact Or.inr (by simp [e])
     ·exact Or.inl ⟨j, by omega, e⟩
  ·rw [if_neg hk, List.append_nil]
   refine ⟨h1, fun y => ?_⟩
   rw [h2 y]
   constructor
   ·rintro ⟨j, hj, e⟩; exact ⟨j, by omega, e⟩
   ·rintro ⟨j, hj, e⟩
    by_cases hjm : j = m
    ·subst hjm
     have hk' : ¬ (j = 0 ∨ d[j]! ≠ d[j - 1]!) := fun h => hk (decide_eq_true h)
     refine ⟨j - 1, by omega, ?_⟩
     rw [← e]
     by_cases h0 : d[j]! = d[j - 1]!
     ·exact h0.symm
     ·exact absurd (Or.inr h0) hk'
    ·exact ⟨j, by omega, e⟩
/-- sorted, each once: what Sort and Compact leave -/
def uniq (l : List Int) : List Int := Lib.compact (l.mergeSort fun x y => decide (x ≤ y))
theorem uniq_spec (l : List Int) : (uniq l).Pairwise (· < ·) ∧ ∀ y, y ∈ uniq l ↔ y ∈ l := by
 have hp : (l.mergeSort fun x y => decide (x ≤ y)).Pairwise (fun x y => decide (x ≤ y) = true) := List.pairwise_mergeSort (fun a b c h1 h2 => by simp at *; omega) (fun a b => by simp; omega) l
 obtain ⟨S, hS⟩ : ∃ S, S = l.mergeSort fun x y => decide (x ≤ y) := ⟨_, rfl⟩
 have hm : ∀ y, y ∈ S ↔ y ∈ l := fun y => by rw [hS]; exact List.mem_mergeSort
 unfold uniq
 rw [← hS] at hp ⊢
 have hs : ∀ i j, i ≤ j → j < S.toArray.size → S.toArray[i]! ≤ S.toArray[j]! := by
  intro i j hij hj
  have hj' : j < S.length := by simpa using hj
  have hi' : i < S.length := by omega
  by_cases he : i = j
  ·subst he; omega
  ·have := List.pairwise_iff_getElem.1 hp i j hi' hj' (by omega)
   simpa [hi', hj'] using this
 obtain ⟨h1, h2⟩ := compUp S.toArray hs S.length (by simp)
 refine ⟨h1, fun y => ?_⟩
 rw [← hm y]
 refine (h2 y).trans ⟨?_, ?_⟩
 ·rintro ⟨j, hj, e⟩
  rw [← e]
  simp [hj]
 ·intro h
  obtain ⟨j, hj, e⟩ := List.getElem_of_mem h
  exact ⟨j, hj, by simp [hj, e]⟩
/-- one put where it belongs, if it is not there -/
def insU (x : Int) : List Int → List Int
 | [] => [x]
 | a :: r => if a < x then a :: insU x r else if a = x then a :: r else x :: a :: r
theorem insU_mem (x : Int) (s : List Int) : ∀ y, y ∈ insU x s ↔ y = x ∨ y ∈ s := by
 induction s with
 | nil => intro y; simp [insU]
 | cons a r ih =>
  intro y
  unfold insU
  by_cases h1 : a < x
  ·rw [if_pos h1, List.mem_cons, ih y, List.mem_cons]
   constructor
   ·rintro (h | h | h) <;> simp [h]
   ·rintro (h | h | h) <;> simp [h]
  ·rw [if_neg h1]
   by_cases h2 : a = x
   ·rw [if_pos h2]; subst h2; simp
   ·rw [if_neg h2]; simp
theorem insU_strict (x : Int) (s : List Int) (h : s.Pairwise (· < ·)) : (insU x s).Pairwise (· < ·) := by
 induction s with
 | nil => simp [insU]
 | cons a r ih =>
  rw [List.pairwise_cons] at h
  unfold insU
  by_cases h1 : a < x
  ·rw [if_pos h1, List.pairwise_cons]
   refine ⟨fun y hy => ?_, ih h.2⟩
   rcases (insU_mem x r y).1 hy with e | e
   ·omega
   ·exact h.1 y e
  ·rw [if_neg h1]
   by_cases h2 : a = x
   ·rw [if_pos h2, List.pairwise_cons]; exact h
   ·rw [if_neg h2, List.pairwise_cons, List.pairwise_cons]
    refine ⟨fun y hy => ?_, h⟩
    rcases List.mem_cons.1 hy with e | e
    ·omega
    ·have := h.1 y e; omega
theorem insU_all (l : List Int) : ∀ (s : List Int), s.Pairwise (· < ·) → (l.foldl (fun s x => insU x s) s).Pairwise (· < ·) ∧ ∀ y, y ∈ l.foldl (fun s x => insU x s) s ↔ y ∈ l ∨ y ∈ s := by
 induction l with
 | nil => intro s h; exact ⟨h, fun y => by simp⟩
 | cons x r ih =>
  intro s h
  obtain ⟨h1, h2⟩ := ih (insU x s) (insU_strict x s h)
  refine ⟨h1, fun y => ?_⟩
  rw [List.foldl_cons, h2 y, insU_mem, List.mem_cons]
  constructor
  ·rintro (h | h | h) <;> simp [h]
  ·rintro ((h | h) | h) <;> simp [h]
theorem uniq_ins (l : List Int) : l.foldl (fun s x => insU x s) [] = uniq l := by
 obtain ⟨h1, h2⟩ := insU_all l [] List.Pairwise.nil
 obtain ⟨h3, h4⟩ := uniq_spec l
 exact strict_eq _ _ h1 h3 (fun y => by rw [h2 y, h4 y]; simp)
end Go.Proofs.YtaioaojfdngfdaaGreatDoor
namespace Go.Proofs.YtaioaojfdngfdaaGreatDoor
theorem inI_small {n : Int} (h : -1000000000000 ≤ n) (h2 : n ≤ 1000000000000) : InI n := ⟨by omega, by omega⟩
theorem inI_toB {k : Nat} {t : Int} (hk : k ≤ 1000) (h : toB k t = true) : InI t := by
 unfold toB comesB at h
 simp at h
 exact inI_small (by omega) (by omega)
/-- an op of a good script may be written -/
theorem opW_good {k : Nat} {o : OpM} (h : opE k o = 0) (hk : k ≤ 1000) : OpW o := by
 unfold opE at h
 split at h
 ·simp at h
 split at h
 ·simp at h
 rename_i h0 hb
 have hb' : bareB o = true := by simpa using hb
 unfold bareB at hb'
 simp only [Bool.and_eq_true, Bool.or_eq_true, decide_eq_true_eq] at hb'
 obtain ⟨⟨⟨b1, b2⟩, b3⟩, b4⟩ := hb'
 by_cases h2 : o.kind = 2
 ·rw [if_neg (by omega), if_pos h2] at h
  obtain ⟨ht, he⟩ := expectE_to h
  unfold expectE at h
  split at h
  ·simp at h
  rename_i hn
  split at h
  ·simp at h
  rename_i ha
  split at h
  ·rename_i h1; exact absurd h h1
  rename_i hf
  have hf' : firstE (o.arms.map (armE k)) = 0 := by omega
  refine ⟨by omega, fun a hm => ?_, by omega, ?_, ?_, inI_toB hk ht, inI_toB hk he⟩
  ·have e := firstE_a _ hf' _ (List.mem_map.2 ⟨a, hm, rfl⟩)
   unfold armE at e
   split at e
   ·simp at e
   rename_i e1
   split at e
   ·rename_i e2; exact absurd e e2
   split at e
   ·rename_i e3
    unfold comesB at e3
    simp at e3
    exact ⟨by omega, inI_small (by omega) (by omega)⟩
   ·simp at e
  ·have hn' : (nevB o.n || tickB 0 o.n) = true := eq_true_of_ne_false hn
   unfold nevB tickB at hn'
   simp at hn'
   exact ⟨by omega, by omega⟩
  ·rcases b3 with b3 | b3
   ·omega
   ·rw [b3]; exact inI_small (by omega) (by omega)
 ·have b5 : o.arms.length = 0 ∧ o.onT = 0 ∧ o.onE = 0 := by
   rcases b4 with b4 | ⟨⟨b4, b5⟩, b6⟩
   ·exact absurd b4 h2
   ·exact ⟨b4, b5, b6⟩
  obtain ⟨c1, c2, c3⟩ := b5
  have c4 : o.arms = [] := List.length_eq_zero_iff.1 c1
  have i0 : InI 0 := inI_small (by omega) (by omega)
  refine ⟨by omega, by rw [c4]; simp, ?_, ?_, ?_, by rw [c2]; exact i0, by rw [c3]; exact i0⟩
  ·rcases b1 with b1 | b1
   ·rw [if_pos b1] at h
    split at h
    ·simp at h
    split at h
    ·simp at h
    omega
   ·omega
  ·rcases b2 with (b2 | b2) | b2
   ·exact absurd b2 h2
   ·rw [if_neg (by omega), if_neg (by omega), if_neg (by omega), if_pos b2] at h
    split at h
    ·rename_i h4
     unfold tickB at h4
     simp at h4
     exact inI_small (by omega) (by omega)
    ·simp at h
   ·rw [b2]; exact i0
  ·rcases b3 with b3 | b3
   ·rw [if_neg (by omega), if_neg (by omega), if_pos b3] at h
    split at h
    ·rename_i h4
     unfold comesB at h4
     simp at h4
     exact inI_small (by omega) (by omega)
    ·simp at h
   ·rw [b3]; exact i0
/-- the ops that come of one, also those below 0 -/
def jumpsL (o : OpM) : List Int := if o.kind = 2 then o.arms.map (fun a => a.to) ++ [o.onT, o.onE] else if o.kind = 3 then [o.to] else []
def jmpsL (l : List OpM) : List Int := l.flatMap jumpsL
def nnB (x : Int) : Bool := !decide (x < 0)
/-- the ops to which a script jumps -/
def tgts (l : List OpM) : List Int := uniq ((jmpsL l).filter nnB)
/-- the document's way -/
def insG (s : List Int) (x : Int) : List Int := if x < 0 then s else insU x s
theorem foldG (l : List Int) : ∀ s : List Int, l.foldl insG s = (l.filter nnB).foldl (fun s x => insU x s) s := by
 induction l with
 | nil => intro s; rfl
 | cons x r ih =>
  intro s
  rw [List.foldl_cons, ih]
  unfold insG
  by_cases h : x < 0
  ·rw [if_pos h, List.filter_cons_of_neg (by simp [nnB, h])]
  ·rw [if_neg h, List.filter_cons_of_pos (by simp [nnB]; omega)]
   rfl
theorem tgts_ins (l : List OpM) : (jmpsL l).foldl insG [] = tgts l := by rw [foldG, uniq_ins]; rfl
def headT (p : ProgM) : List UInt8 := lineT [[115, 99, 114, 105, 112, 116], p.name.data.toList, tkT p.deadline, Lib.itoa p.jumps]
def lbT (i : Nat) : List UInt8 := lineT [[108, 97, 98, 101, 108], labelT i]
def atT (f : OpM → List UInt8) (ops : List OpM) (i : Nat) : List UInt8 := match ops[i]? with
 | some o => f o
 | none => []
def stepT (f : OpM → List UInt8) (T : List Int) (ops : List OpM) (i : Nat) : List UInt8 := (if (i : Int) ∈ T then lbT i else []) ++ atT f ops i
def bodyT (f : OpM → List UInt8) (T : List Int) (ops : List OpM) : Nat → List UInt8
 | 0 => []
 | k + 1 => bodyT f T ops k ++ stepT f T ops k
/-- a script's text -/
def progT (p : ProgM) : List UInt8 := headT p ++ bodyT opT (tgts p.ops) p.ops (p.ops.length + 1)
def progD (p : ProgM) : List UInt8 := headT p ++ bodyT opD (tgts p.ops) p.ops (p.ops.length + 1)
theorem body_congr {f g : OpM → List UInt8} {ops : List OpM} (T : List Int) (h : ∀ o ∈ ops, f o = g o) : ∀ k, bodyT f T ops k = bodyT g T ops k
 | 0 => rfl
 | k + 1 => by
  have e : atT f ops k = atT g ops k := by
   unfold atT
   split
   ·rename_i o ho; exact h o (List.mem_of_getElem? ho)
   ·rfl
  unfold bodyT stepT
  rw [body_congr T h k, e]
theorem progT_doc {p : ProgM} (h : goodM p = true) : progT p = progD p := by
 unfold progT progD
 rw [body_congr _ (fun o ho => opT_doc (good_op h o ho))]
theorem head_facts {p : ProgM} (h : goodM p = true) : InI p.deadline ∧ 0 ≤ p.jumps ∧ p.jumps ≤ 1000 ∧ p.ops.length ≤ 200 ∧ p.name.size ≤ 16 := by
 have hh : headE p = 0 := by
  unfold goodM at h
  rw [decide_eq_true_eq] at h
  unfold wrongM at h
  by_cases hh : headE p = 0
  ·exact hh
  ·rw [if_pos hh] at h; exact h
 unfold headE at hh
 split at hh
 ·simp at hh
 rename_i h1
 split at hh
 ·simp at hh
 rename_i h2
 split at hh
 ·simp at hh
 rename_i h3
 have h1' : nameB p.name = true := by simpa using h1
 have h2' : ((nevB p.deadline || tickB 1 p.deadline) && decide (0 ≤ p.jumps) && decide (p.jumps ≤ 1000)) = true := eq_true_of_ne_false h2
 unfold nevB tickB at h2'
 simp at h2'
 unfold nameB nameL at h1'
 simp at h1'
 refine ⟨⟨by omega, by omega⟩, by omega, by omega, by omega, ?_⟩
 have := h1'.1.1.2
 simpa using this
theorem ops_good {p : ProgM} (h : goodM p = true) : ∀ o ∈ p.ops, OpW o := fun o ho => opW_good (good_op h o ho) (by have := (head_facts h).2.2.2.1; omega)
theorem lb_len (i : Nat) (h : i ≤ 1000000) : (lbT i).length ≤ 40 := by
 have := line2_len [108, 97, 98, 101, 108] (labelT i)
 have h2 := label_len (n := (i : Int)) (by omega) (by omega)
 unfold lbT
 simp at this ⊢
 omega
theorem at_len {ops : List OpM} (h : ∀ o ∈ ops, OpW o) (i : Nat) : (atT opT ops i).length ≤ 1000000 := by
 unfold atT
 split
 ·rename_i o ho; exact op_len (h o (List.mem_of_getElem? ho))
 ·simp
theorem body_len {ops : List OpM} (T : List Int) (h : ∀ o ∈ ops, OpW o) : ∀ k, k ≤ 1000000 → (bodyT opT T ops k).length ≤ 1000040 * k
 | 0, _ => by simp [bodyT]
 | k + 1, hk => by
  have h1 := body_len T h k (by omega)
  have h2 := at_len h k
  have h3 := lb_len k (by omega)
  unfold bodyT stepT
  rw [List.length_append, List.length_append]
  have h4 : (if (k : Int) ∈ T then lbT k else []).length ≤ 40 := by
   split
   ·omega
   ·simp
  omega
end Go.Proofs.YtaioaojfdngfdaaGreatDoor
namespace Go.Proofs.YtaioaojfdngfdaaGreatDoor
open Go.RowKit Go.Sort
def ngB (x : Int) : Bool := decide (x < 0)
theorem encI_len1 (a : Int) : (encI a).length = 1 := rfl
theorem Tryz.zeroI (w : World) : (zeroValue 3).run Tryz.prog w = .ok (.int .i64 0) w := by kernel_rfl
theorem below_setCells {B g : Nat} {w0 : World} (hg : B ≤ g) : ∀ (vs : List Value) (o : Nat) (w : World), Below B w0 w → Below B w0 (w.setCells g o vs)
 | [], _, _, h => h
 | v :: r, o, w, h => below_setCells hg r (o + 1) _ (h.setCell (p := ⟨g, o, none⟩) hg v)
theorem neg_c (x : Int) (w : World) : Calls Tryz.prog 100 #[.int .i64 x] w fun e w' => e = .returned (.bool (ngB x)) ∧ w' = w := by
 have HN := hide (show ngB x = decide (x < 0) from rfl)
 obtain ⟨N, hN⟩ : ∃ N, N = ngB x := ⟨_, rfl⟩
 rw [← hN] at HN ⊢
 clear hN
 go_enter Tryz.func100, Tryz.ntmps100
 go_wp2_with fail
 go_ret
 exact ⟨by rw [HN.out]; rfl, rfl⟩
set_option maxRecDepth 100000 in
set_option maxHeartbeats 3200000 in
theorem IndexI_c (A : Option Addr) (c : Nat) (l : List Int) (w : World) (hr : Rd w NoBlk A (flat encI l)) (hn0 : l.length ≤ maxLen) :
 Calls Tryz.prog 137 #[.slice A l.length c, .func (.func 100) #[] #[]] w fun e w' => e = .returned (.int .i64 (idxG ngB l)) ∧ w' = w := by
 have hn : l.length ≤ 9223372036854775807 := hn0
 have Hc := hide (fun (k : Nat) (x : Int) (hx : l[k]? = some x) => flat_cells encI_len1 hr k x hx (by omega))
 have HPr := hide (fun (x : Int) (w' : World) => neg_c x w')
 obtain ⟨n, hnl⟩ : ∃ n, n = l.length := ⟨_, rfl⟩
 rw [← hnl] at hn ⊢
 have Hn := hide hnl
 clear hr hn0 hnl
 go_enter Tryz.func137, Tryz.ntmps137
 go_wp2_with fail
 go_loopw [8] (fun i wr => ∃ k : Nat, k ≤ n ∧ i = .int .i64 k ∧ Hid (∀ y ∈ l.take k, ngB y = false) ∧ Hid (wr = w)) (fun i _ => n - (intOf i).toNat)
 case atStart => exact ⟨0, Nat.zero_le _, rfl, hide (by simp), hide rfl⟩
 case round =>
  obtain ⟨k, hk, rfl, hnone, hbel⟩ := hrel
  by_cases hlt2 : k < n
  ·obtain ⟨x, hx⟩ : ∃ x, l[k]? = some x := ⟨l[k]'(by rw [← Hn.out]; exact hlt2), List.getElem?_eq_getElem _⟩
   obtain ⟨b2, o, rfl, _, hb2, hc⟩ := Hc.out k x hx
   have hpred := HPr.out x w
   have g0 : wr.cell? ⟨b2, o + k, none⟩ = some (.int .i64 x) := by have := hc 0 (by omega); rw [Nat.mul_one, Nat.add_zero] at this; rw [hbel.out]; exact this
   rw [hbel.out] at g0 ⊢
   have d1 : decide ((k : Int) < (n : Int)) = true := by simp; exact hlt2
   have d2 : decide (k < n) = true := by simp; exact hlt2
   have j1 : (0 : Int) ≤ (k : Int) := by omega
   have j2 : (k : Int) < (n : Int) := by omega
   have w1 : IntKind.i64.wrap ((k : Int) + 1) = (k : Int) + 1 := IntWalk.i64_in _ (by omega)
   clear hc hbel
   cases ho : ngB x with
   | true =>
    rw [ho] at hpred
    have HP := hide hpred
    have HI := hide (idxG_at ngB l k x hx hnone.out ho)
    clear hpred ho hx
    go_wp2_with (go_at_call 100; refine HP.out.mono ?_; rintro e w2 ⟨rfl, rfl⟩)
    go_ret
    exact ⟨ret_int HI.out.symm, rfl⟩
   | false =>
    rw [ho] at hpred
    have HP := hide hpred
    have HIn : Hid (∀ y ∈ l.take (k + 1), ngB y = false) := by
     intro y hy
     rw [List.take_add_one, hx] at hy
     rcases List.mem_append.1 hy with hy | hy
     ·exact hnone.out y hy
     ·simp only [Option.toList_some, List.mem_singleton] at hy
      subst hy
      exact ho
    clear hpred ho hnone hx
    go_wp2_with (go_at_call 100; refine HP.out.mono ?_; rintro e w2 ⟨rfl, rfl⟩)
    go_roundw
    case rel => exact ⟨k + 1, by omega, by go_num, HIn, hide trivial⟩
    case measure => simp [intOf]; omega
  ·have hd : decide ((k : Int) < n) = false := by simp; omega
   have hd2 : decide (k < n) = false := by simp; omega
   have HI := hide (idxG_none ngB l (fun y hy => hnone.out y (by rw [List.take_of_length_le (by rw [← Hn.out]; omega)]; exact hy)))
   go_wp2_with fail
   go_ret
   exact ⟨ret_int HI.out.symm, hbel.out⟩
theorem holds_of_lo {w : World} {g k : Nat} {K : List Int} (hK : K.length = k) (hl : ∀ t, t < k → w.cell? ⟨g, t, none⟩ = (flat encI K)[t]?) (hf : ∀ t, w.frozen? ⟨g, t, none⟩ = false) : Holds (Value.int .i64) w g 0 K.toArray := by
 intro j hj
 have hj' : j < K.length := by simpa using hj
 refine ⟨?_, hf _⟩
 rw [Nat.zero_add, hl j (by omega), flat_encI]
 simp [hj']
/-- a block of numbers -/
def Ty (w : World) (g : Nat) : Prop := ∃ cs, Blk w g 3 cs
theorem Ty.set {w : World} {g : Nat} (h : Ty w g) (i : Nat) (v : Value) : Ty (w.setCell ⟨g, i, none⟩ v) g := h.elim fun cs h => ⟨_, h.set_ i v⟩
theorem Ty.sets {g : Nat} : ∀ (vs : List Value) (o : Nat) (w : World), Ty w g → Ty (w.setCells g o vs) g
 | [], _, _, h => h
 | v :: r, o, w, h => Ty.sets r (o + 1) _ (h.set o v)
theorem Ty.map {w : World} {g : Nat} (h : Ty w g) (f : Array Value → Array Value) : Ty (mapBlock w g f) g := by
 obtain ⟨cs, h⟩ := h
 refine ⟨f cs, ?_⟩
 unfold Blk at h ⊢
 simp [mapBlock, Array.getElem?_modify, h, onCells]
theorem Ty.ahead {w : World} {g : Nat} (h : Ty w g) (n : Nat) : Ty (Sort.ahead w n) g := h
theorem Ty.grow {w : World} {g : Nat} (h : Ty w g) (os : Array Obj) : Ty (grow w os) g := by
 obtain ⟨cs, h⟩ := h
 refine ⟨cs, ?_⟩
 have hl := h.lt
 unfold Blk at h ⊢
 simp only [Go.Sort.grow]
 rw [Array.getElem?_append_left hl]
 exact h
theorem ty_of_own {w : World} {base g n c : Nat} {xs : List Value} (h : w.ownsRow base 3 1 (.slice (some ⟨g, 0, none⟩) n c) n xs) (hn : 0 < n) : Ty w g := by
 rcases h.2 with ⟨hv, h0⟩ | ⟨g', cap, cur, hv, _, hh, _⟩
 ·omega
 ·injection hv with h1 _ _
  injection h1 with h1
  injection h1 with h1 _ _
  subst h1
  exact ⟨cur, hh⟩
/-- a row of numbers that may be written in place, or nothing -/
def IRow (w : World) (base : Nat) (A : Option Addr) (c : Nat) (xs : List Int) : Prop := xs = [] ∨ ∃ g, A = some ⟨g, 0, none⟩ ∧ base ≤ g ∧ g < w.heap.size ∧ Holds (Value.int .i64) w g 0 xs.toArray ∧ xs.length ≤ c ∧ Ty w g
set_option maxRecDepth 100000 in
set_option maxHeartbeats 6400000 in
theorem DeleteI_c (base : Nat) (l : List Int) (v : Value) (w : World) (hb0 : base ≤ w.heap.size) (how : w.ownsRow base 3 1 v l.length (flat encI l)) (hn0 : l.length ≤ 100000000) :
 Calls Tryz.prog 99 #[v, .func (.func 100) #[] #[]] w fun e w' => (∃ A1 c1, e = .returned (.slice A1 (keepL ngB l).length c1) ∧ IRow w' base A1 c1 (keepL ngB l)) ∧ Below base w w' := by
 obtain ⟨VA, vc, rfl, hvc⟩ := own_cap how
 have hr := Rd.of_own (M := NoBlk) how (fun _ h => h.elim)
 have HIdx := hide (IndexI_c VA vc l w hr (by simp only [maxLen]; omega))
 have HPr := hide (fun (x : Int) (w' : World) => neg_c x w')
 by_cases hl0 : l.length = 0
 ·obtain rfl : l = [] := List.eq_nil_of_length_eq_zero hl0
  have e0 : idxG ngB ([] : List Int) = -1 := rfl
  rw [e0] at HIdx
  clear how hr HPr hb0 hl0
  go_enter Tryz.func99, Tryz.ntmps99
  go_wp2_with fail
  refine HIdx.out.mono ?_
  rintro e w1 ⟨rfl, rfl⟩
  go_wp2_with fail
  go_ret
  exact ⟨⟨VA, vc, rfl, Or.inl rfl⟩, Below.refl _ _⟩
 have hlp : 0 < l.length := by omega
 obtain ⟨g, c, hveq, hgb, hnc, hcm, hdel⟩ := del_of_own how hlp rfl encI_len1
 injection hveq with h1 _ h2
 subst h1 h2
 obtain ⟨c, hcc⟩ : ∃ c, c = vc := ⟨_, rfl⟩
 subst hcc
 have hty := hide (ty_of_own how hlp)
 have hglt : g < w.heap.size := (hdel 0 0 (Nat.le_refl _) (Nat.zero_le _)).lt
 rcases idxG_or ngB l with ⟨hm, hno⟩ | ⟨k0, hk0, hm, hno⟩
 ·rw [hm] at HIdx
  have HK := hide (keep_none hno)
  have hd := hdel l.length l.length (Nat.le_refl _) (Nat.le_refl _)
  rw [List.take_length] at hd
  have HH := hide (holds_of_lo (K := l) (k := l.length) rfl (fun t ht => by have := hd.lo t (by omega); exact this) hd.fr)
  have Hg := hide (And.intro hgb (And.intro hglt hnc))
  clear hm hno how hr HPr hb0 hdel hd hlp hl0 hgb hglt hnc
  go_enter Tryz.func99, Tryz.ntmps99
  go_wp2_with fail
  refine HIdx.out.mono ?_
  rintro e w1 ⟨rfl, rfl⟩
  go_wp2_with fail
  go_ret
  rw [HK.out]
  exact ⟨⟨_, c, rfl, Or.inr ⟨g, rfl, Hg.out.1, Hg.out.2.1, HH.out, Hg.out.2.2, hty.out⟩⟩, Below.refl _ _⟩
 ·have hD0 := hdel k0 (k0 + 1) (by omega) (by omega)
  have hK0 : keepL ngB (l.take k0) = l.take k0 := keep_none hno
  obtain ⟨x0, hx0⟩ : ∃ x, l[k0]? = some x := ⟨l[k0], List.getElem?_eq_getElem _⟩
  have hp0 : ngB x0 = true := by
   have h1 := hm
   unfold idxG at h1
   split at h1
   ·rename_i ha
    have hf : l.findIdx ngB < l.length := List.findIdx_lt_length.2 (by simpa using List.any_eq_true.1 ha)
    have : l.findIdx ngB = k0 := by omega
    subst this
    have := List.findIdx_getElem (p := ngB) (xs := l) (w := hf)
    rw [List.getElem?_eq_getElem hf] at hx0
    injection hx0 with hx0
    rw [← hx0]; exact this
   ·omega
  have hKs := keep_succ ngB l k0 x0 hx0
  rw [hK0, if_pos hp0, List.append_nil] at hKs
  rw [hm] at HIdx
  have HKp := hide (show ∀ (q : Nat) (x : Int), l[q]? = some x → keepL ngB (l.take (q + 1)) = keepL ngB (l.take q) ++ (if ngB x = true then [] else [x]) from fun q x hx => keep_succ ngB l q x hx)
  have HLast := hide (show keepL ngB (l.take l.length) = keepL ngB l by rw [List.take_length])
  have HKl := hide (show (l.take k0).length = k0 by rw [List.length_take]; omega)
  rw [← hKs] at hD0 HKl
  obtain ⟨n, hnl⟩ : ∃ n, n = l.length := ⟨_, rfl⟩
  rw [← hnl] at hD0 HIdx HLast hk0 hlp hn0 hnc ⊢
  have Hn := hide hnl
  have HD0 := hide hD0
  have HO0 := hide (Below.refl base w)
  have HGL := hide (show ∀ q, q < n → ∃ x, l[q]? = some x from fun q hq => ⟨l[q]'(by rw [← hnl]; exact hq), List.getElem?_eq_getElem _⟩)
  have hcm' : c ≤ 9223372036854775807 := hcm
  have w0 : IntKind.i64.wrap ((k0 : Int) + 1) = ((k0 + 1 : Nat) : Int) := by rw [IntWalk.i64_in _ (by omega)]; omega
  clear hm hno how hr hdel hK0 hx0 hp0 hKs hD0 hnl hcm hb0 hl0
  have e0 : ((k0 : Int) == -1) = false := by simp
  go_enter Tryz.func99, Tryz.ntmps99
  go_wp2_with fail
  refine HIdx.out.mono ?_
  rintro e w1 ⟨rfl, hw1⟩
  rw [hw1]
  clear hw1
  go_wp2_with fail
  go_loopw [5, 6] (fun i j wr => ∃ k q : Nat, k < q ∧ q ≤ n ∧ i = .int .i64 k ∧ j = .int .i64 q ∧ Hid ((keepL ngB (l.take q)).length = k) ∧ Hid (DelAt encI 1 wr g n k q (keepL ngB (l.take q)) l) ∧ Hid (Below base w wr) ∧ Hid (Ty wr g)) (fun _ j _ => n - (intOf j).toNat)
  case atStart => exact ⟨k0, k0 + 1, by omega, by omega, rfl, rfl, HKl, HD0, HO0, hty⟩
  case round =>
   clear HD0 HO0 HKl w0 hk0 e0 HIdx hty
   obtain ⟨k, q, hkq, hqn, rfl, rfl, HL, HD, HO, HY⟩ := hrel
   by_cases hlt : q < n
   ·obtain ⟨x, hx⟩ := HGL.out q hlt
    have g0 : wr.cell? ⟨g, q, none⟩ = some (.int .i64 x) := by have := HD.out.at_ encI_len1 x hx hlt 0 (by omega); rw [Nat.mul_one, Nat.add_zero] at this; exact this
    have hpred := HPr.out x wr
    have HKq := hide (HKp.out q x hx)
    have d1 : decide ((q : Int) < (n : Int)) = true := by simp; exact hlt
    have d2 : decide (q < n) = true := by simp; exact hlt
    have j1 : (0 : Int) ≤ (q : Int) := by omega
    have j2 : (q : Int) < (n : Int) := by omega
    have w1 : IntKind.i64.wrap ((q : Int) + 1) = (q : Int) + 1 := IntWalk.i64_in _ (by omega)
    have w2' : IntKind.i64.wrap ((k : Int) + 1) = (k : Int) + 1 := IntWalk.i64_in _ (by omega)
    have i1 : (0 : Int) ≤ (k : Int) := by omega
    have i2 : (k : Int) < (n : Int) := by omega
    cases ho : ngB x with
    | true =>
     rw [ho] at hpred HKq
     have HP := hide hpred
     have HK1 := hide (show keepL ngB (l.take (q + 1)) = keepL ngB (l.take q) by rw [HKq.out]; simp)
     clear hpred ho hx
     go_wp2_with (go_at_call 100; refine HP.out.mono ?_; rintro e w3 ⟨rfl, hw3⟩; rw [hw3]; clear hw3)
     have HD3 := hide (show DelAt encI 1 wr g n k (q + 1) (keepL ngB (l.take (q + 1))) l by rw [HK1.out]; exact HD.out.skip)
     have HL3 := hide (show (keepL ngB (l.take (q + 1))).length = k by rw [HK1.out]; exact HL.out)
     go_roundw
     case rel => exact ⟨k, q + 1, by omega, by omega, rfl, by go_num, HL3, HD3, HO, HY⟩
     case measure => simp [intOf]; omega
    | false =>
     rw [ho] at hpred HKq
     have HP := hide hpred
     have HK1 := hide (show keepL ngB (l.take (q + 1)) = keepL ngB (l.take q) ++ [x] by rw [HKq.out]; simp)
     have HXq := hide hx
     obtain ⟨u0, c0⟩ := HD.out.some_ (show k < n by omega) 0 (by omega)
     rw [Nat.mul_one, Nat.add_zero] at c0
     have f0 := HD.out.fr k
     have HD4 := hide (show DelAt encI 1 (wr.setCell ⟨g, k, none⟩ (.int .i64 x)) g n (k + 1) (q + 1) (keepL ngB (l.take (q + 1))) l by
      have := HD.out.store encI_len1 HL.out x HXq.out hkq hlt
      rw [← HK1.out, Nat.mul_one] at this
      exact this)
     have HO4 := hide (HO.out.setCell (p := ⟨g, k, none⟩) hgb (.int .i64 x))
     have HY4 := hide (HY.out.set k (.int .i64 x))
     have HL4 := hide (show (keepL ngB (l.take (q + 1))).length = k + 1 by rw [HK1.out, List.length_append, HL.out]; rfl)
     clear hpred ho hx
     go_wp2_with (go_at_call 100; refine HP.out.mono ?_; rintro e w3 ⟨rfl, hw3⟩; rw [hw3]; clear hw3)
     go_roundw
     case rel => exact ⟨k + 1, q + 1, by omega, by omega, by go_num, by go_num, HL4, HD4, HO4, HY4⟩
     case measure => simp [intOf]; omega
   ·obtain rfl : q = n := by omega
    have d1 : decide ((q : Int) < (q : Int)) = false := by simp
    have d2 : decide (q < q) = false := by simp
    have i1 : (0 : Int) ≤ (k : Int) := by omega
    have i2 : (k : Int) ≤ (q : Int) := by omega
    have i3 : (k : Int) ≤ (c : Int) := by omega
    have i4 : ¬ k = c := by omega
    have i5 : ¬ c = k := by omega
    obtain ⟨vs, hcl⟩ := run_clear_rows (P := Tryz.prog) wr 122 3 (.int .i64 0) [.int .i64 0] Tryz.underlying122 Tryz.zeroI rfl (by simp) (by intro u hu; simp at hu; subst hu; rfl) g k (q - k) (c - k) (by omega)
     (fun j hj => HD.out.so _ (by simp only [List.length_cons, List.length_nil] at hj; omega)) (fun j hj => HD.out.fr _)
    have HRd := hide (show Holds (Value.int .i64) (wr.setCells g k vs) g 0 (keepL ngB l).toArray by
     rw [← HLast.out]
     refine holds_of_lo HL.out (fun t ht => ?_) (fun t => by rw [frozen_setCells]; exact HD.out.fr t)
     rw [cell_out (Or.inl ht)]
     exact HD.out.lo t (by omega))
    rw [HLast.out] at HL
    have HO5 := hide (below_setCells hgb vs k _ HO.out)
    have Hg5 := hide (show g < (wr.setCells g k vs).heap.size by have := (only_setCells g vs k wr).size; have := HD.out.lt; omega)
    clear HD HO HKp HGL HPr
    go_wp2_with (simp only [hcl])
    go_ret
    exact ⟨⟨_, c, by rw [HL.out]; rfl, Or.inr ⟨g, rfl, hgb, Hg5.out, HRd.out, by rw [HL.out]; omega, Ty.sets vs k _ HY.out⟩⟩, HO5.out⟩
end Go.Proofs.YtaioaojfdngfdaaGreatDoor
