/- The law LoadApart, walked. Conditions: those of each theorem. -/
import Derived.Test.YtaioaojfdngfdaaGreatDoorFewS
import Derived.BigRegion
namespace Go.Proofs.YtaioaojfdngfdaaGreatDoor
open Go.RowKit
set_option linter.unusedVariables false
set_option linter.unusedSimpArgs false
theorem loadA_c (T : ByteArray) (l : List (List UInt8)) (R : List ScrM) (w : World) (hT : T = bs (encL l)) (hl : (encL l).length ≤ 20000) (hR : loadM (encL l) = (R, 0)) (hv : Vars w) : Calls Tryz.prog 21 #[.string T] w fun e w' =>
    (∃ (A : Option Addr) (c : Nat) (S : List ScrV), e = .returned (.tuple #[.slice A S.length c, .int .i64 0]) ∧ S.map (·.m) = R ∧ Rd w' NoBlk A (flat encScr S) ∧ ∀ v ∈ S, OpsRd w' NoBlk v.A v.L) ∧ Only NoBlk w w' := by
  subst hT
  have h := Load_c (bs (encL l)) w (by rw [bs_size]; omega) hv
  have e1 : (bs (encL l)).data.toList = encL l := rfl
  rw [e1, hR] at h
  exact h.mono fun e w' ⟨⟨A, c, S, he, hS, hr, ho⟩, k⟩ => ⟨⟨A, c, S, he, hS, hr.mono (fun _ h => h.elim), fun v hv => (ho v hv).monoP (fun _ h => h.elim)⟩, k⟩
theorem map3 {S : List ScrV} {a b c : ScrM} (h : S.map (·.m) = [a, b, c]) : ∃ v1 v2 v3, S = [v1, v2, v3] ∧ v1.m = a ∧ v2.m = b ∧ v3.m = c := by
  match S, h with
  | [v1, v2, v3], h => simp at h; exact ⟨v1, v2, v3, rfl, h.1, h.2.1, h.2.2⟩
theorem map1 {S : List ScrV} {a : ScrM} (h : S.map (·.m) = [a]) : ∃ v1, S = [v1] ∧ v1.m = a := by
  match S, h with
  | [v1], h => simp at h; exact ⟨v1, rfl, h⟩
theorem prog_parts {v1 v2 : ScrV} (h : v1.m.prog = v2.m.prog) : v1.nm = v2.nm ∧ v1.d = v2.d ∧ v1.j = v2.j ∧ v1.L.map (·.o) = v2.L.map (·.o) := by
  unfold ScrV.m progM at h
  injection h with e1 e2 e3 e4
  exact ⟨e1, e2, e3, e4⟩
theorem sameV_c (v1 v2 : ScrV) (w : World) (h : v1.m.prog = v2.m.prog) (ht : tameP v1.m.prog) (h1 : OpsRd w NoBlk v1.A v1.L) (h2 : OpsRd w NoBlk v2.A v2.L) : Calls Tryz.prog 15
    #[.agg #[.string v1.nm, .int .i64 v1.d, .int .i64 v1.j, .slice v1.A v1.L.length v1.c], .agg #[.string v2.nm, .int .i64 v2.d, .int .i64 v2.j, .slice v2.A v2.L.length v2.c]] w fun e w' => e = .returned (.bool true) ∧ Only NoBlk w w' := by
  obtain ⟨p1, p2, p3, p4⟩ := prog_parts h
  obtain ⟨t1, t2⟩ := ht
  have t1' : v1.L.length ≤ 200 := by simpa [ScrV.m, progM] using t1
  rw [← p1, ← p2, ← p3]
  exact refSame_c _ _ _ _ _ _ _ _ _ w h1 h2 p4 (by omega) (fun v hv => by have := t2 v.o (List.mem_map.2 ⟨v, hv, rfl⟩); omega)
set_option maxRecDepth 100000 in
set_option maxHeartbeats 51200000 in
theorem LoadApart_walk (a0 a1 a2 : ByteArray) (w : World) (z0 : a0.size ≤ 9223372036854775807) (z1 : a1.size ≤ 9223372036854775807) (z2 : a2.size ≤ 9223372036854775807) (hv : Vars w) :
    Calls Tryz.prog 6 #[.string a0, .string a1, .string a2] w fun e w' => e = .returned (.bool true) ∧ Only NoBlk w w' := by
  have HV := hide hv
  have HF0 := hide (fun (X : World) => lessS_c a0 X z0)
  have HF1 := hide (fun (X : World) => lessS_c a1 X z1)
  have HF2 := hide (fun (X : World) => lessS_c a2 X z2)
  clear hv z0 z1 z2
  go_enter Tryz.func6, Tryz.ntmps6
  go_wp2_with fail
  refine (HF0.out _).mono ?_
  rintro e w1 ⟨⟨la, hla, hsa, rfl⟩, k1⟩
  have K1 := hide k1
  have HLa := hide hla
  clear k1 hla HF0
  go_wp2_with fail
  refine (HF1.out _).mono ?_
  rintro e w2 ⟨⟨lb, hlb, hsb, rfl⟩, k2⟩
  have K2 := hide (K1.out.trans k2)
  have HLb := hide hlb
  clear k2 hlb HF1
  go_wp2_with fail
  refine (HF2.out _).mono ?_
  rintro e w3 ⟨⟨lc, hlc, hsc, rfl⟩, k3⟩
  have K3 := hide (K2.out.trans k3)
  have HLc := hide hlc
  clear k3 hlc HF2
  have z0 : ((⟨#[115, 99, 114, 105, 112, 116, 32, 97, 32, 110, 101, 118, 101, 114, 32, 51, 10]⟩ : ByteArray)).size + (bs (encL la)).size ≤ 9223372036854775807 := by simp only [ByteArray.size_append, bs_size, (show (⟨#[115, 99, 114, 105, 112, 116, 32, 97, 32, 110, 101, 118, 101, 114, 32, 51, 10]⟩ : ByteArray).size = 17 from rfl), (show (⟨#[115, 99, 114, 105, 112, 116, 32, 99, 32, 57, 32, 48, 10]⟩ : ByteArray).size = 13 from rfl), (show (⟨#[115, 99, 114, 105, 112, 116, 32, 98, 32, 53, 32, 49, 10]⟩ : ByteArray).size = 13 from rfl), (show (⟨#[115, 99, 114, 105, 112, 116, 32, 98, 32, 53, 32, 49, 10, 110, 111, 116, 104, 105, 110, 103, 10]⟩ : ByteArray).size = 21 from rfl)]; omega
  have z1 : ((⟨#[115, 99, 114, 105, 112, 116, 32, 99, 32, 57, 32, 48, 10]⟩ : ByteArray)).size + (bs (encL lc)).size ≤ 9223372036854775807 := by simp only [ByteArray.size_append, bs_size, (show (⟨#[115, 99, 114, 105, 112, 116, 32, 97, 32, 110, 101, 118, 101, 114, 32, 51, 10]⟩ : ByteArray).size = 17 from rfl), (show (⟨#[115, 99, 114, 105, 112, 116, 32, 99, 32, 57, 32, 48, 10]⟩ : ByteArray).size = 13 from rfl), (show (⟨#[115, 99, 114, 105, 112, 116, 32, 98, 32, 53, 32, 49, 10]⟩ : ByteArray).size = 13 from rfl), (show (⟨#[115, 99, 114, 105, 112, 116, 32, 98, 32, 53, 32, 49, 10, 110, 111, 116, 104, 105, 110, 103, 10]⟩ : ByteArray).size = 21 from rfl)]; omega
  have z2 : ((⟨#[115, 99, 114, 105, 112, 116, 32, 97, 32, 110, 101, 118, 101, 114, 32, 51, 10]⟩ : ByteArray) ++ bs (encL la)).size + ((⟨#[115, 99, 114, 105, 112, 116, 32, 98, 32, 53, 32, 49, 10]⟩ : ByteArray)).size ≤ 9223372036854775807 := by simp only [ByteArray.size_append, bs_size, (show (⟨#[115, 99, 114, 105, 112, 116, 32, 97, 32, 110, 101, 118, 101, 114, 32, 51, 10]⟩ : ByteArray).size = 17 from rfl), (show (⟨#[115, 99, 114, 105, 112, 116, 32, 99, 32, 57, 32, 48, 10]⟩ : ByteArray).size = 13 from rfl), (show (⟨#[115, 99, 114, 105, 112, 116, 32, 98, 32, 53, 32, 49, 10]⟩ : ByteArray).size = 13 from rfl), (show (⟨#[115, 99, 114, 105, 112, 116, 32, 98, 32, 53, 32, 49, 10, 110, 111, 116, 104, 105, 110, 103, 10]⟩ : ByteArray).size = 21 from rfl)]; omega
  have z3 : ((⟨#[115, 99, 114, 105, 112, 116, 32, 97, 32, 110, 101, 118, 101, 114, 32, 51, 10]⟩ : ByteArray) ++ bs (encL la) ++ (⟨#[115, 99, 114, 105, 112, 116, 32, 98, 32, 53, 32, 49, 10]⟩ : ByteArray)).size + (bs (encL lb)).size ≤ 9223372036854775807 := by simp only [ByteArray.size_append, bs_size, (show (⟨#[115, 99, 114, 105, 112, 116, 32, 97, 32, 110, 101, 118, 101, 114, 32, 51, 10]⟩ : ByteArray).size = 17 from rfl), (show (⟨#[115, 99, 114, 105, 112, 116, 32, 99, 32, 57, 32, 48, 10]⟩ : ByteArray).size = 13 from rfl), (show (⟨#[115, 99, 114, 105, 112, 116, 32, 98, 32, 53, 32, 49, 10]⟩ : ByteArray).size = 13 from rfl), (show (⟨#[115, 99, 114, 105, 112, 116, 32, 98, 32, 53, 32, 49, 10, 110, 111, 116, 104, 105, 110, 103, 10]⟩ : ByteArray).size = 21 from rfl)]; omega
  have z4 : ((⟨#[115, 99, 114, 105, 112, 116, 32, 97, 32, 110, 101, 118, 101, 114, 32, 51, 10]⟩ : ByteArray) ++ bs (encL la) ++ (⟨#[115, 99, 114, 105, 112, 116, 32, 98, 32, 53, 32, 49, 10]⟩ : ByteArray) ++ bs (encL lb)).size + ((⟨#[115, 99, 114, 105, 112, 116, 32, 99, 32, 57, 32, 48, 10]⟩ : ByteArray) ++ bs (encL lc)).size ≤ 9223372036854775807 := by simp only [ByteArray.size_append, bs_size, (show (⟨#[115, 99, 114, 105, 112, 116, 32, 97, 32, 110, 101, 118, 101, 114, 32, 51, 10]⟩ : ByteArray).size = 17 from rfl), (show (⟨#[115, 99, 114, 105, 112, 116, 32, 99, 32, 57, 32, 48, 10]⟩ : ByteArray).size = 13 from rfl), (show (⟨#[115, 99, 114, 105, 112, 116, 32, 98, 32, 53, 32, 49, 10]⟩ : ByteArray).size = 13 from rfl), (show (⟨#[115, 99, 114, 105, 112, 116, 32, 98, 32, 53, 32, 49, 10, 110, 111, 116, 104, 105, 110, 103, 10]⟩ : ByteArray).size = 21 from rfl)]; omega
  have z5 : ((⟨#[115, 99, 114, 105, 112, 116, 32, 97, 32, 110, 101, 118, 101, 114, 32, 51, 10]⟩ : ByteArray) ++ bs (encL la)).size + ((⟨#[115, 99, 114, 105, 112, 116, 32, 98, 32, 53, 32, 49, 10, 110, 111, 116, 104, 105, 110, 103, 10]⟩ : ByteArray)).size ≤ 9223372036854775807 := by simp only [ByteArray.size_append, bs_size, (show (⟨#[115, 99, 114, 105, 112, 116, 32, 97, 32, 110, 101, 118, 101, 114, 32, 51, 10]⟩ : ByteArray).size = 17 from rfl), (show (⟨#[115, 99, 114, 105, 112, 116, 32, 99, 32, 57, 32, 48, 10]⟩ : ByteArray).size = 13 from rfl), (show (⟨#[115, 99, 114, 105, 112, 116, 32, 98, 32, 53, 32, 49, 10]⟩ : ByteArray).size = 13 from rfl), (show (⟨#[115, 99, 114, 105, 112, 116, 32, 98, 32, 53, 32, 49, 10, 110, 111, 116, 104, 105, 110, 103, 10]⟩ : ByteArray).size = 21 from rfl)]; omega
  have z6 : ((⟨#[115, 99, 114, 105, 112, 116, 32, 97, 32, 110, 101, 118, 101, 114, 32, 51, 10]⟩ : ByteArray) ++ bs (encL la) ++ (⟨#[115, 99, 114, 105, 112, 116, 32, 98, 32, 53, 32, 49, 10, 110, 111, 116, 104, 105, 110, 103, 10]⟩ : ByteArray)).size + ((⟨#[115, 99, 114, 105, 112, 116, 32, 99, 32, 57, 32, 48, 10]⟩ : ByteArray) ++ bs (encL lc)).size ≤ 9223372036854775807 := by simp only [ByteArray.size_append, bs_size, (show (⟨#[115, 99, 114, 105, 112, 116, 32, 97, 32, 110, 101, 118, 101, 114, 32, 51, 10]⟩ : ByteArray).size = 17 from rfl), (show (⟨#[115, 99, 114, 105, 112, 116, 32, 99, 32, 57, 32, 48, 10]⟩ : ByteArray).size = 13 from rfl), (show (⟨#[115, 99, 114, 105, 112, 116, 32, 98, 32, 53, 32, 49, 10]⟩ : ByteArray).size = 13 from rfl), (show (⟨#[115, 99, 114, 105, 112, 116, 32, 98, 32, 53, 32, 49, 10, 110, 111, 116, 104, 105, 110, 103, 10]⟩ : ByteArray).size = 21 from rfl)]; omega
  have HT1 := hide (show (⟨#[115, 99, 114, 105, 112, 116, 32, 97, 32, 110, 101, 118, 101, 114, 32, 51, 10]⟩ : ByteArray) ++ bs (encL la) ++ (⟨#[115, 99, 114, 105, 112, 116, 32, 98, 32, 53, 32, 49, 10]⟩ : ByteArray) ++ bs (encL lb) ++ ((⟨#[115, 99, 114, 105, 112, 116, 32, 99, 32, 57, 32, 48, 10]⟩ : ByteArray) ++ bs (encL lc)) = bs (encL (hA :: (la ++ hB :: (lb ++ hC :: lc)))) by
    show bs (hA ++ [10]) ++ bs (encL la) ++ bs (hB ++ [10]) ++ bs (encL lb) ++ (bs (hC ++ [10]) ++ bs (encL lc)) = _
    simp only [bs_append]
    congr 1
    simp [encL, List.append_assoc])
  have HT2 := hide (show (⟨#[115, 99, 114, 105, 112, 116, 32, 97, 32, 110, 101, 118, 101, 114, 32, 51, 10]⟩ : ByteArray) ++ bs (encL la) ++ (⟨#[115, 99, 114, 105, 112, 116, 32, 98, 32, 53, 32, 49, 10, 110, 111, 116, 104, 105, 110, 103, 10]⟩ : ByteArray) ++ ((⟨#[115, 99, 114, 105, 112, 116, 32, 99, 32, 57, 32, 48, 10]⟩ : ByteArray) ++ bs (encL lc)) = bs (encL (hA :: (la ++ hB :: ([noth] ++ hC :: lc)))) by
    show bs (hA ++ [10]) ++ bs (encL la) ++ bs (hB ++ [10] ++ noth ++ [10]) ++ (bs (hC ++ [10]) ++ bs (encL lc)) = _
    simp only [bs_append]
    congr 1
    simp [encL, List.append_assoc])
  have HT3 := hide (show (⟨#[115, 99, 114, 105, 112, 116, 32, 97, 32, 110, 101, 118, 101, 114, 32, 51, 10]⟩ : ByteArray) ++ bs (encL la) = bs (encL (hA :: la)) by
    show bs (hA ++ [10]) ++ bs (encL la) = _
    simp only [bs_append]
    congr 1)
  have n1 : (encL (hA :: (la ++ hB :: (lb ++ hC :: lc)))).length ≤ 20000 := by
    have : encL (hA :: (la ++ hB :: (lb ++ hC :: lc))) = (hA ++ [10]) ++ encL la ++ (hB ++ [10]) ++ encL lb ++ (hC ++ [10]) ++ encL lc := by simp [encL, List.append_assoc]
    rw [this]
    simp only [List.length_append, (show hA.length = 16 from rfl), (show hB.length = 12 from rfl), (show hC.length = 12 from rfl), List.length_cons, List.length_nil]
    omega
  have n2 : (encL (hA :: (la ++ hB :: ([noth] ++ hC :: lc)))).length ≤ 20000 := by
    have : encL (hA :: (la ++ hB :: ([noth] ++ hC :: lc))) = (hA ++ [10]) ++ encL la ++ (hB ++ [10]) ++ (noth ++ [10]) ++ (hC ++ [10]) ++ encL lc := by simp [encL, List.append_assoc]
    rw [this]
    simp only [List.length_append, (show hA.length = 16 from rfl), (show hB.length = 12 from rfl), (show hC.length = 12 from rfl), (show noth.length = 7 from rfl), List.length_cons, List.length_nil]
    omega
  have n3 : (encL (hA :: la)).length ≤ 20000 := by
    have : encL (hA :: la) = (hA ++ [10]) ++ encL la := by simp [encL]
    rw [this]
    simp only [List.length_append, (show hA.length = 16 from rfl), List.length_cons, List.length_nil]
    omega
  obtain ⟨s1, s2, s3, r2, r3, q1, e1, e2, e3, f1, f2, f3, f4⟩ := apart_law HLa.out HLb.out HLc.out n1 n2
  have HD1 := hide (fun (X : World) (q : Only NoBlk w X) => loadA_c _ _ _ X HT1.out n1 e1 (HV.out.only q))
  have HD2 := hide (fun (X : World) (q : Only NoBlk w X) => loadA_c _ _ _ X HT2.out n2 e2 (HV.out.only q))
  have HD3 := hide (fun (X : World) (q : Only NoBlk w X) => loadA_c _ _ _ X HT3.out n3 e3 (HV.out.only q))
  have HTm := hide (show tameP s1.prog ∧ tameP s3.prog by
    have := load_tame (encL (hA :: (la ++ hB :: (lb ++ hC :: lc))))
    rw [e1] at this
    exact ⟨this s1 (by simp), this s3 (by simp)⟩)
  have HQ := hide (And.intro f1 (And.intro f2 (And.intro f3 f4)))
  clear n1 n2 n3 e1 e2 e3 f1 f2 f3 f4 HT1 HT2 HT3 hsa hsb hsc HLa HLb HLc
  go_wp2_with fail
  refine (HD1.out _ K3.out).mono ?_
  rintro e w4 ⟨⟨A1, c1, S1, rfl, hS1, hr1, ho1⟩, k4⟩
  obtain ⟨v1, v2, v3, rfl, m1, m2, m3⟩ := map3 hS1
  have K4 := hide (K3.out.trans k4)
  have HR1 := hide hr1
  have HO1 := hide (And.intro (ho1 v1 (by simp)) (ho1 v3 (by simp)))
  clear k4 hr1 ho1 HD1 hS1
  simp only [List.length_cons, List.length_nil, Nat.zero_add, Nat.reduceAdd]
  go_wp2_with fail
  refine (HD2.out _ K4.out).mono ?_
  rintro e w5 ⟨⟨A2, c2, S2, rfl, hS2, hr2, ho2⟩, k5⟩
  obtain ⟨t1, t2, t3, rfl, g1, g2, g3⟩ := map3 hS2
  have K5 := hide (K4.out.trans k5)
  have HR15 := hide (HR1.out.only k5 (fun _ h => h))
  have HO15 := hide (And.intro (HO1.out.1.only k5 (fun _ h => h)) (HO1.out.2.only k5 (fun _ h => h)))
  have HR2 := hide hr2
  have HO2 := hide (And.intro (ho2 t1 (by simp)) (ho2 t3 (by simp)))
  clear k5 hr2 ho2 HD2 hS2 HR1 HO1
  simp only [List.length_cons, List.length_nil, Nat.zero_add, Nat.reduceAdd]
  go_wp2_with fail
  refine (HD3.out _ K5.out).mono ?_
  rintro e w6 ⟨⟨A3, c3, S3, rfl, hS3, hr3, ho3⟩, k6⟩
  obtain ⟨u1, rfl, h1⟩ := map1 hS3
  have K6 := hide (K5.out.trans k6)
  have HR16 := hide (HR15.out.only k6 (fun _ h => h))
  have HO16 := hide (And.intro (HO15.out.1.only k6 (fun _ h => h)) (HO15.out.2.only k6 (fun _ h => h)))
  have HR26 := hide (HR2.out.only k6 (fun _ h => h))
  have HO26 := hide (And.intro (HO2.out.1.only k6 (fun _ h => h)) (HO2.out.2.only k6 (fun _ h => h)))
  have HR3 := hide hr3
  have HO3 := hide (ho3 u1 (by simp))
  clear k6 hr3 ho3 HD3 hS3 HR15 HO15 HR2 HO2
  simp only [List.length_cons, List.length_nil, Nat.zero_add, Nat.reduceAdd]
  subst m1 m2 m3 h1
  obtain ⟨f1, f2, f3, f4⟩ := HQ.out
  have gp1 : t1.m.prog = v1.m.prog := by rw [g1]
  have gl3 : Like v3.m t3.m := by rw [g3]; exact f4
  have ge2 : t2.err = 11 := by rw [← g2] at f3; exact f3
  obtain ⟨y1, y2⟩ := HTm.out
  have HS11 := hide (fun (X : World) (q : Only NoBlk w6 X) => sameV_c v1 t1 X gp1.symm y1 (HO16.out.1.only q (fun _ h => h)) (HO26.out.1.only q (fun _ h => h)))
  have HS12 := hide (fun (X : World) (q : Only NoBlk w6 X) => sameV_c v1 u1 X f1.symm y1 (HO16.out.1.only q (fun _ h => h)) (HO3.out.only q (fun _ h => h)))
  have HS33 := hide (fun (X : World) (q : Only NoBlk w6 X) => sameV_c v3 t3 X gl3.prog y2 (HO16.out.2.only q (fun _ h => h)) (HO26.out.2.only q (fun _ h => h)))
  have x1 : v1.x = t1.x := by have := congrArg ScrM.x g1; exact this.symm
  have x2 : v1.y = t1.y := by have := congrArg ScrM.y g1; exact this.symm
  have x3 : v1.err = t1.err := by have := congrArg ScrM.err g1; exact this.symm
  have x4 : v1.err = u1.err := f2.symm
  have x5 : v3.err = t3.err := gl3.err
  have x6 : v3.y = t3.y := gl3.y
  have X7 := hide (show v3.err = 0 ∨ v3.x - v3.line = t3.x - t3.line from gl3.x)
  have r1 : (v1.err != t1.err) = false := by rw [x3]; simp
  have r2' : (v1.x == t1.x) = true := by rw [x1]; simp
  have r3' : (v1.y == t1.y) = true := by rw [x2]; simp
  have r4 : (v1.err != u1.err) = false := by rw [x4]; simp
  have r5 : (v3.err != t3.err) = false := by rw [x5]; simp
  have r6 : (v3.y == t3.y) = true := by rw [x6]; simp
  have r7 : (t2.err != 11) = false := by rw [ge2]; rfl
  have r8 : (v1.x != t1.x) = false := by rw [x1]; simp
  have r9 : (v1.y != t1.y) = false := by rw [x2]; simp
  obtain ⟨b1, o1, rfl, _, hb1, hc1⟩ := HR16.out.at_ (j := 0) (by simp [flat, encScr])
  obtain ⟨b2, o2, rfl, _, hb2, hc2⟩ := HR26.out.at_ (j := 0) (by simp [flat, encScr])
  obtain ⟨b3, o3, rfl, _, hb3, hc3⟩ := HR3.out.at_ (j := 0) (by simp [flat, encScr])
  have HCl := hide (fun (X : World) (q : Only NoBlk w6 X) => (show X.cell? ⟨b1, o1, none⟩ = some (.string v1.nm) ∧ X.cell? ⟨b1, o1 + 1, none⟩ = some (.int .i64 v1.d) ∧ X.cell? ⟨b1, o1 + 2, none⟩ = some (.int .i64 v1.j) ∧ X.cell? ⟨b1, o1 + 3, none⟩ = some (.slice v1.A v1.L.length v1.c) ∧ X.cell? ⟨b1, o1 + 5, none⟩ = some (.int .i64 v1.x) ∧ X.cell? ⟨b1, o1 + 6, none⟩ = some (.int .i64 v1.y) ∧ X.cell? ⟨b1, o1 + 7, none⟩ = some (.int .i64 v1.err) ∧ X.cell? ⟨b1, o1 + 16, none⟩ = some (.string v3.nm) ∧ X.cell? ⟨b1, o1 + 17, none⟩ = some (.int .i64 v3.d) ∧ X.cell? ⟨b1, o1 + 18, none⟩ = some (.int .i64 v3.j) ∧ X.cell? ⟨b1, o1 + 19, none⟩ = some (.slice v3.A v3.L.length v3.c) ∧ X.cell? ⟨b1, o1 + 20, none⟩ = some (.int .i64 v3.line) ∧ X.cell? ⟨b1, o1 + 21, none⟩ = some (.int .i64 v3.x) ∧ X.cell? ⟨b1, o1 + 22, none⟩ = some (.int .i64 v3.y) ∧ X.cell? ⟨b1, o1 + 23, none⟩ = some (.int .i64 v3.err) ∧ X.cell? ⟨b2, o2, none⟩ = some (.string t1.nm) ∧ X.cell? ⟨b2, o2 + 1, none⟩ = some (.int .i64 t1.d) ∧ X.cell? ⟨b2, o2 + 2, none⟩ = some (.int .i64 t1.j) ∧ X.cell? ⟨b2, o2 + 3, none⟩ = some (.slice t1.A t1.L.length t1.c) ∧ X.cell? ⟨b2, o2 + 5, none⟩ = some (.int .i64 t1.x) ∧ X.cell? ⟨b2, o2 + 6, none⟩ = some (.int .i64 t1.y) ∧ X.cell? ⟨b2, o2 + 7, none⟩ = some (.int .i64 t1.err) ∧ X.cell? ⟨b2, o2 + 15, none⟩ = some (.int .i64 t2.err) ∧ X.cell? ⟨b2, o2 + 16, none⟩ = some (.string t3.nm) ∧ X.cell? ⟨b2, o2 + 17, none⟩ = some (.int .i64 t3.d) ∧ X.cell? ⟨b2, o2 + 18, none⟩ = some (.int .i64 t3.j) ∧ X.cell? ⟨b2, o2 + 19, none⟩ = some (.slice t3.A t3.L.length t3.c) ∧ X.cell? ⟨b2, o2 + 20, none⟩ = some (.int .i64 t3.line) ∧ X.cell? ⟨b2, o2 + 21, none⟩ = some (.int .i64 t3.x) ∧ X.cell? ⟨b2, o2 + 22, none⟩ = some (.int .i64 t3.y) ∧ X.cell? ⟨b2, o2 + 23, none⟩ = some (.int .i64 t3.err) ∧ X.cell? ⟨b3, o3, none⟩ = some (.string u1.nm) ∧ X.cell? ⟨b3, o3 + 1, none⟩ = some (.int .i64 u1.d) ∧ X.cell? ⟨b3, o3 + 2, none⟩ = some (.int .i64 u1.j) ∧ X.cell? ⟨b3, o3 + 3, none⟩ = some (.slice u1.A u1.L.length u1.c) ∧ X.cell? ⟨b3, o3 + 7, none⟩ = some (.int .i64 u1.err) by
    have g1 : ∀ j, j < 24 → X.cell? ⟨b1, o1 + j, none⟩ = (flat encScr [v1, v2, v3])[j]? := fun j hj => (q.cell (p := ⟨b1, o1 + j, none⟩) hb1 (fun h => h)).trans (hc1 j (by simp [flat, encScr]; omega))
    have g2 : ∀ j, j < 24 → X.cell? ⟨b2, o2 + j, none⟩ = (flat encScr [t1, t2, t3])[j]? := fun j hj => (q.cell (p := ⟨b2, o2 + j, none⟩) hb2 (fun h => h)).trans (hc2 j (by simp [flat, encScr]; omega))
    have g3 : ∀ j, j < 8 → X.cell? ⟨b3, o3 + j, none⟩ = (flat encScr [u1])[j]? := fun j hj => (q.cell (p := ⟨b3, o3 + j, none⟩) hb3 (fun h => h)).trans (hc3 j (by simp [flat, encScr]; omega))
    exact ⟨g1 0 (by omega), g1 1 (by omega), g1 2 (by omega), g1 3 (by omega), g1 5 (by omega), g1 6 (by omega), g1 7 (by omega), g1 16 (by omega), g1 17 (by omega), g1 18 (by omega), g1 19 (by omega), g1 20 (by omega), g1 21 (by omega), g1 22 (by omega), g1 23 (by omega), g2 0 (by omega), g2 1 (by omega), g2 2 (by omega), g2 3 (by omega), g2 5 (by omega), g2 6 (by omega), g2 7 (by omega), g2 15 (by omega), g2 16 (by omega), g2 17 (by omega), g2 18 (by omega), g2 19 (by omega), g2 20 (by omega), g2 21 (by omega), g2 22 (by omega), g2 23 (by omega), g3 0 (by omega), g3 1 (by omega), g3 2 (by omega), g3 3 (by omega), g3 7 (by omega)⟩))
  have HLv := hide (fun (X : World) (q : Only NoBlk w X) => lives17_c X (HV.out.only q))
  clear HR16 HO16 HR26 HO26 HR3 HO3 HQ HTm f1 f2 f3 f4 gp1 gl3 ge2 y1 y2 g1 g2 g3 x1 x2 x3 x4 x5 x6 hb1 hb2 hb3 hc1 hc2 hc3 HV K5 K4 K3 K2 K1
  go_upto_region 8 with fail
  refine wp_region_held (S := fun X => X.cell? ⟨b1, o1, none⟩ = some (.string v1.nm) ∧ X.cell? ⟨b1, o1 + 1, none⟩ = some (.int .i64 v1.d) ∧ X.cell? ⟨b1, o1 + 2, none⟩ = some (.int .i64 v1.j) ∧ X.cell? ⟨b1, o1 + 3, none⟩ = some (.slice v1.A v1.L.length v1.c) ∧ X.cell? ⟨b1, o1 + 5, none⟩ = some (.int .i64 v1.x) ∧ X.cell? ⟨b1, o1 + 6, none⟩ = some (.int .i64 v1.y) ∧ X.cell? ⟨b1, o1 + 7, none⟩ = some (.int .i64 v1.err) ∧ X.cell? ⟨b1, o1 + 16, none⟩ = some (.string v3.nm) ∧ X.cell? ⟨b1, o1 + 17, none⟩ = some (.int .i64 v3.d) ∧ X.cell? ⟨b1, o1 + 18, none⟩ = some (.int .i64 v3.j) ∧ X.cell? ⟨b1, o1 + 19, none⟩ = some (.slice v3.A v3.L.length v3.c) ∧ X.cell? ⟨b1, o1 + 20, none⟩ = some (.int .i64 v3.line) ∧ X.cell? ⟨b1, o1 + 21, none⟩ = some (.int .i64 v3.x) ∧ X.cell? ⟨b1, o1 + 22, none⟩ = some (.int .i64 v3.y) ∧ X.cell? ⟨b1, o1 + 23, none⟩ = some (.int .i64 v3.err) ∧ X.cell? ⟨b2, o2, none⟩ = some (.string t1.nm) ∧ X.cell? ⟨b2, o2 + 1, none⟩ = some (.int .i64 t1.d) ∧ X.cell? ⟨b2, o2 + 2, none⟩ = some (.int .i64 t1.j) ∧ X.cell? ⟨b2, o2 + 3, none⟩ = some (.slice t1.A t1.L.length t1.c) ∧ X.cell? ⟨b2, o2 + 5, none⟩ = some (.int .i64 t1.x) ∧ X.cell? ⟨b2, o2 + 6, none⟩ = some (.int .i64 t1.y) ∧ X.cell? ⟨b2, o2 + 7, none⟩ = some (.int .i64 t1.err) ∧ X.cell? ⟨b2, o2 + 15, none⟩ = some (.int .i64 t2.err) ∧ X.cell? ⟨b2, o2 + 16, none⟩ = some (.string t3.nm) ∧ X.cell? ⟨b2, o2 + 17, none⟩ = some (.int .i64 t3.d) ∧ X.cell? ⟨b2, o2 + 18, none⟩ = some (.int .i64 t3.j) ∧ X.cell? ⟨b2, o2 + 19, none⟩ = some (.slice t3.A t3.L.length t3.c) ∧ X.cell? ⟨b2, o2 + 20, none⟩ = some (.int .i64 t3.line) ∧ X.cell? ⟨b2, o2 + 21, none⟩ = some (.int .i64 t3.x) ∧ X.cell? ⟨b2, o2 + 22, none⟩ = some (.int .i64 t3.y) ∧ X.cell? ⟨b2, o2 + 23, none⟩ = some (.int .i64 t3.err) ∧ X.cell? ⟨b3, o3, none⟩ = some (.string u1.nm) ∧ X.cell? ⟨b3, o3 + 1, none⟩ = some (.int .i64 u1.d) ∧ X.cell? ⟨b3, o3 + 2, none⟩ = some (.int .i64 u1.j) ∧ X.cell? ⟨b3, o3 + 3, none⟩ = some (.slice u1.A u1.L.length u1.c) ∧ X.cell? ⟨b3, o3 + 7, none⟩ = some (.int .i64 u1.err)) (by kernel_rfl) ?_
  change wpAnyH _ _ _ _ _ _ _ _ w6.drew
  obtain ⟨V0, hV0⟩ : ∃ V0, V0 = w6.drew := ⟨_, rfl⟩
  have J0 := hide (show Only NoBlk w6 V0 by rw [hV0]; exact (Only.refl NoBlk w6).drew)
  have hHeld := HCl.out V0 J0.out
  rw [← hV0]
  simp only [List.size_toArray, List.length_cons, List.length_nil, Nat.zero_add, Nat.reduceAdd]
  clear hV0
  refine tk 0 ?_ rfl ?_ ?_
  rotate_left
  · (intro w9 hS9; (try simp only [ga]); go_simp <;> rfl)
  try simp only [Act.put, gp]
  refine tk 1 ?_ rfl ?_ ?_
  rotate_left
  · (intro w9 hS9; (try simp only [ga]); go_simp <;> rfl)
  try simp only [Act.put, gp]
  refine tk 2 ?_ rfl ?_ ?_
  rotate_left
  · (intro w9 hS9; (try simp only [ga]); go_simp <;> rfl)
  try simp only [Act.put, gp]
  refine tk 3 ?_ rfl ?_ ?_
  rotate_left
  · (intro w9 hS9; (try simp only [ga]); go_simp <;> rfl)
  try simp only [Act.put, gp]
  refine tk 4 ?_ rfl ?_ ?_
  rotate_left
  · (intro w9 hS9; (try simp only [ga]); go_simp <;> rfl)
  try simp only [Act.put, gp]
  refine tk 5 ?_ rfl ?_ ?_
  rotate_left
  · (intro w9 hS9; (try simp only [ga]); go_simp <;> rfl)
  try simp only [Act.put, gp]
  refine tk 6 ?_ rfl ?_ ?_
  rotate_left
  · (intro w9 hS9; (try simp only [ga]); go_simp <;> rfl)
  try simp only [Act.put, gp]
  refine tk 7 ?_ rfl ?_ ?_
  rotate_left
  · (intro w9 hS9; (try simp only [ga]); go_simp <;> rfl)
  try simp only [Act.put, gp]
  refine rdy 8 rfl (fun K hK => ?_)
  try simp only [ga]
  try go_simp
  refine (HS11.out _ J0.out).mono ?_
  rintro e V1 ⟨rfl, k1⟩
  have J1 := hide (J0.out.trans k1)
  clear k1 hHeld
  refine hK.out _ _ (HCl.out V1 J1.out) (fun hHeld => ?_)
  clear hK K
  try simp only [Act.put, gp]
  refine tk 9 ?_ rfl ?_ ?_
  rotate_left
  · (intro w9 hS9; (try simp only [ga]); go_simp <;> rfl)
  try simp only [Act.put, gp]
  refine tk 10 ?_ rfl ?_ ?_
  rotate_left
  · (intro w9 hS9; (try simp only [ga]); go_simp <;> rfl)
  try simp only [Act.put, gp]
  refine tk 11 ?_ rfl ?_ ?_
  rotate_left
  · (intro w9 hS9; (try simp only [ga]); go_simp <;> rfl)
  try simp only [Act.put, gp]
  refine tk 12 ?_ rfl ?_ ?_
  rotate_left
  · (intro w9 hS9; (try simp only [ga]); go_simp <;> rfl)
  try simp only [Act.put, gp]
  refine tk 13 ?_ rfl ?_ ?_
  rotate_left
  · (intro w9 hS9; (try simp only [ga]); go_simp <;> rfl)
  try simp only [Act.put, gp]
  refine tk 14 ?_ rfl ?_ ?_
  rotate_left
  · (intro w9 hS9; (try simp only [ga]); go_simp <;> rfl)
  try simp only [Act.put, gp]
  refine tk 15 ?_ rfl ?_ ?_
  rotate_left
  · (intro w9 hS9; (try simp only [ga]); go_simp <;> rfl)
  try simp only [Act.put, gp]
  refine tk 16 ?_ rfl ?_ ?_
  rotate_left
  · (intro w9 hS9; (try simp only [ga]); go_simp <;> rfl)
  try simp only [Act.put, gp]
  refine tk 17 ?_ rfl ?_ ?_
  rotate_left
  · (intro w9 hS9; (try simp only [ga]); go_simp <;> rfl)
  try simp only [Act.put, gp]
  refine tk 18 ?_ rfl ?_ ?_
  rotate_left
  · (intro w9 hS9; (try simp only [ga]); go_simp <;> rfl)
  try simp only [Act.put, gp]
  refine tk 19 ?_ rfl ?_ ?_
  rotate_left
  · (intro w9 hS9; (try simp only [ga]); go_simp <;> rfl)
  try simp only [Act.put, gp]
  refine tk 20 ?_ rfl ?_ ?_
  rotate_left
  · (intro w9 hS9; (try simp only [ga]); go_simp <;> rfl)
  try simp only [Act.put, gp]
  refine tk 21 ?_ rfl ?_ ?_
  rotate_left
  · (intro w9 hS9; (try simp only [ga]); go_simp <;> rfl)
  try simp only [Act.put, gp]
  refine tk 22 ?_ rfl ?_ ?_
  rotate_left
  · (intro w9 hS9; (try simp only [ga]); go_simp <;> rfl)
  try simp only [Act.put, gp]
  refine tk 23 ?_ rfl ?_ ?_
  rotate_left
  · (intro w9 hS9; (try simp only [ga]); go_simp <;> rfl)
  try simp only [Act.put, gp]
  refine tk 24 ?_ rfl ?_ ?_
  rotate_left
  · (intro w9 hS9; (try simp only [ga]); go_simp <;> rfl)
  try simp only [Act.put, gp]
  refine tk 25 ?_ rfl ?_ ?_
  rotate_left
  · (intro w9 hS9; (try simp only [ga]); go_simp <;> rfl)
  try simp only [Act.put, gp]
  refine tk 26 ?_ rfl ?_ ?_
  rotate_left
  · (intro w9 hS9; (try simp only [ga]); go_simp <;> rfl)
  try simp only [Act.put, gp]
  refine tk 27 ?_ rfl ?_ ?_
  rotate_left
  · (intro w9 hS9; (try simp only [ga]); go_simp <;> rfl)
  try simp only [Act.put, gp]
  refine tk 28 ?_ rfl ?_ ?_
  rotate_left
  · (intro w9 hS9; (try simp only [ga]); go_simp <;> rfl)
  try simp only [Act.put, gp]
  refine tk 29 ?_ rfl ?_ ?_
  rotate_left
  · (intro w9 hS9; (try simp only [ga]); go_simp <;> rfl)
  try simp only [Act.put, gp]
  refine tk 30 ?_ rfl ?_ ?_
  rotate_left
  · (intro w9 hS9; (try simp only [ga]); go_simp <;> rfl)
  try simp only [Act.put, gp]
  refine tk 31 ?_ rfl ?_ ?_
  rotate_left
  · (intro w9 hS9; (try simp only [ga]); go_simp <;> rfl)
  try simp only [Act.put, gp]
  refine tk 32 ?_ rfl ?_ ?_
  rotate_left
  · (intro w9 hS9; (try simp only [ga]); go_simp <;> rfl)
  try simp only [Act.put, gp]
  refine tk 33 ?_ rfl ?_ ?_
  rotate_left
  · (intro w9 hS9; (try simp only [ga]); go_simp <;> rfl)
  try simp only [Act.put, gp]
  refine tk 34 ?_ rfl ?_ ?_
  rotate_left
  · (intro w9 hS9; (try simp only [ga]); go_simp <;> rfl)
  try simp only [Act.put, gp]
  refine tk 35 ?_ rfl ?_ ?_
  rotate_left
  · (intro w9 hS9; (try simp only [ga]); go_simp <;> rfl)
  try simp only [Act.put, gp]
  refine tk 36 ?_ rfl ?_ ?_
  rotate_left
  · (intro w9 hS9; (try simp only [ga]); go_simp <;> rfl)
  try simp only [Act.put, gp]
  refine tk 37 ?_ rfl ?_ ?_
  rotate_left
  · (intro w9 hS9; (try simp only [ga]); go_simp <;> rfl)
  try simp only [Act.put, gp]
  refine tk 38 ?_ rfl ?_ ?_
  rotate_left
  · (intro w9 hS9; (try simp only [ga]); go_simp <;> rfl)
  try simp only [Act.put, gp]
  refine tk 39 ?_ rfl ?_ ?_
  rotate_left
  · (intro w9 hS9; (try simp only [ga]); go_simp <;> rfl)
  try simp only [Act.put, gp]
  refine tk 40 ?_ rfl ?_ ?_
  rotate_left
  · (intro w9 hS9; (try simp only [ga]); go_simp <;> rfl)
  try simp only [Act.put, gp]
  refine rdy 41 rfl (fun K hK => ?_)
  try simp only [ga]
  try go_simp
  refine (HS12.out _ J1.out).mono ?_
  rintro e V2 ⟨rfl, k1⟩
  have J2 := hide (J1.out.trans k1)
  clear k1 hHeld
  refine hK.out _ _ (HCl.out V2 J2.out) (fun hHeld => ?_)
  clear hK K
  try simp only [Act.put, gp]
  refine tk 42 ?_ rfl ?_ ?_
  rotate_left
  · (intro w9 hS9; (try simp only [ga]); go_simp <;> rfl)
  try simp only [Act.put, gp]
  refine tk 43 ?_ rfl ?_ ?_
  rotate_left
  · (intro w9 hS9; (try simp only [ga]); go_simp <;> rfl)
  try simp only [Act.put, gp]
  refine tk 44 ?_ rfl ?_ ?_
  rotate_left
  · (intro w9 hS9; (try simp only [ga]); go_simp <;> rfl)
  try simp only [Act.put, gp]
  refine tk 45 ?_ rfl ?_ ?_
  rotate_left
  · (intro w9 hS9; (try simp only [ga]); go_simp <;> rfl)
  try simp only [Act.put, gp]
  refine tk 46 ?_ rfl ?_ ?_
  rotate_left
  · (intro w9 hS9; (try simp only [ga]); go_simp <;> rfl)
  try simp only [Act.put, gp]
  refine tk 47 ?_ rfl ?_ ?_
  rotate_left
  · (intro w9 hS9; (try simp only [ga]); go_simp <;> rfl)
  try simp only [Act.put, gp]
  refine tk 48 ?_ rfl ?_ ?_
  rotate_left
  · (intro w9 hS9; (try simp only [ga]); go_simp <;> rfl)
  try simp only [Act.put, gp]
  refine tk 49 ?_ rfl ?_ ?_
  rotate_left
  · (intro w9 hS9; (try simp only [ga]); go_simp <;> rfl)
  try simp only [Act.put, gp]
  refine tk 50 ?_ rfl ?_ ?_
  rotate_left
  · (intro w9 hS9; (try simp only [ga]); go_simp <;> rfl)
  try simp only [Act.put, gp]
  refine tk 51 ?_ rfl ?_ ?_
  rotate_left
  · (intro w9 hS9; (try simp only [ga]); go_simp <;> rfl)
  try simp only [Act.put, gp]
  refine tk 52 ?_ rfl ?_ ?_
  rotate_left
  · (intro w9 hS9; (try simp only [ga]); go_simp <;> rfl)
  try simp only [Act.put, gp]
  refine tk 53 ?_ rfl ?_ ?_
  rotate_left
  · (intro w9 hS9; (try simp only [ga]); go_simp <;> rfl)
  try simp only [Act.put, gp]
  refine tk 54 ?_ rfl ?_ ?_
  rotate_left
  · (intro w9 hS9; (try simp only [ga]); go_simp <;> rfl)
  try simp only [Act.put, gp]
  refine wpAnyH_done (by kernel_rfl) ?_ _
  try simp only [Exit.then]
  clear hHeld
  go_upto_region 10 with fail
  refine wp_region_held (S := fun X => X.cell? ⟨b1, o1, none⟩ = some (.string v1.nm) ∧ X.cell? ⟨b1, o1 + 1, none⟩ = some (.int .i64 v1.d) ∧ X.cell? ⟨b1, o1 + 2, none⟩ = some (.int .i64 v1.j) ∧ X.cell? ⟨b1, o1 + 3, none⟩ = some (.slice v1.A v1.L.length v1.c) ∧ X.cell? ⟨b1, o1 + 5, none⟩ = some (.int .i64 v1.x) ∧ X.cell? ⟨b1, o1 + 6, none⟩ = some (.int .i64 v1.y) ∧ X.cell? ⟨b1, o1 + 7, none⟩ = some (.int .i64 v1.err) ∧ X.cell? ⟨b1, o1 + 16, none⟩ = some (.string v3.nm) ∧ X.cell? ⟨b1, o1 + 17, none⟩ = some (.int .i64 v3.d) ∧ X.cell? ⟨b1, o1 + 18, none⟩ = some (.int .i64 v3.j) ∧ X.cell? ⟨b1, o1 + 19, none⟩ = some (.slice v3.A v3.L.length v3.c) ∧ X.cell? ⟨b1, o1 + 20, none⟩ = some (.int .i64 v3.line) ∧ X.cell? ⟨b1, o1 + 21, none⟩ = some (.int .i64 v3.x) ∧ X.cell? ⟨b1, o1 + 22, none⟩ = some (.int .i64 v3.y) ∧ X.cell? ⟨b1, o1 + 23, none⟩ = some (.int .i64 v3.err) ∧ X.cell? ⟨b2, o2, none⟩ = some (.string t1.nm) ∧ X.cell? ⟨b2, o2 + 1, none⟩ = some (.int .i64 t1.d) ∧ X.cell? ⟨b2, o2 + 2, none⟩ = some (.int .i64 t1.j) ∧ X.cell? ⟨b2, o2 + 3, none⟩ = some (.slice t1.A t1.L.length t1.c) ∧ X.cell? ⟨b2, o2 + 5, none⟩ = some (.int .i64 t1.x) ∧ X.cell? ⟨b2, o2 + 6, none⟩ = some (.int .i64 t1.y) ∧ X.cell? ⟨b2, o2 + 7, none⟩ = some (.int .i64 t1.err) ∧ X.cell? ⟨b2, o2 + 15, none⟩ = some (.int .i64 t2.err) ∧ X.cell? ⟨b2, o2 + 16, none⟩ = some (.string t3.nm) ∧ X.cell? ⟨b2, o2 + 17, none⟩ = some (.int .i64 t3.d) ∧ X.cell? ⟨b2, o2 + 18, none⟩ = some (.int .i64 t3.j) ∧ X.cell? ⟨b2, o2 + 19, none⟩ = some (.slice t3.A t3.L.length t3.c) ∧ X.cell? ⟨b2, o2 + 20, none⟩ = some (.int .i64 t3.line) ∧ X.cell? ⟨b2, o2 + 21, none⟩ = some (.int .i64 t3.x) ∧ X.cell? ⟨b2, o2 + 22, none⟩ = some (.int .i64 t3.y) ∧ X.cell? ⟨b2, o2 + 23, none⟩ = some (.int .i64 t3.err) ∧ X.cell? ⟨b3, o3, none⟩ = some (.string u1.nm) ∧ X.cell? ⟨b3, o3 + 1, none⟩ = some (.int .i64 u1.d) ∧ X.cell? ⟨b3, o3 + 2, none⟩ = some (.int .i64 u1.j) ∧ X.cell? ⟨b3, o3 + 3, none⟩ = some (.slice u1.A u1.L.length u1.c) ∧ X.cell? ⟨b3, o3 + 7, none⟩ = some (.int .i64 u1.err)) (by kernel_rfl) ?_
  change wpAnyH _ _ _ _ _ _ _ _ V2.drew
  obtain ⟨V0, hV0⟩ : ∃ V0, V0 = V2.drew := ⟨_, rfl⟩
  have J0 := hide (show Only NoBlk w6 V0 by rw [hV0]; exact J2.out.drew)
  have hHeld := HCl.out V0 J0.out
  rw [← hV0]
  simp only [List.size_toArray, List.length_cons, List.length_nil, Nat.zero_add, Nat.reduceAdd]
  clear hV0
  refine tk 0 ?_ rfl ?_ ?_
  rotate_left
  · (intro w9 hS9; (try simp only [ga]); go_simp <;> rfl)
  try simp only [Act.put, gp]
  refine tk 1 ?_ rfl ?_ ?_
  rotate_left
  · (intro w9 hS9; (try simp only [ga]); go_simp <;> rfl)
  try simp only [Act.put, gp]
  refine tk 2 ?_ rfl ?_ ?_
  rotate_left
  · (intro w9 hS9; (try simp only [ga]); go_simp <;> rfl)
  try simp only [Act.put, gp]
  refine tk 3 ?_ rfl ?_ ?_
  rotate_left
  · (intro w9 hS9; (try simp only [ga]); go_simp <;> rfl)
  try simp only [Act.put, gp]
  refine tk 4 ?_ rfl ?_ ?_
  rotate_left
  · (intro w9 hS9; (try simp only [ga]); go_simp <;> rfl)
  try simp only [Act.put, gp]
  refine tk 5 ?_ rfl ?_ ?_
  rotate_left
  · (intro w9 hS9; (try simp only [ga]); go_simp <;> rfl)
  try simp only [Act.put, gp]
  refine tk 6 ?_ rfl ?_ ?_
  rotate_left
  · (intro w9 hS9; (try simp only [ga]); go_simp <;> rfl)
  try simp only [Act.put, gp]
  refine tk 7 ?_ rfl ?_ ?_
  rotate_left
  · (intro w9 hS9; (try simp only [ga]); go_simp <;> rfl)
  try simp only [Act.put, gp]
  refine tk 8 ?_ rfl ?_ ?_
  rotate_left
  · (intro w9 hS9; (try simp only [ga]); go_simp <;> rfl)
  try simp only [Act.put, gp]
  refine tk 9 ?_ rfl ?_ ?_
  rotate_left
  · (intro w9 hS9; (try simp only [ga]); go_simp <;> rfl)
  try simp only [Act.put, gp]
  refine tk 10 ?_ rfl ?_ ?_
  rotate_left
  · (intro w9 hS9; (try simp only [ga]); go_simp <;> rfl)
  try simp only [Act.put, gp]
  refine tk 11 ?_ rfl ?_ ?_
  rotate_left
  · (intro w9 hS9; (try simp only [ga]); go_simp <;> rfl)
  try simp only [Act.put, gp]
  refine tk 12 ?_ rfl ?_ ?_
  rotate_left
  · (intro w9 hS9; (try simp only [ga]); go_simp <;> rfl)
  try simp only [Act.put, gp]
  refine tk 13 ?_ rfl ?_ ?_
  rotate_left
  · (intro w9 hS9; (try simp only [ga]); go_simp <;> rfl)
  try simp only [Act.put, gp]
  refine rdy 14 rfl (fun K hK => ?_)
  try simp only [ga]
  try go_simp
  refine (HS33.out _ J0.out).mono ?_
  rintro e V3 ⟨rfl, k1⟩
  have J3 := hide (J0.out.trans k1)
  clear k1 hHeld
  refine hK.out _ _ (HCl.out V3 J3.out) (fun hHeld => ?_)
  clear hK K
  try simp only [Act.put, gp]
  refine tk 15 ?_ rfl ?_ ?_
  rotate_left
  · (intro w9 hS9; (try simp only [ga]); go_simp <;> rfl)
  try simp only [Act.put, gp]
  refine tk 16 ?_ rfl ?_ ?_
  rotate_left
  · (intro w9 hS9; (try simp only [ga]); go_simp <;> rfl)
  try simp only [Act.put, gp]
  refine tk 17 ?_ rfl ?_ ?_
  rotate_left
  · (intro w9 hS9; (try simp only [ga]); go_simp <;> rfl)
  try simp only [Act.put, gp]
  refine tk 18 ?_ rfl ?_ ?_
  rotate_left
  · (intro w9 hS9; (try simp only [ga]); go_simp <;> rfl)
  try simp only [Act.put, gp]
  refine tk 19 ?_ rfl ?_ ?_
  rotate_left
  · (intro w9 hS9; (try simp only [ga]); go_simp <;> rfl)
  try simp only [Act.put, gp]
  refine tk 20 ?_ rfl ?_ ?_
  rotate_left
  · (intro w9 hS9; (try simp only [ga]); go_simp <;> rfl)
  try simp only [Act.put, gp]
  refine tk 21 ?_ rfl ?_ ?_
  rotate_left
  · (intro w9 hS9; (try simp only [ga]); go_simp <;> rfl)
  try simp only [Act.put, gp]
  refine tk 22 ?_ rfl ?_ ?_
  rotate_left
  · (intro w9 hS9; (try simp only [ga]); go_simp <;> rfl)
  try simp only [Act.put, gp]
  refine tk 23 ?_ rfl ?_ ?_
  rotate_left
  · (intro w9 hS9; (try simp only [ga]); go_simp <;> rfl)
  try simp only [Act.put, gp]
  refine tk 24 ?_ rfl ?_ ?_
  rotate_left
  · (intro w9 hS9; (try simp only [ga]); go_simp <;> rfl)
  try simp only [Act.put, gp]
  refine tk 25 ?_ rfl ?_ ?_
  rotate_left
  · (intro w9 hS9; (try simp only [ga]); go_simp <;> rfl)
  try simp only [Act.put, gp]
  refine tk 26 ?_ rfl ?_ ?_
  rotate_left
  · (intro w9 hS9; (try simp only [ga]); go_simp <;> rfl)
  try simp only [Act.put, gp]
  refine tk 27 ?_ rfl ?_ ?_
  rotate_left
  · (intro w9 hS9; (try simp only [ga]); go_simp <;> rfl)
  try simp only [Act.put, gp]
  refine wpAnyH_done (by kernel_rfl) ?_ _
  try simp only [Exit.then]
  clear hHeld
  by_cases he : v3.err = 0
  case pos =>
    have r10 : (v3.err == 0) = true := by rw [he]; rfl
    clear he
    go_upto_region 12 with fail
    refine wp_region_held (S := fun X => X.cell? ⟨b1, o1, none⟩ = some (.string v1.nm) ∧ X.cell? ⟨b1, o1 + 1, none⟩ = some (.int .i64 v1.d) ∧ X.cell? ⟨b1, o1 + 2, none⟩ = some (.int .i64 v1.j) ∧ X.cell? ⟨b1, o1 + 3, none⟩ = some (.slice v1.A v1.L.length v1.c) ∧ X.cell? ⟨b1, o1 + 5, none⟩ = some (.int .i64 v1.x) ∧ X.cell? ⟨b1, o1 + 6, none⟩ = some (.int .i64 v1.y) ∧ X.cell? ⟨b1, o1 + 7, none⟩ = some (.int .i64 v1.err) ∧ X.cell? ⟨b1, o1 + 16, none⟩ = some (.string v3.nm) ∧ X.cell? ⟨b1, o1 + 17, none⟩ = some (.int .i64 v3.d) ∧ X.cell? ⟨b1, o1 + 18, none⟩ = some (.int .i64 v3.j) ∧ X.cell? ⟨b1, o1 + 19, none⟩ = some (.slice v3.A v3.L.length v3.c) ∧ X.cell? ⟨b1, o1 + 20, none⟩ = some (.int .i64 v3.line) ∧ X.cell? ⟨b1, o1 + 21, none⟩ = some (.int .i64 v3.x) ∧ X.cell? ⟨b1, o1 + 22, none⟩ = some (.int .i64 v3.y) ∧ X.cell? ⟨b1, o1 + 23, none⟩ = some (.int .i64 v3.err) ∧ X.cell? ⟨b2, o2, none⟩ = some (.string t1.nm) ∧ X.cell? ⟨b2, o2 + 1, none⟩ = some (.int .i64 t1.d) ∧ X.cell? ⟨b2, o2 + 2, none⟩ = some (.int .i64 t1.j) ∧ X.cell? ⟨b2, o2 + 3, none⟩ = some (.slice t1.A t1.L.length t1.c) ∧ X.cell? ⟨b2, o2 + 5, none⟩ = some (.int .i64 t1.x) ∧ X.cell? ⟨b2, o2 + 6, none⟩ = some (.int .i64 t1.y) ∧ X.cell? ⟨b2, o2 + 7, none⟩ = some (.int .i64 t1.err) ∧ X.cell? ⟨b2, o2 + 15, none⟩ = some (.int .i64 t2.err) ∧ X.cell? ⟨b2, o2 + 16, none⟩ = some (.string t3.nm) ∧ X.cell? ⟨b2, o2 + 17, none⟩ = some (.int .i64 t3.d) ∧ X.cell? ⟨b2, o2 + 18, none⟩ = some (.int .i64 t3.j) ∧ X.cell? ⟨b2, o2 + 19, none⟩ = some (.slice t3.A t3.L.length t3.c) ∧ X.cell? ⟨b2, o2 + 20, none⟩ = some (.int .i64 t3.line) ∧ X.cell? ⟨b2, o2 + 21, none⟩ = some (.int .i64 t3.x) ∧ X.cell? ⟨b2, o2 + 22, none⟩ = some (.int .i64 t3.y) ∧ X.cell? ⟨b2, o2 + 23, none⟩ = some (.int .i64 t3.err) ∧ X.cell? ⟨b3, o3, none⟩ = some (.string u1.nm) ∧ X.cell? ⟨b3, o3 + 1, none⟩ = some (.int .i64 u1.d) ∧ X.cell? ⟨b3, o3 + 2, none⟩ = some (.int .i64 u1.j) ∧ X.cell? ⟨b3, o3 + 3, none⟩ = some (.slice u1.A u1.L.length u1.c) ∧ X.cell? ⟨b3, o3 + 7, none⟩ = some (.int .i64 u1.err)) (by kernel_rfl) ?_
    change wpAnyH _ _ _ _ _ _ _ _ V3.drew
    obtain ⟨V0, hV0⟩ : ∃ V0, V0 = V3.drew := ⟨_, rfl⟩
    have J0 := hide (show Only NoBlk w6 V0 by rw [hV0]; exact J3.out.drew)
    have hHeld := HCl.out V0 J0.out
    rw [← hV0]
    simp only [List.size_toArray, List.length_cons, List.length_nil, Nat.zero_add, Nat.reduceAdd]
    clear hV0
    refine tk 0 ?_ rfl ?_ ?_
    rotate_left
    · (intro w9 hS9; (try simp only [ga]); go_simp <;> rfl)
    try simp only [Act.put, gp]
    refine tk 1 ?_ rfl ?_ ?_
    rotate_left
    · (intro w9 hS9; (try simp only [ga]); go_simp <;> rfl)
    try simp only [Act.put, gp]
    refine tk 2 ?_ rfl ?_ ?_
    rotate_left
    · (intro w9 hS9; (try simp only [ga]); go_simp <;> rfl)
    try simp only [Act.put, gp]
    refine tk 3 ?_ rfl ?_ ?_
    rotate_left
    · (intro w9 hS9; (try simp only [ga]); go_simp <;> rfl)
    try simp only [Act.put, gp]
    refine tk 4 ?_ rfl ?_ ?_
    rotate_left
    · (intro w9 hS9; (try simp only [ga]); go_simp <;> rfl)
    try simp only [Act.put, gp]
    refine tk 5 ?_ rfl ?_ ?_
    rotate_left
    · (intro w9 hS9; (try simp only [ga]); go_simp <;> rfl)
    try simp only [Act.put, gp]
    refine tk 6 ?_ rfl ?_ ?_
    rotate_left
    · (intro w9 hS9; (try simp only [ga]); go_simp <;> rfl)
    try simp only [Act.put, gp]
    refine tk 7 ?_ rfl ?_ ?_
    rotate_left
    · (intro w9 hS9; (try simp only [ga]); go_simp <;> rfl)
    try simp only [Act.put, gp]
    refine tk 8 ?_ rfl ?_ ?_
    rotate_left
    · (intro w9 hS9; (try simp only [ga]); go_simp <;> rfl)
    try simp only [Act.put, gp]
    refine tk 9 ?_ rfl ?_ ?_
    rotate_left
    · (intro w9 hS9; (try simp only [ga]); go_simp <;> rfl)
    try simp only [Act.put, gp]
    refine tk 10 ?_ rfl ?_ ?_
    rotate_left
    · (intro w9 hS9; (try simp only [ga]); go_simp <;> rfl)
    try simp only [Act.put, gp]
    refine tk 11 ?_ rfl ?_ ?_
    rotate_left
    · (intro w9 hS9; (try simp only [ga]); go_simp <;> rfl)
    try simp only [Act.put, gp]
    refine tk 12 ?_ rfl ?_ ?_
    rotate_left
    · (intro w9 hS9; (try simp only [ga]); go_simp <;> rfl)
    try simp only [Act.put, gp]
    refine tk 13 ?_ rfl ?_ ?_
    rotate_left
    · (intro w9 hS9; (try simp only [ga]); go_simp <;> rfl)
    try simp only [Act.put, gp]
    refine tk 14 ?_ rfl ?_ ?_
    rotate_left
    · (intro w9 hS9; (try simp only [ga]); go_simp <;> rfl)
    try simp only [Act.put, gp]
    refine tk 15 ?_ rfl ?_ ?_
    rotate_left
    · (intro w9 hS9; (try simp only [ga]); go_simp <;> rfl)
    try simp only [Act.put, gp]
    refine tk 16 ?_ rfl ?_ ?_
    rotate_left
    · (intro w9 hS9; (try simp only [ga]); go_simp <;> rfl)
    try simp only [Act.put, gp]
    refine tk 17 ?_ rfl ?_ ?_
    rotate_left
    · (intro w9 hS9; (try simp only [ga]); go_simp <;> rfl)
    try simp only [Act.put, gp]
    refine wpAnyH_take (i := 18) (v := undef) rfl (by kernel_rfl) (by kernel_rfl) (by kernel_rfl) (fun _ _ _ h => h) (Or.inr ⟨by rfl, rfl⟩) (by assumption) ?_
    try simp only [Act.put, gp]
    refine wpAnyH_take (i := 19) (v := undef) rfl (by kernel_rfl) (by kernel_rfl) (by kernel_rfl) (fun _ _ _ h => h) (Or.inr ⟨by rfl, rfl⟩) (by assumption) ?_
    try simp only [Act.put, gp]
    refine wpAnyH_take (i := 20) (v := undef) rfl (by kernel_rfl) (by kernel_rfl) (by kernel_rfl) (fun _ _ _ h => h) (Or.inr ⟨by rfl, rfl⟩) (by assumption) ?_
    try simp only [Act.put, gp]
    refine wpAnyH_take (i := 21) (v := undef) rfl (by kernel_rfl) (by kernel_rfl) (by kernel_rfl) (fun _ _ _ h => h) (Or.inr ⟨by rfl, rfl⟩) (by assumption) ?_
    try simp only [Act.put, gp]
    refine wpAnyH_take (i := 22) (v := undef) rfl (by kernel_rfl) (by kernel_rfl) (by kernel_rfl) (fun _ _ _ h => h) (Or.inr ⟨by rfl, rfl⟩) (by assumption) ?_
    try simp only [Act.put, gp]
    refine wpAnyH_take (i := 23) (v := undef) rfl (by kernel_rfl) (by kernel_rfl) (by kernel_rfl) (fun _ _ _ h => h) (Or.inr ⟨by rfl, rfl⟩) (by assumption) ?_
    try simp only [Act.put, gp]
    refine wpAnyH_take (i := 24) (v := undef) rfl (by kernel_rfl) (by kernel_rfl) (by kernel_rfl) (fun _ _ _ h => h) (Or.inr ⟨by rfl, rfl⟩) (by assumption) ?_
    try simp only [Act.put, gp]
    refine wpAnyH_take (i := 25) (v := undef) rfl (by kernel_rfl) (by kernel_rfl) (by kernel_rfl) (fun _ _ _ h => h) (Or.inr ⟨by rfl, rfl⟩) (by assumption) ?_
    try simp only [Act.put, gp]
    refine wpAnyH_take (i := 26) (v := undef) rfl (by kernel_rfl) (by kernel_rfl) (by kernel_rfl) (fun _ _ _ h => h) (Or.inr ⟨by rfl, rfl⟩) (by assumption) ?_
    try simp only [Act.put, gp]
    refine wpAnyH_take (i := 27) (v := undef) rfl (by kernel_rfl) (by kernel_rfl) (by kernel_rfl) (fun _ _ _ h => h) (Or.inr ⟨by rfl, rfl⟩) (by assumption) ?_
    try simp only [Act.put, gp]
    refine wpAnyH_take (i := 28) (v := undef) rfl (by kernel_rfl) (by kernel_rfl) (by kernel_rfl) (fun _ _ _ h => h) (Or.inr ⟨by rfl, rfl⟩) (by assumption) ?_
    try simp only [Act.put, gp]
    refine wpAnyH_take (i := 29) (v := undef) rfl (by kernel_rfl) (by kernel_rfl) (by kernel_rfl) (fun _ _ _ h => h) (Or.inr ⟨by rfl, rfl⟩) (by assumption) ?_
    try simp only [Act.put, gp]
    refine wpAnyH_take (i := 30) (v := undef) rfl (by kernel_rfl) (by kernel_rfl) (by kernel_rfl) (fun _ _ _ h => h) (Or.inr ⟨by rfl, rfl⟩) (by assumption) ?_
    try simp only [Act.put, gp]
    refine wpAnyH_take (i := 31) (v := undef) rfl (by kernel_rfl) (by kernel_rfl) (by kernel_rfl) (fun _ _ _ h => h) (Or.inr ⟨by rfl, rfl⟩) (by assumption) ?_
    try simp only [Act.put, gp]
    refine wpAnyH_take (i := 32) (v := undef) rfl (by kernel_rfl) (by kernel_rfl) (by kernel_rfl) (fun _ _ _ h => h) (Or.inr ⟨by rfl, rfl⟩) (by assumption) ?_
    try simp only [Act.put, gp]
    refine wpAnyH_take (i := 33) (v := undef) rfl (by kernel_rfl) (by kernel_rfl) (by kernel_rfl) (fun _ _ _ h => h) (Or.inr ⟨by rfl, rfl⟩) (by assumption) ?_
    try simp only [Act.put, gp]
    refine wpAnyH_take (i := 34) (v := undef) rfl (by kernel_rfl) (by kernel_rfl) (by kernel_rfl) (fun _ _ _ h => h) (Or.inr ⟨by rfl, rfl⟩) (by assumption) ?_
    try simp only [Act.put, gp]
    refine wpAnyH_take (i := 35) (v := undef) rfl (by kernel_rfl) (by kernel_rfl) (by kernel_rfl) (fun _ _ _ h => h) (Or.inr ⟨by rfl, rfl⟩) (by assumption) ?_
    try simp only [Act.put, gp]
    refine wpAnyH_take (i := 36) (v := undef) rfl (by kernel_rfl) (by kernel_rfl) (by kernel_rfl) (fun _ _ _ h => h) (Or.inr ⟨by rfl, rfl⟩) (by assumption) ?_
    try simp only [Act.put, gp]
    refine wpAnyH_take (i := 37) (v := undef) rfl (by kernel_rfl) (by kernel_rfl) (by kernel_rfl) (fun _ _ _ h => h) (Or.inr ⟨by rfl, rfl⟩) (by assumption) ?_
    try simp only [Act.put, gp]
    refine wpAnyH_take (i := 38) (v := undef) rfl (by kernel_rfl) (by kernel_rfl) (by kernel_rfl) (fun _ _ _ h => h) (Or.inr ⟨by rfl, rfl⟩) (by assumption) ?_
    try simp only [Act.put, gp]
    refine tk 39 ?_ rfl ?_ ?_
    rotate_left
    · (intro w9 hS9; (try simp only [ga]); go_simp <;> rfl)
    try simp only [Act.put, gp]
    refine tk 40 ?_ rfl ?_ ?_
    rotate_left
    · (intro w9 hS9; (try simp only [ga]); go_simp <;> rfl)
    try simp only [Act.put, gp]
    refine tk 41 ?_ rfl ?_ ?_
    rotate_left
    · (intro w9 hS9; (try simp only [ga]); go_simp <;> rfl)
    try simp only [Act.put, gp]
    refine rdy 42 rfl (fun K hK => ?_)
    try simp only [ga]
    try go_simp
    refine (HLv.out _ (K6.out.trans J0.out)).mono ?_
    rintro e V4 ⟨rfl, k4⟩
    have K7 := hide (K6.out.trans (J0.out.trans k4))
    refine hK.out _ _ (HCl.out V4 (J0.out.trans k4)) (fun hHeld => ?_)
    clear hK K k4
    try simp only [Act.put, gp]
    refine tk 43 ?_ rfl ?_ ?_
    rotate_left
    · (intro w9 hS9; (try simp only [ga]); go_simp <;> rfl)
    try simp only [Act.put, gp]
    refine tk 44 ?_ rfl ?_ ?_
    rotate_left
    · (intro w9 hS9; (try simp only [ga]); go_simp <;> rfl)
    try simp only [Act.put, gp]
    refine wpAnyH_done (by kernel_rfl) ?_ _
    try simp only [Exit.then]
    clear hHeld
    go_wp2_with fail
    go_ret
    exact ⟨rfl, K7.out⟩
  case neg =>
    have r10 : (v3.err == 0) = false := beq_eq_false_iff_ne.2 he
    have r11 : (IntKind.i64.wrap (v3.x - v3.line) == IntKind.i64.wrap (t3.x - t3.line)) = true := by
      rcases X7.out with h | h
      · exact absurd h he
      · rw [h]; simp
    clear he
    go_upto_region 12 with fail
    refine wp_region_held (S := fun X => X.cell? ⟨b1, o1, none⟩ = some (.string v1.nm) ∧ X.cell? ⟨b1, o1 + 1, none⟩ = some (.int .i64 v1.d) ∧ X.cell? ⟨b1, o1 + 2, none⟩ = some (.int .i64 v1.j) ∧ X.cell? ⟨b1, o1 + 3, none⟩ = some (.slice v1.A v1.L.length v1.c) ∧ X.cell? ⟨b1, o1 + 5, none⟩ = some (.int .i64 v1.x) ∧ X.cell? ⟨b1, o1 + 6, none⟩ = some (.int .i64 v1.y) ∧ X.cell? ⟨b1, o1 + 7, none⟩ = some (.int .i64 v1.err) ∧ X.cell? ⟨b1, o1 + 16, none⟩ = some (.string v3.nm) ∧ X.cell? ⟨b1, o1 + 17, none⟩ = some (.int .i64 v3.d) ∧ X.cell? ⟨b1, o1 + 18, none⟩ = some (.int .i64 v3.j) ∧ X.cell? ⟨b1, o1 + 19, none⟩ = some (.slice v3.A v3.L.length v3.c) ∧ X.cell? ⟨b1, o1 + 20, none⟩ = some (.int .i64 v3.line) ∧ X.cell? ⟨b1, o1 + 21, none⟩ = some (.int .i64 v3.x) ∧ X.cell? ⟨b1, o1 + 22, none⟩ = some (.int .i64 v3.y) ∧ X.cell? ⟨b1, o1 + 23, none⟩ = some (.int .i64 v3.err) ∧ X.cell? ⟨b2, o2, none⟩ = some (.string t1.nm) ∧ X.cell? ⟨b2, o2 + 1, none⟩ = some (.int .i64 t1.d) ∧ X.cell? ⟨b2, o2 + 2, none⟩ = some (.int .i64 t1.j) ∧ X.cell? ⟨b2, o2 + 3, none⟩ = some (.slice t1.A t1.L.length t1.c) ∧ X.cell? ⟨b2, o2 + 5, none⟩ = some (.int .i64 t1.x) ∧ X.cell? ⟨b2, o2 + 6, none⟩ = some (.int .i64 t1.y) ∧ X.cell? ⟨b2, o2 + 7, none⟩ = some (.int .i64 t1.err) ∧ X.cell? ⟨b2, o2 + 15, none⟩ = some (.int .i64 t2.err) ∧ X.cell? ⟨b2, o2 + 16, none⟩ = some (.string t3.nm) ∧ X.cell? ⟨b2, o2 + 17, none⟩ = some (.int .i64 t3.d) ∧ X.cell? ⟨b2, o2 + 18, none⟩ = some (.int .i64 t3.j) ∧ X.cell? ⟨b2, o2 + 19, none⟩ = some (.slice t3.A t3.L.length t3.c) ∧ X.cell? ⟨b2, o2 + 20, none⟩ = some (.int .i64 t3.line) ∧ X.cell? ⟨b2, o2 + 21, none⟩ = some (.int .i64 t3.x) ∧ X.cell? ⟨b2, o2 + 22, none⟩ = some (.int .i64 t3.y) ∧ X.cell? ⟨b2, o2 + 23, none⟩ = some (.int .i64 t3.err) ∧ X.cell? ⟨b3, o3, none⟩ = some (.string u1.nm) ∧ X.cell? ⟨b3, o3 + 1, none⟩ = some (.int .i64 u1.d) ∧ X.cell? ⟨b3, o3 + 2, none⟩ = some (.int .i64 u1.j) ∧ X.cell? ⟨b3, o3 + 3, none⟩ = some (.slice u1.A u1.L.length u1.c) ∧ X.cell? ⟨b3, o3 + 7, none⟩ = some (.int .i64 u1.err)) (by kernel_rfl) ?_
    change wpAnyH _ _ _ _ _ _ _ _ V3.drew
    obtain ⟨V0, hV0⟩ : ∃ V0, V0 = V3.drew := ⟨_, rfl⟩
    have J0 := hide (show Only NoBlk w6 V0 by rw [hV0]; exact J3.out.drew)
    have hHeld := HCl.out V0 J0.out
    rw [← hV0]
    simp only [List.size_toArray, List.length_cons, List.length_nil, Nat.zero_add, Nat.reduceAdd]
    clear hV0
    refine tk 0 ?_ rfl ?_ ?_
    rotate_left
    · (intro w9 hS9; (try simp only [ga]); go_simp <;> rfl)
    try simp only [Act.put, gp]
    refine tk 1 ?_ rfl ?_ ?_
    rotate_left
    · (intro w9 hS9; (try simp only [ga]); go_simp <;> rfl)
    try simp only [Act.put, gp]
    refine tk 2 ?_ rfl ?_ ?_
    rotate_left
    · (intro w9 hS9; (try simp only [ga]); go_simp <;> rfl)
    try simp only [Act.put, gp]
    refine tk 3 ?_ rfl ?_ ?_
    rotate_left
    · (intro w9 hS9; (try simp only [ga]); go_simp <;> rfl)
    try simp only [Act.put, gp]
    refine tk 4 ?_ rfl ?_ ?_
    rotate_left
    · (intro w9 hS9; (try simp only [ga]); go_simp <;> rfl)
    try simp only [Act.put, gp]
    refine tk 5 ?_ rfl ?_ ?_
    rotate_left
    · (intro w9 hS9; (try simp only [ga]); go_simp <;> rfl)
    try simp only [Act.put, gp]
    refine tk 6 ?_ rfl ?_ ?_
    rotate_left
    · (intro w9 hS9; (try simp only [ga]); go_simp <;> rfl)
    try simp only [Act.put, gp]
    refine tk 7 ?_ rfl ?_ ?_
    rotate_left
    · (intro w9 hS9; (try simp only [ga]); go_simp <;> rfl)
    try simp only [Act.put, gp]
    refine tk 8 ?_ rfl ?_ ?_
    rotate_left
    · (intro w9 hS9; (try simp only [ga]); go_simp <;> rfl)
    try simp only [Act.put, gp]
    refine tk 9 ?_ rfl ?_ ?_
    rotate_left
    · (intro w9 hS9; (try simp only [ga]); go_simp <;> rfl)
    try simp only [Act.put, gp]
    refine tk 10 ?_ rfl ?_ ?_
    rotate_left
    · (intro w9 hS9; (try simp only [ga]); go_simp <;> rfl)
    try simp only [Act.put, gp]
    refine tk 11 ?_ rfl ?_ ?_
    rotate_left
    · (intro w9 hS9; (try simp only [ga]); go_simp <;> rfl)
    try simp only [Act.put, gp]
    refine tk 12 ?_ rfl ?_ ?_
    rotate_left
    · (intro w9 hS9; (try simp only [ga]); go_simp <;> rfl)
    try simp only [Act.put, gp]
    refine tk 13 ?_ rfl ?_ ?_
    rotate_left
    · (intro w9 hS9; (try simp only [ga]); go_simp <;> rfl)
    try simp only [Act.put, gp]
    refine tk 14 ?_ rfl ?_ ?_
    rotate_left
    · (intro w9 hS9; (try simp only [ga]); go_simp <;> rfl)
    try simp only [Act.put, gp]
    refine tk 15 ?_ rfl ?_ ?_
    rotate_left
    · (intro w9 hS9; (try simp only [ga]); go_simp <;> rfl)
    try simp only [Act.put, gp]
    refine tk 16 ?_ rfl ?_ ?_
    rotate_left
    · (intro w9 hS9; (try simp only [ga]); go_simp <;> rfl)
    try simp only [Act.put, gp]
    refine tk 17 ?_ rfl ?_ ?_
    rotate_left
    · (intro w9 hS9; (try simp only [ga]); go_simp <;> rfl)
    try simp only [Act.put, gp]
    refine tk 18 ?_ rfl ?_ ?_
    rotate_left
    · (intro w9 hS9; (try simp only [ga]); go_simp <;> rfl)
    try simp only [Act.put, gp]
    refine tk 19 ?_ rfl ?_ ?_
    rotate_left
    · (intro w9 hS9; (try simp only [ga]); go_simp <;> rfl)
    try simp only [Act.put, gp]
    refine tk 20 ?_ rfl ?_ ?_
    rotate_left
    · (intro w9 hS9; (try simp only [ga]); go_simp <;> rfl)
    try simp only [Act.put, gp]
    refine tk 21 ?_ rfl ?_ ?_
    rotate_left
    · (intro w9 hS9; (try simp only [ga]); go_simp <;> rfl)
    try simp only [Act.put, gp]
    refine tk 22 ?_ rfl ?_ ?_
    rotate_left
    · (intro w9 hS9; (try simp only [ga]); go_simp <;> rfl)
    try simp only [Act.put, gp]
    refine tk 23 ?_ rfl ?_ ?_
    rotate_left
    · (intro w9 hS9; (try simp only [ga]); go_simp <;> rfl)
    try simp only [Act.put, gp]
    refine tk 24 ?_ rfl ?_ ?_
    rotate_left
    · (intro w9 hS9; (try simp only [ga]); go_simp <;> rfl)
    try simp only [Act.put, gp]
    refine tk 25 ?_ rfl ?_ ?_
    rotate_left
    · (intro w9 hS9; (try simp only [ga]); go_simp <;> rfl)
    try simp only [Act.put, gp]
    refine tk 26 ?_ rfl ?_ ?_
    rotate_left
    · (intro w9 hS9; (try simp only [ga]); go_simp <;> rfl)
    try simp only [Act.put, gp]
    refine tk 27 ?_ rfl ?_ ?_
    rotate_left
    · (intro w9 hS9; (try simp only [ga]); go_simp <;> rfl)
    try simp only [Act.put, gp]
    refine tk 28 ?_ rfl ?_ ?_
    rotate_left
    · (intro w9 hS9; (try simp only [ga]); go_simp <;> rfl)
    try simp only [Act.put, gp]
    refine tk 29 ?_ rfl ?_ ?_
    rotate_left
    · (intro w9 hS9; (try simp only [ga]); go_simp <;> rfl)
    try simp only [Act.put, gp]
    refine tk 30 ?_ rfl ?_ ?_
    rotate_left
    · (intro w9 hS9; (try simp only [ga]); go_simp <;> rfl)
    try simp only [Act.put, gp]
    refine tk 31 ?_ rfl ?_ ?_
    rotate_left
    · (intro w9 hS9; (try simp only [ga]); go_simp <;> rfl)
    try simp only [Act.put, gp]
    refine tk 32 ?_ rfl ?_ ?_
    rotate_left
    · (intro w9 hS9; (try simp only [ga]); go_simp <;> rfl)
    try simp only [Act.put, gp]
    refine tk 33 ?_ rfl ?_ ?_
    rotate_left
    · (intro w9 hS9; (try simp only [ga]); go_simp <;> rfl)
    try simp only [Act.put, gp]
    refine tk 34 ?_ rfl ?_ ?_
    rotate_left
    · (intro w9 hS9; (try simp only [ga]); go_simp <;> rfl)
    try simp only [Act.put, gp]
    refine tk 35 ?_ rfl ?_ ?_
    rotate_left
    · (intro w9 hS9; (try simp only [ga]); go_simp <;> rfl)
    try simp only [Act.put, gp]
    refine tk 36 ?_ rfl ?_ ?_
    rotate_left
    · (intro w9 hS9; (try simp only [ga]); go_simp <;> rfl)
    try simp only [Act.put, gp]
    refine tk 37 ?_ rfl ?_ ?_
    rotate_left
    · (intro w9 hS9; (try simp only [ga]); go_simp <;> rfl)
    try simp only [Act.put, gp]
    refine tk 38 ?_ rfl ?_ ?_
    rotate_left
    · (intro w9 hS9; (try simp only [ga]); go_simp <;> rfl)
    try simp only [Act.put, gp]
    refine tk 39 ?_ rfl ?_ ?_
    rotate_left
    · (intro w9 hS9; (try simp only [ga]); go_simp <;> rfl)
    try simp only [Act.put, gp]
    refine tk 40 ?_ rfl ?_ ?_
    rotate_left
    · (intro w9 hS9; (try simp only [ga]); go_simp <;> rfl)
    try simp only [Act.put, gp]
    refine tk 41 ?_ rfl ?_ ?_
    rotate_left
    · (intro w9 hS9; (try simp only [ga]); go_simp <;> rfl)
    try simp only [Act.put, gp]
    refine rdy 42 rfl (fun K hK => ?_)
    try simp only [ga]
    try go_simp
    refine (HLv.out _ (K6.out.trans J0.out)).mono ?_
    rintro e V4 ⟨rfl, k4⟩
    have K7 := hide (K6.out.trans (J0.out.trans k4))
    refine hK.out _ _ (HCl.out V4 (J0.out.trans k4)) (fun hHeld => ?_)
    clear hK K k4
    try simp only [Act.put, gp]
    refine tk 43 ?_ rfl ?_ ?_
    rotate_left
    · (intro w9 hS9; (try simp only [ga]); go_simp <;> rfl)
    try simp only [Act.put, gp]
    refine tk 44 ?_ rfl ?_ ?_
    rotate_left
    · (intro w9 hS9; (try simp only [ga]); go_simp <;> rfl)
    try simp only [Act.put, gp]
    refine wpAnyH_done (by kernel_rfl) ?_ _
    try simp only [Exit.then]
    clear hHeld
    go_wp2_with fail
    go_ret
    exact ⟨rfl, K7.out⟩
end Go.Proofs.YtaioaojfdngfdaaGreatDoor
