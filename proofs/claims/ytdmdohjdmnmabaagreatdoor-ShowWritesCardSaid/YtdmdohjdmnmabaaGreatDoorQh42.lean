/- Scripts written, by the document. Conditions: those of each theorem. -/
import Derived.Test.YtdmdohjdmnmabaaGreatDoorQh39
import Derived.Test.YtdmdohjdmnmabaaGreatDoorQh41
import Derived.Deep.RegionHeld3
namespace Go.Proofs.YtdmdohjdmnmabaaGreatDoor
open Go.RowKit Go.Sort
set_option linter.unusedVariables false
set_option linter.unusedSimpArgs false

theorem head_bytes (nm : List UInt8) (d : Int) (N : Nat) (ops : List OpM) : headT ⟨bs nm, d, N, ops⟩ = [115, 99, 114, 105, 112, 116, 32] ++ nm ++ [32] ++ tkT d ++ [32] ++ Lib.decDigits N ++ [10] := by
 show lineT [[115, 99, 114, 105, 112, 116], nm, tkT d, Lib.itoa (N : Int)] = _
 rw [itoa_nn (by omega), Int.toNat_natCast]
 unfold lineT wordsT
 simp
set_option maxRecDepth 100000 in
set_option maxHeartbeats 25600000 in
theorem refProgS_c (s : ByteArray) (d j : Int) (PA : Option Addr) (pc : Nat) (L : List OpV) (w : World) (hr : OpsRd w NoBlk PA L) (hgd : goodM (progM s d j L) = true) :
 Calls Tryz.prog 14 #[.agg #[.string s, .int .i64 d, .int .i64 j, .slice PA L.length pc]] w fun e w' => e = .returned (.string (bs (progD (progM s d j L)))) ∧ Below w.heap.size w w' := by
 obtain ⟨hd, hj0, hj1, hm2, hs2, hall⟩ := prog_good hgd
 obtain ⟨nm, rfl⟩ : ∃ nm : List UInt8, s = bs nm := ⟨s.data.toList, rfl⟩
 obtain ⟨N, rfl⟩ : ∃ N : Nat, j = (N : Int) := ⟨j.toNat, by omega⟩
 obtain ⟨P, hP⟩ : ∃ P, P = progM (bs nm) d N L := ⟨_, rfl⟩
 rw [← hP] at hgd ⊢
 have hhl := head_len hgd
 obtain ⟨TD, hTD⟩ : ∃ TD, TD = tkT d := ⟨_, rfl⟩
 obtain ⟨JD, hJD⟩ : ∃ JD, JD = Lib.decDigits N := ⟨_, rfl⟩
 have hhb : headT P = [115, 99, 114, 105, 112, 116, 32] ++ nm ++ [32] ++ TD ++ [32] ++ JD ++ [10] := by rw [hP, hTD, hJD]; exact head_bytes nm d N _
 have hln : nm.length + TD.length + JD.length ≤ 100 := by
  rw [hhb] at hhl
  simp only [List.length_append, List.length_cons, List.length_nil] at hhl
  omega
 obtain ⟨W, hW⟩ : ∃ W, W = w.alloc (.cells #[.string (bs nm), .int .i64 d, .int .i64 N, .slice PA L.length pc] 24) := ⟨_, rfl⟩
 obtain ⟨g, hg⟩ : ∃ g, g = w.heap.size := ⟨_, rfl⟩
 have HB := hide (show Below g w W by rw [hW, hg]; exact below_alloc _ _)
 have HG := hide (show Blk W g 24 #[.string (bs nm), .int .i64 d, .int .i64 N, .slice PA L.length pc] by rw [hW, hg]; exact Blk.new _ _ _)
 have HRo := hide (fun (w' : World) (kk : Below g w w') (i : Nat) (hi : i < L.length) => op_cells (hr.bel hg kk).1 i hi)
 have HOp := hide (fun (w' : World) (kk : Below g w w') (i : Nat) (hi : i < L.length) => refOpS_c (opAt L i).o.kind (opAt L i).o.text (opAt L i).o.n (opAt L i).o.to (opAt L i).A (opAt L i).o.arms (opAt L i).c (opAt L i).o.onT (opAt L i).o.onE w' ((hr.bel hg kk).2 _ (opAt_mem hi)) (hall _ (opAt_mem hi)))
 have HTg := hide (fun (w' : World) (kk : Below g w w') => refTargets_c (bs nm) d N PA pc L w' (hr.bel hg kk) (by omega) (fun v hv => (hall v hv).arms))
 have HTx := hide (fun (w' : World) => refText_c d w' hd.2)
 have HDg := hide (fun (w' : World) => Digits_c N w' (by omega))
 rw [← hJD] at HDg
 obtain ⟨T, hT⟩ : ∃ T, T = tgts (L.map (·.o)) := ⟨_, rfl⟩
 have HTl := hide (show T.length ≤ 20400 by
  have h1 := tgts_len (L.map (·.o))
  have h2 := jmps_len (l := L.map (·.o)) (fun o ho => by
   obtain ⟨v, hv, rfl⟩ := List.mem_map.1 ho
   exact (hall v hv).arms)
  rw [List.length_map] at h2
  rw [hT]; omega)
 have hPo : P.ops = L.map (·.o) := by rw [hP]; rfl
 have hdoc : ∀ o ∈ L.map (·.o), opD o = opT o := fun o ho => (opT_doc (good_op hgd o (by rw [hPo]; exact ho))).symm
 have hwr : ∀ o ∈ L.map (·.o), OpW o := fun o ho => by
  obtain ⟨v, hv, rfl⟩ := List.mem_map.1 ho
  exact hall v hv
 obtain ⟨Bf, hBf⟩ : ∃ Bf : Nat → List UInt8, Bf = fun q => headT P ++ bodyT opD T (L.map (·.o)) q := ⟨_, rfl⟩
 have HB0 := hide (show Bf 0 = [115, 99, 114, 105, 112, 116, 32] ++ nm ++ [32] ++ TD ++ [32] ++ JD ++ [10] by rw [hBf, ← hhb]; simp [bodyT])
 have HBs := hide (show ∀ q, Bf (q + 1) = Bf q ++ ((if (q : Int) ∈ T then lbT q else []) ++ atT opD (L.map (·.o)) q) from fun q => by rw [hBf]; show headT P ++ (bodyT opD T (L.map (·.o)) q ++ stepT opD T (L.map (·.o)) q) = _; rw [← List.append_assoc]; rfl)
 have HBl := hide (show ∀ q, q ≤ 1000 → (Bf q).length ≤ 100 + 1000040 * q from fun q hq => by
  have h1 := body_len (ops := L.map (·.o)) T hwr q (by omega)
  have e : Bf q = headT P ++ bodyT opT T (L.map (·.o)) q := by rw [hBf]; show headT P ++ bodyT opD T (L.map (·.o)) q = _; rw [body_congr T hdoc]
  rw [e, List.length_append]; omega)
 have HBe := hide (show progD P = Bf (L.length + 1) by rw [hBf]; unfold progD; rw [hPo, ← hT, List.length_map])
 have HAt := hide (fun (q : Nat) (hq : q < L.length) => atT_at opD L q hq)
 have HAe := hide (show atT opD (L.map (·.o)) L.length = [] from atT_end opD L)
 have HOl := hide (show ∀ q, q < L.length → (opD (opAt L q).o).length ≤ 1000000 from fun q hq => by
  have hm : (opAt L q).o ∈ L.map (·.o) := List.mem_map.2 ⟨_, opAt_mem hq, rfl⟩
  rw [hdoc _ hm]; exact op_len (hwr _ hm))
 obtain ⟨m, hm⟩ : ∃ m, m = L.length := ⟨_, rfl⟩
 rw [← hT] at HTg
 rw [← hm] at hm2 HG hW HRo HOp HTg HBe HAt HAe HOl ⊢
 rw [← hg]
 have HW := hide hW
 have Hg := hide hg
 have c0 : W.cell? ⟨g, 0, none⟩ = some (.string (bs nm)) := by rw [HG.out.cell]; rfl
 have c1 : W.cell? ⟨g, 1, none⟩ = some (.int .i64 d) := by rw [HG.out.cell]; rfl
 have c2 : W.cell? ⟨g, 2, none⟩ = some (.int .i64 N) := by rw [HG.out.cell]; rfl
 have c3 : W.cell? ⟨g, 3, none⟩ = some (.slice PA m pc) := by rw [HG.out.cell]; rfl
 have HTt := hide (show ∀ w', Calls Tryz.prog 35 #[.int .i64 d] w' fun e w2 => e = .returned (.string (bs TD)) ∧ w2 = w' from fun w' => by rw [hTD]; exact HTx.out w')
 clear hr hgd hW hg hm hT hBf hall hhl hhb hTD hJD hP hPo hdoc hwr hj0 hj1 hs2 HTx hd
 go_enter Tryz.func14, Tryz.ntmps14
 go_upto_region 1 with fail
 change Code.wp _ _ _ _ (w.alloc (.cells #[.string (bs nm), .int .i64 d, .int .i64 N, .slice PA m pc] 24))
 rw [← HW.out, ← Hg.out]
 obtain ⟨V0, hV0⟩ : ∃ V9, V9 = W.drew := ⟨_, rfl⟩
 have HB1 := hide (show Below g w V0 by rw [hV0]; exact HB.out.drew)
 have HG1 := hide (show Blk V0 g 24 #[.string (bs nm), .int .i64 d, .int .i64 N, .slice PA m pc] by rw [hV0]; exact HG.out.drew)
 have z0 : ((⟨#[115, 99, 114, 105, 112, 116, 32]⟩ : ByteArray)).size + (bs (nm)).size ≤ 9223372036854775807 := by simp only [ByteArray.size_append, bs_size, (show (⟨#[115, 99, 114, 105, 112, 116, 32]⟩ : ByteArray).size = 7 from rfl), (show (⟨#[32]⟩ : ByteArray).size = 1 from rfl), (show (⟨#[10]⟩ : ByteArray).size = 1 from rfl)]; omega
 have nz0 : (9223372036854775807 < 7 + (nm).length) = False := by simp; omega
 have z1 : ((⟨#[115, 99, 114, 105, 112, 116, 32]⟩ : ByteArray) ++ bs (nm)).size + ((⟨#[32]⟩ : ByteArray)).size ≤ 9223372036854775807 := by simp only [ByteArray.size_append, bs_size, (show (⟨#[115, 99, 114, 105, 112, 116, 32]⟩ : ByteArray).size = 7 from rfl), (show (⟨#[32]⟩ : ByteArray).size = 1 from rfl), (show (⟨#[10]⟩ : ByteArray).size = 1 from rfl)]; omega
 have nz1 : (9223372036854775807 < 7 + (nm).length + 1) = False := by simp; omega
 have z2 : ((⟨#[115, 99, 114, 105, 112, 116, 32]⟩ : ByteArray) ++ bs (nm) ++ (⟨#[32]⟩ : ByteArray)).size + (bs (TD)).size ≤ 9223372036854775807 := by simp only [ByteArray.size_append, bs_size, (show (⟨#[115, 99, 114, 105, 112, 116, 32]⟩ : ByteArray).size = 7 from rfl), (show (⟨#[32]⟩ : ByteArray).size = 1 from rfl), (show (⟨#[10]⟩ : ByteArray).size = 1 from rfl)]; omega
 have nz2 : (9223372036854775807 < 7 + (nm).length + 1 + (TD).length) = False := by simp; omega
 have z3 : ((⟨#[115, 99, 114, 105, 112, 116, 32]⟩ : ByteArray) ++ bs (nm) ++ (⟨#[32]⟩ : ByteArray) ++ bs (TD)).size + ((⟨#[32]⟩ : ByteArray)).size ≤ 9223372036854775807 := by simp only [ByteArray.size_append, bs_size, (show (⟨#[115, 99, 114, 105, 112, 116, 32]⟩ : ByteArray).size = 7 from rfl), (show (⟨#[32]⟩ : ByteArray).size = 1 from rfl), (show (⟨#[10]⟩ : ByteArray).size = 1 from rfl)]; omega
 have nz3 : (9223372036854775807 < 7 + (nm).length + 1 + (TD).length + 1) = False := by simp; omega
 have z4 : ((⟨#[115, 99, 114, 105, 112, 116, 32]⟩ : ByteArray) ++ bs (nm) ++ (⟨#[32]⟩ : ByteArray) ++ bs (TD) ++ (⟨#[32]⟩ : ByteArray)).size + (bs (JD)).size ≤ 9223372036854775807 := by simp only [ByteArray.size_append, bs_size, (show (⟨#[115, 99, 114, 105, 112, 116, 32]⟩ : ByteArray).size = 7 from rfl), (show (⟨#[32]⟩ : ByteArray).size = 1 from rfl), (show (⟨#[10]⟩ : ByteArray).size = 1 from rfl)]; omega
 have nz4 : (9223372036854775807 < 7 + (nm).length + 1 + (TD).length + 1 + (JD).length) = False := by simp; omega
 have z5 : ((⟨#[115, 99, 114, 105, 112, 116, 32]⟩ : ByteArray) ++ bs (nm) ++ (⟨#[32]⟩ : ByteArray) ++ bs (TD) ++ (⟨#[32]⟩ : ByteArray) ++ bs (JD)).size + ((⟨#[10]⟩ : ByteArray)).size ≤ 9223372036854775807 := by simp only [ByteArray.size_append, bs_size, (show (⟨#[115, 99, 114, 105, 112, 116, 32]⟩ : ByteArray).size = 7 from rfl), (show (⟨#[32]⟩ : ByteArray).size = 1 from rfl), (show (⟨#[10]⟩ : ByteArray).size = 1 from rfl)]; omega
 have nz5 : (9223372036854775807 < 7 + (nm).length + 1 + (TD).length + 1 + (JD).length + 1) = False := by simp; omega
 have HF := hide (show (⟨#[115, 99, 114, 105, 112, 116, 32]⟩ : ByteArray) ++ bs (nm) ++ (⟨#[32]⟩ : ByteArray) ++ bs (TD) ++ (⟨#[32]⟩ : ByteArray) ++ bs (JD) ++ (⟨#[10]⟩ : ByteArray) = bs ([115, 99, 114, 105, 112, 116, 32] ++ nm ++ [32] ++ TD ++ [32] ++ JD ++ [10]) by show bs [115, 99, 114, 105, 112, 116, 32] ++ bs (nm) ++ bs [32] ++ bs (TD) ++ bs [32] ++ bs (JD) ++ bs [10] = _; simp only [bs_append]; try (congr 1; simp [List.append_assoc]))
 rw [← HB0.out] at HF
 refine wp_region_held (S := fun w' => w'.cell? ⟨g, 0, none⟩ = some (.string (bs nm)) ∧ w'.cell? ⟨g, 1, none⟩ = some (.int .i64 d) ∧ w'.cell? ⟨g, 2, none⟩ = some (.int .i64 N) ∧ w'.cell? ⟨g, 3, none⟩ = some (.slice PA m pc)) (by kernel_rfl) ?_
 change wpAnyH _ _ _ _ _ _ _ _ W.drew
 have hHeld : (fun w' => w'.cell? ⟨g, 0, none⟩ = some (.string (bs nm)) ∧ w'.cell? ⟨g, 1, none⟩ = some (.int .i64 d) ∧ w'.cell? ⟨g, 2, none⟩ = some (.int .i64 N) ∧ w'.cell? ⟨g, 3, none⟩ = some (.slice PA m pc)) W.drew := ⟨c0, c1, c2, c3⟩
 rw [← hV0] at hHeld ⊢
 simp only [List.size_toArray, List.length_cons, List.length_nil, Nat.zero_add, Nat.reduceAdd]
 clear hV0
 refine wpAnyH_take (i := 0) (v := ?_) rfl (by kernel_rfl) (by kernel_rfl) (by kernel_rfl) (fun _ _ _ h => h) (Or.inl ⟨by rfl, ?_⟩) (by assumption) ?_
 rotate_left
 ·(intro w9 hS9; (try simp only [List.getElem_toArray, List.getElem_cons_zero, List.getElem_cons_succ]); go_simp <;> rfl)
 try simp only [Act.put, List.setIfInBounds_toArray, List.set_cons_zero, List.set_cons_succ, List.getElem_toArray, List.getElem_cons_zero, List.getElem_cons_succ]
 refine wpAnyH_take (i := 1) (v := ?_) rfl (by kernel_rfl) (by kernel_rfl) (by kernel_rfl) (fun _ _ _ h => h) (Or.inl ⟨by rfl, ?_⟩) (by assumption) ?_
 rotate_left
 ·(intro w9 hS9; (try simp only [List.getElem_toArray, List.getElem_cons_zero, List.getElem_cons_succ]); go_simp <;> rfl)
 try simp only [Act.put, List.setIfInBounds_toArray, List.set_cons_zero, List.set_cons_succ, List.getElem_toArray, List.getElem_cons_zero, List.getElem_cons_succ]
 refine wpAnyH_take (i := 2) (v := ?_) rfl (by kernel_rfl) (by kernel_rfl) (by kernel_rfl) (fun _ _ _ h => h) (Or.inl ⟨by rfl, ?_⟩) (by assumption) ?_
 rotate_left
 ·(intro w9 hS9; (try simp only [List.getElem_toArray, List.getElem_cons_zero, List.getElem_cons_succ]); go_simp <;> rfl)
 try simp only [Act.put, List.setIfInBounds_toArray, List.set_cons_zero, List.set_cons_succ, List.getElem_toArray, List.getElem_cons_zero, List.getElem_cons_succ]
 refine wpAnyH_take (i := 3) (v := ?_) rfl (by kernel_rfl) (by kernel_rfl) (by kernel_rfl) (fun _ _ _ h => h) (Or.inl ⟨by rfl, ?_⟩) (by assumption) ?_
 rotate_left
 ·(intro w9 hS9; (try simp only [List.getElem_toArray, List.getElem_cons_zero, List.getElem_cons_succ]); go_simp <;> rfl)
 try simp only [Act.put, List.setIfInBounds_toArray, List.set_cons_zero, List.set_cons_succ, List.getElem_toArray, List.getElem_cons_zero, List.getElem_cons_succ]
 refine wpAnyH_take (i := 4) (v := ?_) rfl (by kernel_rfl) (by kernel_rfl) (by kernel_rfl) (fun _ _ _ h => h) (Or.inl ⟨by rfl, ?_⟩) (by assumption) ?_
 rotate_left
 ·(intro w9 hS9; (try simp only [List.getElem_toArray, List.getElem_cons_zero, List.getElem_cons_succ]); go_simp <;> rfl)
 try simp only [Act.put, List.setIfInBounds_toArray, List.set_cons_zero, List.set_cons_succ, List.getElem_toArray, List.getElem_cons_zero, List.getElem_cons_succ]
 refine wpAnyH_take (i := 5) (v := ?_) rfl (by kernel_rfl) (by kernel_rfl) (by kernel_rfl) (fun _ _ _ h => h) (Or.inl ⟨by rfl, ?_⟩) (by assumption) ?_
 rotate_left
 ·(intro w9 hS9; (try simp only [List.getElem_toArray, List.getElem_cons_zero, List.getElem_cons_succ]); go_simp <;> rfl)
 try simp only [Act.put, List.setIfInBounds_toArray, List.set_cons_zero, List.set_cons_succ, List.getElem_toArray, List.getElem_cons_zero, List.getElem_cons_succ]
 refine wpAnyH_take (i := 9) (v := ?_) rfl (by kernel_rfl) (by kernel_rfl) (by kernel_rfl) (fun _ _ _ h => h) (Or.inl ⟨by rfl, ?_⟩) (by assumption) ?_
 rotate_left
 ·(intro w9 hS9; (try simp only [List.getElem_toArray, List.getElem_cons_zero, List.getElem_cons_succ]); go_simp <;> rfl)
 try simp only [Act.put, List.setIfInBounds_toArray, List.set_cons_zero, List.set_cons_succ, List.getElem_toArray, List.getElem_cons_zero, List.getElem_cons_succ]
 refine wpAnyH_take (i := 10) (v := ?_) rfl (by kernel_rfl) (by kernel_rfl) (by kernel_rfl) (fun _ _ _ h => h) (Or.inl ⟨by rfl, ?_⟩) (by assumption) ?_
 rotate_left
 ·(intro w9 hS9; (try simp only [List.getElem_toArray, List.getElem_cons_zero, List.getElem_cons_succ]); go_simp <;> rfl)
 try simp only [Act.put, List.setIfInBounds_toArray, List.set_cons_zero, List.set_cons_succ, List.getElem_toArray, List.getElem_cons_zero, List.getElem_cons_succ]
 refine wpAnyH_take (i := 14) (v := ?_) rfl (by kernel_rfl) (by kernel_rfl) (by kernel_rfl) (fun _ _ _ h => h) (Or.inl ⟨by rfl, ?_⟩) (by assumption) ?_
 rotate_left
 ·(intro w9 hS9; (try simp only [List.getElem_toArray, List.getElem_cons_zero, List.getElem_cons_succ]); go_simp <;> rfl)
 try simp only [Act.put, List.setIfInBounds_toArray, List.set_cons_zero, List.set_cons_succ, List.getElem_toArray, List.getElem_cons_zero, List.getElem_cons_succ]
 refine wpAnyH_ready (rs := [6]) (by kernel_rfl) (by simp) ?_
 refine AllReadyH.cons rfl (fun K hK => ?_) AllReadyH.nil
 try simp only [List.getElem_toArray, List.getElem_cons_zero, List.getElem_cons_succ]
 try go_simp
 go_at_call 35
 refine (HTt.out _).mono ?_
 rintro e wq ⟨rfl, hwq⟩
 rw [hwq]
 clear hwq
 refine hK.out _ _ (by have q0 := HG1.out.cell 0; have q1 := HG1.out.cell 1; have q2 := HG1.out.cell 2; have q3 := HG1.out.cell 3; exact ⟨q0, q1, q2, q3⟩) (fun hHeld => ?_)
 clear hK K
 try simp only [Act.put, List.setIfInBounds_toArray, List.set_cons_zero, List.set_cons_succ, List.getElem_toArray, List.getElem_cons_zero, List.getElem_cons_succ]
 refine wpAnyH_take (i := 7) (v := ?_) rfl (by kernel_rfl) (by kernel_rfl) (by kernel_rfl) (fun _ _ _ h => h) (Or.inl ⟨by rfl, ?_⟩) (by assumption) ?_
 rotate_left
 ·(intro w9 hS9; (try simp only [List.getElem_toArray, List.getElem_cons_zero, List.getElem_cons_succ]); go_simp <;> rfl)
 try simp only [Act.put, List.setIfInBounds_toArray, List.set_cons_zero, List.set_cons_succ, List.getElem_toArray, List.getElem_cons_zero, List.getElem_cons_succ]
 refine wpAnyH_take (i := 8) (v := ?_) rfl (by kernel_rfl) (by kernel_rfl) (by kernel_rfl) (fun _ _ _ h => h) (Or.inl ⟨by rfl, ?_⟩) (by assumption) ?_
 rotate_left
 ·(intro w9 hS9; (try simp only [List.getElem_toArray, List.getElem_cons_zero, List.getElem_cons_succ]); go_simp <;> rfl)
 try simp only [Act.put, List.setIfInBounds_toArray, List.set_cons_zero, List.set_cons_succ, List.getElem_toArray, List.getElem_cons_zero, List.getElem_cons_succ]
 refine wpAnyH_ready (rs := [11]) (by kernel_rfl) (by simp) ?_
 refine AllReadyH.cons rfl (fun K hK => ?_) AllReadyH.nil
 try simp only [List.getElem_toArray, List.getElem_cons_zero, List.getElem_cons_succ]
 try go_simp
 go_at_call 33
 refine (HDg.out _).mono ?_
 rintro e wq ⟨rfl, hwq⟩
 rw [hwq]
 clear hwq
 refine hK.out _ _ (by have q0 := HG1.out.cell 0; have q1 := HG1.out.cell 1; have q2 := HG1.out.cell 2; have q3 := HG1.out.cell 3; exact ⟨q0, q1, q2, q3⟩) (fun hHeld => ?_)
 clear hK K
 try simp only [Act.put, List.setIfInBounds_toArray, List.set_cons_zero, List.set_cons_succ, List.getElem_toArray, List.getElem_cons_zero, List.getElem_cons_succ]
 refine wpAnyH_take (i := 12) (v := ?_) rfl (by kernel_rfl) (by kernel_rfl) (by kernel_rfl) (fun _ _ _ h => h) (Or.inl ⟨by rfl, ?_⟩) (by assumption) ?_
 rotate_left
 ·(intro w9 hS9; (try simp only [List.getElem_toArray, List.getElem_cons_zero, List.getElem_cons_succ]); go_simp <;> rfl)
 try simp only [Act.put, List.setIfInBounds_toArray, List.set_cons_zero, List.set_cons_succ, List.getElem_toArray, List.getElem_cons_zero, List.getElem_cons_succ]
 refine wpAnyH_take (i := 13) (v := ?_) rfl (by kernel_rfl) (by kernel_rfl) (by kernel_rfl) (fun _ _ _ h => h) (Or.inl ⟨by rfl, ?_⟩) (by assumption) ?_
 rotate_left
 ·(intro w9 hS9; (try simp only [List.getElem_toArray, List.getElem_cons_zero, List.getElem_cons_succ]); go_simp <;> rfl)
 try simp only [Act.put, List.setIfInBounds_toArray, List.set_cons_zero, List.set_cons_succ, List.getElem_toArray, List.getElem_cons_zero, List.getElem_cons_succ]
 refine wpAnyH_ready (rs := [15]) (by kernel_rfl) (by simp) ?_
 refine AllReadyH.cons rfl (fun K hK => ?_) AllReadyH.nil
 try simp only [List.getElem_toArray, List.getElem_cons_zero, List.getElem_cons_succ]
 try go_simp
 go_at_call 36
 refine (HTg.out _ HB1.out).mono ?_
 rintro e V5 ⟨⟨A1, cT, rfl, hT9⟩, hb9⟩
 have HB5 := hide (HB1.out.trans (hb9.mono (by have := HB1.out.size; have := Hg.out; omega)))
 have HG5 := hide (HG1.out.below hb9)
 have HT5 := hide hT9
 clear hb9 hT9
 refine hK.out _ _ (by have q0 := HG5.out.cell 0; have q1 := HG5.out.cell 1; have q2 := HG5.out.cell 2; have q3 := HG5.out.cell 3; exact ⟨q0, q1, q2, q3⟩) (fun hHeld => ?_)
 clear hK K
 try simp only [Act.put, List.setIfInBounds_toArray, List.set_cons_zero, List.set_cons_succ, List.getElem_toArray, List.getElem_cons_zero, List.getElem_cons_succ]
 refine wpAnyH_take (i := 16) (v := ?_) rfl (by kernel_rfl) (by kernel_rfl) (by kernel_rfl) (fun _ _ _ h => h) (Or.inl ⟨by rfl, ?_⟩) (by assumption) ?_
 rotate_left
 ·(intro w9 hS9; (try simp only [List.getElem_toArray, List.getElem_cons_zero, List.getElem_cons_succ]); go_simp <;> rfl)
 try simp only [Act.put, List.setIfInBounds_toArray, List.set_cons_zero, List.set_cons_succ, List.getElem_toArray, List.getElem_cons_zero, List.getElem_cons_succ]
 refine wpAnyH_take (i := 17) (v := ?_) rfl (by kernel_rfl) (by kernel_rfl) (by kernel_rfl) (fun _ _ _ h => h) (Or.inl ⟨by rfl, ?_⟩) (by assumption) ?_
 rotate_left
 ·(intro w9 hS9; (try simp only [List.getElem_toArray, List.getElem_cons_zero, List.getElem_cons_succ]); go_simp <;> rfl)
 try simp only [Act.put, List.setIfInBounds_toArray, List.set_cons_zero, List.set_cons_succ, List.getElem_toArray, List.getElem_cons_zero, List.getElem_cons_succ]
 refine wpAnyH_done (by kernel_rfl) ?_ _
 try simp only [Exit.then]
 clear hHeld
 clear c0 c1 c2 c3 HTt HDg HTg HG HB HG1 HB1
 have HBr := hide (Below.refl V5.heap.size V5)
 go_wp2_with fail
 go_loopw [3, 5] (fun v i wr => ∃ q : Nat, q ≤ m + 1 ∧ v = .string (bs (Bf q)) ∧ i = .int .i64 q ∧ Hid (Below V5.heap.size V5 wr)) (fun _ i _ => m + 1 - (intOf i).toNat)
 case atStart => exact ⟨0, Nat.zero_le _, by rw [← HF.out], rfl, HBr⟩
 case round =>
  clear HF HBr HB0 z0 z1 z2 z3 z4 z5 nz0 nz1 nz2 nz3 nz4 nz5
  obtain ⟨q, hq, rfl, rfl, HQ⟩ := hrel
  obtain ⟨V6, hV6⟩ : ∃ V9, V9 = wr := ⟨_, rfl⟩
  rw [← hV6] at HQ ⊢
  clear hV6
  have w0 : IntKind.i64.wrap ((q : Int) + 1) = (q : Int) + 1 := IntWalk.i64_in _ (by omega)
  have HB6 := hide (HB5.out.trans (HQ.out.mono (by have := HB5.out.size; have := Hg.out; omega)))
  have HG6 := hide (HG5.out.below HQ.out)
  have c3 : V6.cell? ⟨g, 3, none⟩ = some (.slice PA m pc) := by rw [HG6.out.cell]; rfl
  have hbl := HBl.out q (by omega)
  by_cases hlt : q ≤ m
  case neg =>
   have d3 : decide ((q : Int) ≤ (m : Int)) = false := by simp; omega
   have d4 : decide (q ≤ m) = false := by simp; omega
   have HE := hide (show progD P = Bf q by rw [HBe.out, show q = m + 1 by omega])
   go_wp2_with fail
   go_ret
   exact ⟨by rw [HE.out]; rfl, HB6.out⟩
  case pos =>
   have d3 : decide ((q : Int) ≤ (m : Int)) = true := by simp; omega
   have d4 : decide (q ≤ m) = true := by simp; omega
   have HBq := hide (HBs.out q)
   have HCt := hide (find_c A1 cT T q V6 (HT5.out.below HQ.out) (by have := HTl.out; omega))
   have HLb := hide (fun (w' : World) => refLabel_c (q : Int) w' ⟨by omega, by omega⟩)
   have hlq : (labelT (q : Int)).length ≤ 22 := label_len (by omega) (by omega)
   have HLe := hide (line2_bytes [108, 97, 98, 101, 108] (labelT (q : Int)))
   obtain ⟨LQ, hLQ⟩ : ∃ LQ, LQ = labelT (q : Int) := ⟨_, rfl⟩
   have HLt := hide (show lbT q = [108, 97, 98, 101, 108] ++ 32 :: (LQ ++ [10]) by rw [hLQ]; exact HLe.out)
   rw [← hLQ] at HLb hlq
   obtain ⟨S, hS⟩ : ∃ S, S = Bf q := ⟨_, rfl⟩
   rw [← hS] at HBq hbl ⊢
   clear hLQ hS HLe
   by_cases hop : q < m
   case neg =>
    have hqm : q = m := by omega
    have HAq := hide (show atT opD (L.map (·.o)) q = [] by rw [hqm]; exact HAe.out)
    have d6 : decide ((q : Int) < (m : Int)) = false := by simp; omega
    have d7 : decide (q < m) = false := by simp; omega
    clear hqm
    by_cases hin : (q : Int) ∈ T
    case pos =>
     have d5 : decide ((q : Int) ∈ T) = true := decide_eq_true hin
     rw [if_pos hin] at HBq
     rw [d5] at HCt
     clear d5 hin
     have z0 : (bs (S)).size + ((⟨#[108, 97, 98, 101, 108, 32]⟩ : ByteArray)).size ≤ 9223372036854775807 := by simp only [ByteArray.size_append, bs_size, (show (⟨#[108, 97, 98, 101, 108, 32]⟩ : ByteArray).size = 6 from rfl), (show (⟨#[10]⟩ : ByteArray).size = 1 from rfl)]; omega
     have nz0 : (9223372036854775807 < (S).length + 6) = False := by simp; omega
     have z1 : (bs (S) ++ (⟨#[108, 97, 98, 101, 108, 32]⟩ : ByteArray)).size + (bs (LQ)).size ≤ 9223372036854775807 := by simp only [ByteArray.size_append, bs_size, (show (⟨#[108, 97, 98, 101, 108, 32]⟩ : ByteArray).size = 6 from rfl), (show (⟨#[10]⟩ : ByteArray).size = 1 from rfl)]; omega
     have nz1 : (9223372036854775807 < (S).length + 6 + (LQ).length) = False := by simp; omega
     have z2 : (bs (S) ++ (⟨#[108, 97, 98, 101, 108, 32]⟩ : ByteArray) ++ bs (LQ)).size + ((⟨#[10]⟩ : ByteArray)).size ≤ 9223372036854775807 := by simp only [ByteArray.size_append, bs_size, (show (⟨#[108, 97, 98, 101, 108, 32]⟩ : ByteArray).size = 6 from rfl), (show (⟨#[10]⟩ : ByteArray).size = 1 from rfl)]; omega
     have nz2 : (9223372036854775807 < (S).length + 6 + (LQ).length + 1) = False := by simp; omega
     have HF := hide (show bs (S) ++ (⟨#[108, 97, 98, 101, 108, 32]⟩ : ByteArray) ++ bs (LQ) ++ (⟨#[10]⟩ : ByteArray) = bs (S ++ ([108, 97, 98, 101, 108] ++ 32 :: (LQ ++ [10]))) by show bs (S) ++ bs [108, 97, 98, 101, 108, 32] ++ bs (LQ) ++ bs [10] = _; simp only [bs_append]; try (congr 1; simp [List.append_assoc]))
     go_wp2_with fail
     refine HCt.out.mono ?_
     rintro e wq ⟨⟨f9, rfl, hf9⟩, hwq⟩
     rw [hwq]
     clear hwq
     have hf8 : decide (f9 ≥ 0) = true := hf9
     go_wp2_with fail
     refine (HLb.out _).mono ?_
     rintro e wq ⟨rfl, hwq⟩
     rw [hwq]
     clear hwq
     go_wp2_with fail
     go_roundw
     case rel => exact ⟨q + 1, by omega, by rw [HBq.out, HAq.out, HLt.out]; exact (congrArg Value.string (HF.out.trans (by simp))), by go_num, HQ⟩
     case measure => simp [intOf]; omega
    case neg =>
     have d5 : decide ((q : Int) ∈ T) = false := decide_eq_false hin
     rw [if_neg hin] at HBq
     rw [d5] at HCt
     clear d5 hin
     go_wp2_with fail
     refine HCt.out.mono ?_
     rintro e wq ⟨⟨f9, rfl, hf9⟩, hwq⟩
     rw [hwq]
     clear hwq
     have hf8 : decide (f9 ≥ 0) = false := hf9
     go_wp2_with fail
     go_roundw
     case rel => exact ⟨q + 1, by omega, by rw [HBq.out, HAq.out, List.append_nil, List.append_nil], by go_num, HQ⟩
     case measure => simp [intOf]; omega
   case pos =>
    have HAq := hide (HAt.out q hop)
    have d6 : decide ((q : Int) < (m : Int)) = true := by simp; omega
    have d7 : decide (q < m) = true := by simp; omega
    have j1 : (0 : Int) ≤ (q : Int) := by omega
    have j2 : (q : Int) < (m : Int) := by omega
    obtain ⟨ab, ao, hA, hab, a0, a1, a2, a3, a4, a5, a6⟩ := HRo.out _ HB6.out q hop
    have HOq := hide (fun (w' : World) (kk : Below g w w') => HOp.out w' kk q hop)
    have hol := HOl.out q hop
    have HOe := hide (show opD (opAt L q).o = opD ⟨(opAt L q).o.kind, (opAt L q).o.text, (opAt L q).o.n, (opAt L q).o.to, (opAt L q).o.arms, (opAt L q).o.onT, (opAt L q).o.onE⟩ from rfl)
    rw [HOe.out] at HAq hol
    clear HOe
    obtain ⟨v9, hv9⟩ : ∃ v9, v9 = opAt L q := ⟨_, rfl⟩
    rw [← hv9] at a0 a1 a2 a3 a4 a5 a6 HOq HAq hol
    have HA := hide hA
    subst hA
    clear hv9
    obtain ⟨⟨uk, ut, un, ug, ua, ux, uy⟩, uA, uc⟩ := v9
    simp only at a0 a1 a2 a3 a4 a5 a6 HOq HAq hol
    obtain ⟨OD, hOD⟩ : ∃ OD, OD = opD ⟨uk, ut, un, ug, ua, ux, uy⟩ := ⟨_, rfl⟩
    rw [← hOD] at HOq HAq hol
    obtain ⟨u9, hu9⟩ : ∃ u9, u9 = ua.length := ⟨_, rfl⟩
    rw [← hu9] at a4 HOq
    clear hOD hu9
    by_cases hin : (q : Int) ∈ T
    case pos =>
     have d5 : decide ((q : Int) ∈ T) = true := decide_eq_true hin
     rw [if_pos hin] at HBq
     rw [d5] at HCt
     clear d5 hin
     have z0 : (bs (S)).size + ((⟨#[108, 97, 98, 101, 108, 32]⟩ : ByteArray)).size ≤ 9223372036854775807 := by simp only [ByteArray.size_append, bs_size, (show (⟨#[108, 97, 98, 101, 108, 32]⟩ : ByteArray).size = 6 from rfl), (show (⟨#[10]⟩ : ByteArray).size = 1 from rfl)]; omega
     have nz0 : (9223372036854775807 < (S).length + 6) = False := by simp; omega
     have z1 : (bs (S) ++ (⟨#[108, 97, 98, 101, 108, 32]⟩ : ByteArray)).size + (bs (LQ)).size ≤ 9223372036854775807 := by simp only [ByteArray.size_append, bs_size, (show (⟨#[108, 97, 98, 101, 108, 32]⟩ : ByteArray).size = 6 from rfl), (show (⟨#[10]⟩ : ByteArray).size = 1 from rfl)]; omega
     have nz1 : (9223372036854775807 < (S).length + 6 + (LQ).length) = False := by simp; omega
     have z2 : (bs (S) ++ (⟨#[108, 97, 98, 101, 108, 32]⟩ : ByteArray) ++ bs (LQ)).size + ((⟨#[10]⟩ : ByteArray)).size ≤ 9223372036854775807 := by simp only [ByteArray.size_append, bs_size, (show (⟨#[108, 97, 98, 101, 108, 32]⟩ : ByteArray).size = 6 from rfl), (show (⟨#[10]⟩ : ByteArray).size = 1 from rfl)]; omega
     have nz2 : (9223372036854775807 < (S).length + 6 + (LQ).length + 1) = False := by simp; omega
     have z3 : (bs (S) ++ (⟨#[108, 97, 98, 101, 108, 32]⟩ : ByteArray) ++ bs (LQ) ++ (⟨#[10]⟩ : ByteArray)).size + (bs (OD)).size ≤ 9223372036854775807 := by simp only [ByteArray.size_append, bs_size, (show (⟨#[108, 97, 98, 101, 108, 32]⟩ : ByteArray).size = 6 from rfl), (show (⟨#[10]⟩ : ByteArray).size = 1 from rfl)]; omega
     have nz3 : (9223372036854775807 < (S).length + 6 + (LQ).length + 1 + (OD).length) = False := by simp; omega
     have HF := hide (show bs (S) ++ (⟨#[108, 97, 98, 101, 108, 32]⟩ : ByteArray) ++ bs (LQ) ++ (⟨#[10]⟩ : ByteArray) ++ bs (OD) = bs (S ++ ([108, 97, 98, 101, 108] ++ 32 :: (LQ ++ [10])) ++ OD) by show bs (S) ++ bs [108, 97, 98, 101, 108, 32] ++ bs (LQ) ++ bs [10] ++ bs (OD) = _; simp only [bs_append]; try (congr 1; simp [List.append_assoc]))
     go_wp2_with fail
     refine HCt.out.mono ?_
     rintro e wq ⟨⟨f9, rfl, hf9⟩, hwq⟩
     rw [hwq]
     clear hwq
     have hf8 : decide (f9 ≥ 0) = true := hf9
     go_wp2_with fail
     refine (HLb.out _).mono ?_
     rintro e wq ⟨rfl, hwq⟩
     rw [hwq]
     clear hwq
     go_wp2_with fail
     refine (HOq.out _ HB6.out).mono ?_
     rintro e V7 ⟨rfl, hb9⟩
     have HQ7 := hide (HQ.out.trans (hb9.mono HQ.out.size))
     clear hb9
     go_wp2_with fail
     go_roundw
     case rel => exact ⟨q + 1, by omega, by rw [HBq.out, HAq.out, HLt.out]; exact (congrArg Value.string (HF.out.trans (by simp))), by go_num, HQ7⟩
     case measure => simp [intOf]; omega
    case neg =>
     have d5 : decide ((q : Int) ∈ T) = false := decide_eq_false hin
     rw [if_neg hin] at HBq
     rw [d5] at HCt
     clear d5 hin
     have z0 : (bs (S)).size + (bs (OD)).size ≤ 9223372036854775807 := by simp only [ByteArray.size_append, bs_size]; omega
     have nz0 : (9223372036854775807 < (S).length + (OD).length) = False := by simp; omega
     have HF := hide (show bs (S) ++ bs (OD) = bs (S ++ OD) by show bs (S) ++ bs (OD) = _; simp only [bs_append]; try (congr 1; simp [List.append_assoc]))
     go_wp2_with fail
     refine HCt.out.mono ?_
     rintro e wq ⟨⟨f9, rfl, hf9⟩, hwq⟩
     rw [hwq]
     clear hwq
     have hf8 : decide (f9 ≥ 0) = false := hf9
     go_wp2_with fail
     refine (HOq.out _ HB6.out).mono ?_
     rintro e V7 ⟨rfl, hb9⟩
     have HQ7 := hide (HQ.out.trans (hb9.mono HQ.out.size))
     clear hb9
     go_wp2_with fail
     go_roundw
     case rel => exact ⟨q + 1, by omega, by rw [HBq.out, HAq.out]; exact (congrArg Value.string (HF.out.trans (by simp))), by go_num, HQ7⟩
     case measure => simp [intOf]; omega
end Go.Proofs.YtdmdohjdmnmabaaGreatDoor
