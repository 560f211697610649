/- Parts of a chain of lemmas: Same, Same2, ParV, Live14, ParCut, RefPrg2, RefPrg3, ParGd, ParLaid, PBase, ShelfJ. Conditions: those of each theorem. -/
import Derived.Test.YtaioaojfdngfdaaGreatDoorPg19
import Derived.BigRegion
import Derived.Test.YtaioaojfdngfdaaGreatDoorPg09
import Derived.Deep.RegionHeld3
import Derived.Test.YtaioaojfdngfdaaGreatDoorPg05
import Derived.Test.YtaioaojfdngfdaaGreatDoorPg40
import Derived.Test.YtaioaojfdngfdaaGreatDoorPg24
import Derived.Test.YtaioaojfdngfdaaGreatDoorRows
import Derived.ProofKit
import Derived.LaidMore
import Derived.OpenShut
import Derived.Stop.Joined
import Derived.MakeChecks
import Derived.LaidLaws
import Derived.Shelf.Vars
import Derived.Handed
import Derived.Test.YtaioaojfdngfdaaGreatDoorPg07
import Derived.Test.YtaioaojfdngfdaaGreatDoorPg08
import Derived.Test.YtaioaojfdngfdaaGreatDoorPg41
import Derived.Test.YtaioaojfdngfdaaGreatDoorPg03
import Derived.Shelf.Strings.OnBuilder
import Derived.Shelf.Small.Bits
import Derived.Ground.Names2Prog
set_option linter.unusedVariables false
set_option linter.unusedSimpArgs false
set_option maxHeartbeats 12800000
namespace Go.Proofs.YtaioaojfdngfdaaGreatDoor
open Go.RowKit
set_option maxRecDepth 100000
theorem sH (kd n tt x y:Int) (tx:ByteArray) (ar:List ArmM) (A1 A2:Option Addr) (c1 c2:Nat) (w:World) (h1:Rd w aA A1 (flat encArm ar)) (h2:Rd w aA A2 (flat encArm ar)) (hn:ar.length≤1000000) :
 Calls Tryz.prog 45 #[.agg #[.int .i64 kd,.string tx,.int .i64 n,.int .i64 tt,.slice A1 ar.length c1,.int .i64 x,.int .i64 y],.agg #[.int .i64 kd,.string tx,.int .i64 n,.int .i64 tt,.slice A2 ar.length c2,.int .i64 x,.int .i64 y]] w fun e w'=>e=.returned (.bool true)∧Only aA w w':=by
 obtain ⟨m,hm⟩:∃ m,m=ar.length:=⟨_,rfl⟩
 rw [← hm] at hn ⊢
 have Hm:=hide hm
 have HR1:=hide (fun (w':World) (kk:Only aA w w') (q:Nat) (hq:q < ar.length)=>qR (h1.only kk (fun _ h=>h)) q hq)
 have HR2:=hide (fun (w':World) (kk:Only aA w w') (q:Nat) (hq:q < ar.length)=>qR (h2.only kk (fun _ h=>h)) q hq)
 clear h1 h2 hm
 go_enter Tryz.func45,Tryz.ntmps45
 go_upto_region 1 with fail
 generalize hX:World.alloc (World.alloc w _) _=X
 have HK:=hide (show Only aA w X by rw [← hX];exact ((Only.refl aA w).alloc _).alloc _)
 have hP1:Blk X w.heap.size 92 #[.int .i64 kd,.string tx,.int .i64 n,.int .i64 tt,.slice A1 m c1,.int .i64 x,.int .i64 y]:=by rw [← hX];exact (Blk.new _ _ _).alloc _
 have hP2:Blk X (w.heap.size + 1) 92 #[.int .i64 kd,.string tx,.int .i64 n,.int .i64 tt,.slice A2 m c2,.int .i64 x,.int .i64 y]:=by rw [← hX];exact Blk.new' (by simp)
 obtain ⟨g,hg⟩:∃ g,g=w.heap.size:=⟨_,rfl⟩
 rw [← hg] at hP1 hP2 ⊢
 clear hX hg
 obtain ⟨a0,a1,a2,a3,a4,a5,a6⟩:=hP1.seven
 obtain ⟨b0,b1,b2,b3,b4,b5,b6⟩:=hP2.seven
 have HP1:=hide hP1
 have HP2:=hide hP2
 clear hP1 hP2
 go_wp2_with fail
 go_loopw [5] (fun i wr=>∃ (q:Nat),q≤m∧i=.int .i64 q∧Hid (Only aA w wr)∧Hid (Only aA X wr)) (fun i _=>m - (intOf i).toNat)
 case atStart=>exact ⟨0,Nat.zero_le _,rfl,HK,hide (Only.refl _ _)⟩
 case round =>
  clear a0 a1 a2 a3 a4 a5 a6 b0 b1 b2 b3 b4 b5 b6
  obtain ⟨q,hqm,rfl,HKr,HKx⟩:=hrel
  have a4:wr.cell? ⟨g,4,none⟩=some (.slice A1 m c1):=(HP1.out.only HKx.out (fun h=>h)).cell 4
  have b4:wr.cell? ⟨g + 1,4,none⟩=some (.slice A2 m c2):=(HP2.out.only HKx.out (fun h=>h)).cell 4
  by_cases hlt:q < m
  case neg =>
   have d1:decide ((q:Int) < (m:Int))=false:=by simp;omega
   have d2:decide (q < m)=false:=by simp;omega
   clear hlt
   go_wp2_with fail
   refine bodyPost_ret (v:=.bool true) (by simp [results,Tryz.results45,go_sem];try rfl) rfl ?_
   exact ⟨rfl,HKr.out⟩
  case pos =>
   have d1:decide ((q:Int) < (m:Int))=true:=by simp;omega
   have d2:decide (q < m)=true:=by simp;omega
   have j1:(0:Int)≤(q:Int):=by omega
   have j2:(q:Int) < (m:Int):=by omega
   have w1':IntKind.i64.wrap ((q:Int) + 1)=(q:Int) + 1:=IntWalk.i64_in _ (by omega)
   have hqa:q < ar.length:=by have:=Hm.out;omega
   obtain ⟨e1,o1,rfl,_,p0,p1⟩:=HR1.out wr HKr.out q hqa
   obtain ⟨e2,o2,rfl,_,q0,q1⟩:=HR2.out wr HKr.out q hqa
   obtain ⟨AR,hAR⟩:∃ AR,AR=fL ar q:=⟨_,rfl⟩
   rw [← hAR] at p0 p1 q0 q1
   clear hlt hAR
   go_upto_region 6 with fail
   go_region
   go_wp2_with fail
   go_roundw
   ·exact ⟨q + 1,by omega,by simp,hide HKr.out.drew,hide HKx.out.drew⟩
   ·simp only [intOf];omega
set_option maxRecDepth 100000
theorem refSame_c (s:ByteArray) (d j:Int) (A1 A2:Option Addr) (c1 c2:Nat) (L1 L2:List OpV) (w:World) (h1:OpsRd w aA A1 L1) (h2:OpsRd w aA A2 L2) (hL:L1.map (·.o)=L2.map (·.o)) (hn:L1.length≤1000000) (ha:∀ v ∈ L1,v.o.arms.length≤1000000) :
 Calls Tryz.prog 15 #[.agg #[.string s,.int .i64 d,.int .i64 j,.slice A1 L1.length c1],.agg #[.string s,.int .i64 d,.int .i64 j,.slice A2 L2.length c2]] w fun e w'=>e=.returned (.bool true)∧Only aA w w':=by
 have hlen:L2.length=L1.length:=by have e:=congrArg List.length hL;rw [List.length_map,List.length_map] at e;exact e.symm
 obtain ⟨m,hm⟩:∃ m,m=L1.length:=⟨_,rfl⟩
 have HO:=hide (show ∀ q,q < m→(opAt L2 q).o=(opAt L1 q).o from fun q hq=>by
  have e:(L1.map (·.o))[q]?=(L2.map (·.o))[q]?:=by rw [hL]
  rw [List.getElem?_map,List.getElem?_map,bO (by omega),bO (by omega)] at e
  exact (Option.some.inj e).symm)
 have HR1:=hide (fun (w':World) (kk:Only aA w w') (q:Nat) (hq:q < m)=>sP ((h1.only kk (fun _ h=>h)).1) q (show q < L1.length by omega))
 have HR2:=hide (fun (w':World) (kk:Only aA w w') (q:Nat) (hq:q < m)=>sP ((h2.only kk (fun _ h=>h)).1) q (show q < L2.length by omega))
 have HCo:=hide (fun (w':World) (kk:Only aA w w') (q:Nat) (hq:q < m)=>sH (opAt L1 q).o.kind (opAt L1 q).o.n (opAt L1 q).o.to (opAt L1 q).o.onT (opAt L1 q).o.onE (opAt L1 q).o.text (opAt L1 q).o.arms (opAt L1 q).A (opAt L2 q).A (opAt L1 q).c (opAt L2 q).c w' ((h1.only kk (fun _ h=>h)).2 _ (cJ (by omega))) (by have q9:=(h2.only kk (fun _ h=>h)).2 _ (cJ (l:=L2) (k:=q) (by omega));rw [HO.out q hq] at q9;exact q9) (ha _ (cJ (by omega))))
 rw [hlen,← hm]
 rw [← hm] at hn
 clear h1 h2 hL hlen hm
 go_enter Tryz.func15,Tryz.ntmps15
 go_upto_region 1 with fail
 generalize hX:World.alloc (World.alloc w _) _=X
 have HK:=hide (show Only aA w X by rw [← hX];exact ((Only.refl aA w).alloc _).alloc _)
 have hP1:Blk X w.heap.size 25 #[.string s,.int .i64 d,.int .i64 j,.slice A1 m c1]:=by rw [← hX];exact (Blk.new _ _ _).alloc _
 have hP2:Blk X (w.heap.size + 1) 25 #[.string s,.int .i64 d,.int .i64 j,.slice A2 m c2]:=by rw [← hX];exact Blk.new' (by simp)
 obtain ⟨g,hg⟩:∃ g,g=w.heap.size:=⟨_,rfl⟩
 rw [← hg] at hP1 hP2 ⊢
 clear hX hg
 obtain ⟨⟨a0,a1,a2,a3⟩,_⟩:=hP1.four
 obtain ⟨⟨b0,b1,b2,b3⟩,_⟩:=hP2.four
 have HP1:=hide hP1
 have HP2:=hide hP2
 clear hP1 hP2
 go_wp2_with fail
 go_loopw [5] (fun i wr=>∃ (q:Nat),q≤m∧i=.int .i64 q∧Hid (Only aA w wr)∧Hid (Only aA X wr)) (fun i _=>m - (intOf i).toNat)
 case atStart=>exact ⟨0,Nat.zero_le _,rfl,HK,hide (Only.refl _ _)⟩
 case round =>
  clear a0 a1 a2 a3 b0 b1 b2 b3
  obtain ⟨q,hqm,rfl,HKr,HKx⟩:=hrel
  have a3:wr.cell? ⟨g,3,none⟩=some (.slice A1 m c1):=(HP1.out.only HKx.out (fun h=>h)).cell 3
  by_cases hlt:q < m
  case neg =>
   have d1:decide ((q:Int) < (m:Int))=false:=by simp;omega
   have d2:decide (q < m)=false:=by simp;omega
   clear hlt
   go_wp2_with fail
   refine bodyPost_ret (v:=.bool true) (by simp [results,Tryz.results15,go_sem];try rfl) rfl ?_
   exact ⟨rfl,HKr.out⟩
  case pos =>
   have d1:decide ((q:Int) < (m:Int))=true:=by simp;omega
   have d2:decide (q < m)=true:=by simp;omega
   have j1:(0:Int)≤(q:Int):=by omega
   have j2:(q:Int) < (m:Int):=by omega
   have w1':IntKind.i64.wrap ((q:Int) + 1)=(q:Int) + 1:=IntWalk.i64_in _ (by omega)
   obtain ⟨e1,o1,rfl,_,_⟩:=HR1.out wr HKr.out q hlt
   obtain ⟨e2,o2,rfl,_,_⟩:=HR2.out wr HKr.out q hlt
   obtain ⟨O1,hO1⟩:∃ O1,O1=opAt L1 q:=⟨_,rfl⟩
   obtain ⟨O2,hO2⟩:∃ O2,O2=opAt L2 q:=⟨_,rfl⟩
   have HOq:=hide (HO.out q hlt)
   have HC:=hide (fun (w':World) (kk:Only aA w w')=>HCo.out w' kk q hlt)
   have HA1:=hide (fun (w':World) (kk:Only aA w w')=>HR1.out w' kk q hlt)
   have HA2:=hide (fun (w':World) (kk:Only aA w w')=>HR2.out w' kk q hlt)
   rw [← hO1] at HC HA1 HOq
   rw [← hO2] at HC HA2 HOq
   clear hO1 hO2
   obtain ⟨⟨kd,tx,n,tt,ar,x,y⟩,B1,k1⟩:=O1
   obtain ⟨oo,B2,k2⟩:=O2
   have e9:=HOq.out
   simp only at e9
   subst e9
   have HA:=hide (fun (w':World) (kk:Only aA w w') (kx:Only aA X w')=>(show (w'.cell? ⟨g,3,none⟩=some (.slice (some ⟨e1,o1,none⟩) m c1)∧w'.cell? ⟨g + 1,3,none⟩=some (.slice (some ⟨e2,o2,none⟩) m c2)) ∧
    (w'.cell? ⟨e1,o1 + q * 7,none⟩=some (.int .i64 kd)∧w'.cell? ⟨e1,o1 + q * 7 + 1,none⟩=some (.string tx)∧w'.cell? ⟨e1,o1 + q * 7 + 2,none⟩=some (.int .i64 n)∧w'.cell? ⟨e1,o1 + q * 7 + 3,none⟩=some (.int .i64 tt)∧w'.cell? ⟨e1,o1 + q * 7 + 4,none⟩=some (.slice B1 ar.length k1)∧w'.cell? ⟨e1,o1 + q * 7 + 5,none⟩=some (.int .i64 x)∧w'.cell? ⟨e1,o1 + q * 7 + 6,none⟩=some (.int .i64 y)) ∧
    (w'.cell? ⟨e2,o2 + q * 7,none⟩=some (.int .i64 kd)∧w'.cell? ⟨e2,o2 + q * 7 + 1,none⟩=some (.string tx)∧w'.cell? ⟨e2,o2 + q * 7 + 2,none⟩=some (.int .i64 n)∧w'.cell? ⟨e2,o2 + q * 7 + 3,none⟩=some (.int .i64 tt)∧w'.cell? ⟨e2,o2 + q * 7 + 4,none⟩=some (.slice B2 ar.length k2)∧w'.cell? ⟨e2,o2 + q * 7 + 5,none⟩=some (.int .i64 x)∧w'.cell? ⟨e2,o2 + q * 7 + 6,none⟩=some (.int .i64 y)) from (by
    obtain ⟨f1,p1,hf1,_,hc1⟩:=HA1.out w' kk
    obtain ⟨f2,p2,hf2,_,hc2⟩:=HA2.out w' kk
    injection hf1 with hf1
    injection hf2 with hf2
    injection hf1 with hf1 hp1
    injection hf2 with hf2 hp2
    subst hf1 hf2 hp1 hp2
    exact ⟨⟨(HP1.out.only kx (fun h=>h)).cell 3,(HP2.out.only kx (fun h=>h)).cell 3⟩,hc1,hc2⟩)))
   clear hlt HA1 HA2 HOq HO HR1 HR2 HCo
   go_upto_region 6 with fail
   obtain ⟨V0,hV0⟩:∃ V9,V9=wr.drew:=⟨_,rfl⟩
   have HK0:=hide (show Only aA w V0 by rw [hV0];exact HKr.out.drew)
   have HX0:=hide (show Only aA X V0 by rw [hV0];exact HKx.out.drew)
   refine wp_region_held (S:=fun w'=>(w'.cell? ⟨g,3,none⟩=some (.slice (some ⟨e1,o1,none⟩) m c1)∧w'.cell? ⟨g + 1,3,none⟩=some (.slice (some ⟨e2,o2,none⟩) m c2))∧(w'.cell? ⟨e1,o1 + q * 7,none⟩=some (.int .i64 kd)∧w'.cell? ⟨e1,o1 + q * 7 + 1,none⟩=some (.string tx)∧w'.cell? ⟨e1,o1 + q * 7 + 2,none⟩=some (.int .i64 n)∧w'.cell? ⟨e1,o1 + q * 7 + 3,none⟩=some (.int .i64 tt)∧w'.cell? ⟨e1,o1 + q * 7 + 4,none⟩=some (.slice B1 ar.length k1)∧w'.cell? ⟨e1,o1 + q * 7 + 5,none⟩=some (.int .i64 x)∧w'.cell? ⟨e1,o1 + q * 7 + 6,none⟩=some (.int .i64 y))∧(w'.cell? ⟨e2,o2 + q * 7,none⟩=some (.int .i64 kd)∧w'.cell? ⟨e2,o2 + q * 7 + 1,none⟩=some (.string tx)∧w'.cell? ⟨e2,o2 + q * 7 + 2,none⟩=some (.int .i64 n)∧w'.cell? ⟨e2,o2 + q * 7 + 3,none⟩=some (.int .i64 tt)∧w'.cell? ⟨e2,o2 + q * 7 + 4,none⟩=some (.slice B2 ar.length k2)∧w'.cell? ⟨e2,o2 + q * 7 + 5,none⟩=some (.int .i64 x)∧w'.cell? ⟨e2,o2 + q * 7 + 6,none⟩=some (.int .i64 y))) (by kernel_rfl) ?_
   change wpAnyH _ _ _ _ _ _ _ _ wr.drew
   have hHeld:(fun w'=>(w'.cell? ⟨g,3,none⟩=some (.slice (some ⟨e1,o1,none⟩) m c1)∧w'.cell? ⟨g + 1,3,none⟩=some (.slice (some ⟨e2,o2,none⟩) m c2))∧(w'.cell? ⟨e1,o1 + q * 7,none⟩=some (.int .i64 kd)∧w'.cell? ⟨e1,o1 + q * 7 + 1,none⟩=some (.string tx)∧w'.cell? ⟨e1,o1 + q * 7 + 2,none⟩=some (.int .i64 n)∧w'.cell? ⟨e1,o1 + q * 7 + 3,none⟩=some (.int .i64 tt)∧w'.cell? ⟨e1,o1 + q * 7 + 4,none⟩=some (.slice B1 ar.length k1)∧w'.cell? ⟨e1,o1 + q * 7 + 5,none⟩=some (.int .i64 x)∧w'.cell? ⟨e1,o1 + q * 7 + 6,none⟩=some (.int .i64 y))∧(w'.cell? ⟨e2,o2 + q * 7,none⟩=some (.int .i64 kd)∧w'.cell? ⟨e2,o2 + q * 7 + 1,none⟩=some (.string tx)∧w'.cell? ⟨e2,o2 + q * 7 + 2,none⟩=some (.int .i64 n)∧w'.cell? ⟨e2,o2 + q * 7 + 3,none⟩=some (.int .i64 tt)∧w'.cell? ⟨e2,o2 + q * 7 + 4,none⟩=some (.slice B2 ar.length k2)∧w'.cell? ⟨e2,o2 + q * 7 + 5,none⟩=some (.int .i64 x)∧w'.cell? ⟨e2,o2 + q * 7 + 6,none⟩=some (.int .i64 y))) wr.drew:=(by rw [← hV0];exact HA.out V0 HK0.out HX0.out)
   rw [← hV0] at hHeld ⊢
   simp only [List.size_toArray,List.length_cons,List.length_nil,Nat.zero_add,Nat.reduceAdd]
   clear hV0
   refine tk 0 ?_ rfl ?_ ?_
   rotate_left
   ·(intro w9 hS9;(try simp only [ga]);go_simp<;>rfl)
   refine tk 1 ?_ rfl ?_ ?_
   rotate_left
   ·(intro w9 hS9;(try simp only [ga]);go_simp<;>rfl)
   refine tk 2 ?_ rfl ?_ ?_
   rotate_left
   ·(intro w9 hS9;(try simp only [ga]);go_simp<;>rfl)
   refine tk 3 ?_ rfl ?_ ?_
   rotate_left
   ·(intro w9 hS9;(try simp only [ga]);go_simp<;>rfl)
   refine tk 4 ?_ rfl ?_ ?_
   rotate_left
   ·(intro w9 hS9;(try simp only [ga]);go_simp<;>rfl)
   refine tk 5 ?_ rfl ?_ ?_
   rotate_left
   ·(intro w9 hS9;(try simp only [ga]);go_simp<;>rfl)
   refine tk 6 ?_ rfl ?_ ?_
   rotate_left
   ·(intro w9 hS9;(try simp only [ga]);go_simp<;>rfl)
   refine tk 7 ?_ rfl ?_ ?_
   rotate_left
   ·(intro w9 hS9;(try simp only [ga]);go_simp<;>rfl)
   refine tk 8 ?_ rfl ?_ ?_
   rotate_left
   ·(intro w9 hS9;(try simp only [ga]);go_simp<;>rfl)
   refine tk 9 ?_ rfl ?_ ?_
   rotate_left
   ·(intro w9 hS9;(try simp only [ga]);go_simp<;>rfl)
   try simp only [Act.put,gp]
   refine rdy 10 rfl (fun K hK=>?_)
   try simp only [ga]
   try go_simp
   go_at_call 45
   refine (HC.out _ HK0.out).mono ?_
   rintro e V2 ⟨rfl,hk2⟩
   have HK2:=hide (HK0.out.trans hk2)
   have HX2:=hide (HX0.out.trans hk2)
   clear hk2
   refine hK.out _ _ (HA.out V2 HK2.out HX2.out) (fun hHeld=>?_)
   clear hK K
   refine tk 11 ?_ rfl ?_ ?_
   rotate_left
   ·(intro w9 hS9;(try simp only [ga]);go_simp<;>rfl)
   try simp only [Act.put,gp]
   refine wpAnyH_done (by kernel_rfl) ?_ _
   try simp only [Exit.then]
   clear hHeld
   go_wp2_with fail
   go_roundw
   ·exact ⟨q + 1,by omega,by simp,HK2,HX2⟩
   ·simp only [intOf];omega
structure Vars (w:World):Prop where
 len:LenV w
 err:ErrV w
 lt : 8 < w.heap.size
theorem Vars.only {w w':World} (h:Vars w) (k:Only aA w w'):Vars w' :=
 ⟨h.len.elim fun m h1=>⟨m,cM k (fun h=>h) h1⟩,h.err.only h.lt (OnB.none k),Nat.lt_of_lt_of_le h.lt k.size⟩
set_option maxRecDepth 100000 in
theorem cut02_c (s:ByteArray) (n:Nat) (w:World) (hs:s.size≤9223372036854775807):Calls Tryz.prog 12 #[.string s,.int .i64 n] w fun e w'=>(∃ t:ByteArray,e=.returned (.string t)∧t.size≤n)∧w'=w:=by
 go_enter Tryz.func12,Tryz.ntmps12
 have hss:((s.size:Nat):Int)=s.size:=rfl
 by_cases hc:n < s.size
 case pos =>
  have d1:decide ((n:Int) < (s.size:Int))=true:=by simp;omega
  have d2:decide (n < s.size)=true:=by simp;omega
  have j1:(0:Int)≤(n:Int):=by omega
  have j2:(n:Int)≤(s.size:Int):=by omega
  go_wp2_with fail
  refine bodyPost_ret (v:=.string (s.extract 0 n)) (by simp [results,Tryz.results12,go_sem];try rfl) rfl ?_
  exact ⟨⟨_,rfl,by rw [ByteArray.size_extract];omega⟩,rfl⟩
 case neg =>
  have d1:decide ((n:Int) < (s.size:Int))=false:=by simp;omega
  have d2:decide (n < s.size)=false:=by simp;omega
  go_wp2_with fail
  refine bodyPost_ret (v:=.string s) (by simp [results,Tryz.results12,go_sem];try rfl) rfl ?_
  exact ⟨⟨_,rfl,by omega⟩,rfl⟩
theorem pK:∀ (l:List Int) (i:Nat),(kD i l).2=0→∀ e ∈ l,e=0:=by
 intro l
 induction l with
 | nil=>intro i _ e he;cases he
 | cons a r ih =>
  intro i h e he
  unfold kD at h
  by_cases ha:a=0
  ·rw [if_neg (by omega)] at h
   rcases List.mem_cons.1 he with rfl | he
   ·exact ha
   ·exact ih _ h e he
  ·rw [if_pos ha] at h
   exact absurd h ha
theorem rM:∀ (l:List Int),fB l=0→∀ e ∈ l,e=0:=by
 intro l
 induction l with
 | nil=>intro _ e he;cases he
 | cons a r ih =>
  intro h e he
  unfold fB at h
  by_cases ha:a=0
  ·rw [if_neg (by omega)] at h
   rcases List.mem_cons.1 he with rfl | he
   ·exact ha
   ·exact ih h e he
  ·rw [if_pos ha] at h
   exact absurd h ha
theorem opE_sz {k:Nat} {o:OpM} (h:opE k o=0):o.arms.length≤100∧o.text.size≤256∧∀ a ∈ o.arms,a.pat.size≤64:=by
 unfold opE at h
 split at h
 ·simp at h
 split at h
 ·simp at h
 rename_i h0 hb
 have hb':jP o=true:=by simpa using hb
 unfold jP at hb'
 simp only [Bool.and_eq_true,Bool.or_eq_true,decide_eq_true_eq] at hb'
 obtain ⟨⟨⟨b1,b2⟩,b3⟩,b4⟩:=hb'
 by_cases h2:o.kind=2
 ·rw [if_neg (by omega),if_pos h2] at h
  unfold m5 at h
  split at h
  ·simp at h
  split at h
  ·simp at h
  rename_i ha
  split at h
  ·rename_i h1;exact absurd h h1
  rename_i hf
  have hf':fB (o.arms.map (pM k))=0:=by omega
  refine ⟨by omega,by omega,fun a hm=>?_⟩
  have e:=rM _ hf' _ (List.mem_map.2 ⟨a,hm,rfl⟩)
  unfold pM at e
  split at e
  ·simp at e
  ·omega
 ·have b5:o.arms.length=0:=by
   rcases b4 with b4 | ⟨⟨b4,b5⟩,b6⟩
   ·exact absurd b4 h2
   ·exact b4
  have c4:o.arms=[]:=List.length_eq_zero_iff.1 b5
  refine ⟨by omega,?_,by rw [c4];simp⟩
  rcases b1 with b1 | b1
  ·rw [if_pos b1] at h
   split at h
   ·simp at h
   split at h
   ·simp at h
   omega
  ·omega
theorem good_sz {p:ProgM} (h:v8 p=true):p.ops.length≤200∧p.name.size≤16∧∀ o ∈ p.ops,o.arms.length≤100∧o.text.size≤256∧∀ a ∈ o.arms,a.pat.size≤64:=by
 have hw:(m8 p).2=0:=by
  unfold v8 at h
  rwa [decide_eq_true_eq] at h
 have hh:qM p=0:=by
  unfold m8 at hw
  by_cases hh:qM p=0
  ·exact hh
  ·rw [if_pos hh] at hw;exact hw
 have ho:∀ o ∈ p.ops,opE p.ops.length o=0:=fun o ho=>by
  unfold m8 at hw
  rw [if_neg (by omega)] at hw
  exact pK _ _ hw _ (List.mem_map.2 ⟨o,ho,rfl⟩)
 unfold qM at hh
 split at hh
 ·simp at hh
 rename_i h1
 split at hh
 ·simp at hh
 split at hh
 ·simp at hh
 have h1':nameB p.name=true:=by simpa using h1
 unfold nameB eE at h1'
 simp at h1'
 refine ⟨by omega,?_,fun o hm=>opE_sz (ho o hm)⟩
 have:=h1'.1.1.2
 simpa using this
end Go.Proofs.YtaioaojfdngfdaaGreatDoor
namespace Go.Proofs.YtaioaojfdngfdaaGreatDoor
open Go.ChangeShapes Go.WideShapes Go.ChangeAt Go.RowKit
theorem handed_and_shaped {H:Type} {enc:TypeId × Value→H} {a:Assume} {C:Checked} {os:Os} {f:FuncId} {fn:Func} {s:ChangeSpec} {conds:List PathCond} {apart fresh handsOn again:Bool} {X:World→Array Value→Prop}
 (hX:∀ (w w':World) (args:Array Value),w.heap=w'.heap→X w args→X w' args)
 (own:ownKnob C.prog.godebug=none) (started:os.Started) (noInit:C.prog.inits.idxOf? f=none) (hfn:C.prog.funcs[f]?=some fn)
 (witness:∃ (w:World) (tape:Tape) (i:Input),w.os=os∧(w.forCall tape i).Shaped C.prog∧i.vars=[]∧Input.okWide C.prog (w.forCall tape i) .any w.heap.size f i ∧
   ((s.pre enc C.prog fn conds apart (w.forCall tape i).memory i.args∧X (w.forCall tape i).memory i.args)∧sizedMet enc C.prog fn (OpenSpec.ofChange s) apart (w.forCall tape i).memory i.args)∧a.holds C.prog (lone (Frame.enter C.prog f i.args .normal) [] (w.forCall tape i)))
 (contract:∀ (W:World) (base:Nat) (args:Array Value) (ds gs:List (DataW H)) (before:List MemPlace),
   (∀ (j:Nat) t v,fn.params[j]?=some t→args[j]?=some v→Value.okWide C.prog W .any base t v) →
   DataW.Whole enc C.prog fn.params.toList s.vars apart W args.toList ds gs before→X W args→W.ShapedOpen C.prog →
   Calls C.prog f args W fun e W'=>∃ v,e=.returned v∧s.post enc C.prog fn apart fresh handsOn again W args v W') :
 ReturnsInHanded a C os f .any (fun w args=>(s.pre enc C.prog fn conds apart w args∧X w args)∧sizedMet enc C.prog fn (OpenSpec.ofChange s) apart w args) (s.post enc C.prog fn apart fresh handsOn again):=by
 refine returnsInHanded_of_calls own started noInit witness ?_
 intro w tape i _ hsh _ hok hpre _
 obtain ⟨_,_,_,fn',hfn',_,_,_,_,hval⟩:=hok
 obtain rfl:fn'=fn:=Option.some.inj (hfn'.symm.trans hfn)
 obtain ⟨⟨⟨ds,gs,before,hw,hc⟩,hx⟩,hz⟩:=hpre
 refine (contract (w.forCall tape i) w.heap.size i.args ds gs before hval (DataW.Whole.of_heap (w':=w.forCall tape i) (by rfl) hw) (hX _ _ _ (by rfl) hx) hsh).mono fun e W' ⟨v,he,hp⟩=>?_
 subst he
 exact ChangeSpec.post_blind hp
theorem Tryz.gErr : Tryz.prog.globalNamed "strconv.ErrRange" = some 8:=by kernel_rfl
theorem Tryz.tErr:(Tryz.prog.globals[8]?).map (·.type)=some 62:=by kernel_rfl
theorem vars_of_laid {W:World} (h:laidMetH Tryz.prog Rows.parseReadsRow.laid W) (hsh:W.ShapedOpen Tryz.prog):Vars W:=by
 have h1:LenV W:=cell_of_shapedOpen_int (P:=Tryz.prog) (g:=2) (t:=3) (zero:=#[.int .i64 0]) hsh (of_decide_eq_true (by kernel_rfl)) (by kernel_rfl) rfl (by kernel_rfl) (by kernel_rfl) Tryz.underlying3
 rw [MakeChecks.laidMetH_plain _ _ _ (by kernel_rfl)] at h
 obtain ⟨ps,⟨g0,t0,cs0,f0,p0,q0,hg0,ht0,hv0,hd0,⟨g1,t1,cs1,f1,p1,q1,hg1,ht1,hv1,hd1,⟨g2,t2,cs2,f2,p2,q2,hg2,ht2,hv2,hd2,⟨g3,t3,cs3,f3,p3,q3,hg3,ht3,hv3,hd3,⟨g4,t4,cs4,f4,p4,q4,hg4,ht4,hv4,hd4,_,_⟩,_⟩,_⟩,_⟩,_⟩,_,_⟩:=h
 obtain rfl:=Option.some.inj (Tryz.gErr.symm.trans hg4)
 obtain rfl:=Option.some.inj (Tryz.tErr.symm.trans ht4)
 obtain ⟨_,u,v,hcs,_,_⟩:=iface_of_trod Tryz.underlying62 hd4
 have hc:W.cell? ⟨8,0,none⟩=some (.iface u v):=by
  have:=World.var?_cell hg4 hv4 0
  rw [this]
  obtain ⟨l⟩:=cs4
  simp at hcs
  subst hcs
  rfl
 refine ⟨h1,⟨_,hc,Or.inr ⟨u,v,rfl⟩⟩,?_⟩
 rcases Nat.lt_or_ge 8 W.heap.size with hl | hl
 ·exact hl
 ·exfalso
  unfold World.cell? at hc
  simp [Array.getElem?_eq_none hl] at hc
end Go.Proofs.YtaioaojfdngfdaaGreatDoor
namespace Go.Proofs.YtaioaojfdngfdaaGreatDoor
end Go.Proofs.YtaioaojfdngfdaaGreatDoor
namespace Go.Proofs
open Go.Shelf
def Tryz.lays156_ren:Go.Shelf.Ren:=⟨fun | 156=>84 | 165=>127 | 166=>95 | 169=>66 | 240=>136 | 241=>154 | 276=>163 | 277=>186 | n=>n,fun | 31=>35 | 9=>9 | 3=>3 | 4=>4 | 0=>0 | 20=>20 | 72=>120 | 76=>166 | 70=>118 | 37=>47 | 75=>62 | 127=>176 | 164=>153 | 5=>5 | 80=>37 | n=>n,fun | n=>n⟩
theorem Tryz.lays156:Go.Proofs.Lays.n156 Tryz.prog Tryz.lays156_ren:={
 mixed:=by kernel_rfl
 f156:=Tryz.func84.trans (congrArg some (by kernel_rfl))
 f165:=Tryz.func127.trans (congrArg some (by kernel_rfl))
 f166:=Tryz.func95.trans (congrArg some (by kernel_rfl))
 f169:=Tryz.func66.trans (congrArg some (by kernel_rfl))
 f240:=Tryz.func136.trans (congrArg some (by kernel_rfl))
 f241:=Tryz.func154.trans (congrArg some (by kernel_rfl))
 f276:=Tryz.func163.trans (congrArg some (by kernel_rfl))
 f277:=Tryz.func186.trans (congrArg some (by kernel_rfl))
 t0:=Tryz.underlying0
 a0:=Tryz.isAgg0
 z0:=Tryz.sizeOf0
 v0:=Tryz.zeroValue0
 t3:=Tryz.underlying3
 a3:=Tryz.isAgg3
 z3:=Tryz.sizeOf3
 v3:=Tryz.zeroValue3
 t4:=Tryz.underlying4
 a4:=Tryz.isAgg4
 z4:=Tryz.sizeOf4
 v4:=Tryz.zeroValue4
 t9:=Tryz.underlying9
 a9:=Tryz.isAgg9
 z9:=Tryz.sizeOf9
 v9:=Tryz.zeroValue9
 t20:=Tryz.underlying20
 a20:=Tryz.isAgg20
 z20:=Tryz.sizeOf20
 v20:=Tryz.zeroValue20
 t31:=Tryz.underlying35
 a31:=Tryz.isAgg35
 z31:=Tryz.sizeOf35
 v31:=Tryz.zeroValue35
 t37:=Tryz.underlying47
 a37:=Tryz.isAgg47
 z37:=Tryz.sizeOf47
 v37:=Tryz.zeroValue47
 t70:=Tryz.underlying118
 a70:=Tryz.isAgg118
 z70:=Tryz.sizeOf118
 v70:=Tryz.zeroValue118
 t72:=Tryz.underlying120
 a72:=Tryz.isAgg120
 z72:=Tryz.sizeOf120
 v72:=Tryz.zeroValue120
 t75:=Tryz.underlying62
 a75:=Tryz.isAgg62
 z75:=Tryz.sizeOf62
 v75:=Tryz.zeroValue62
 t76:=Tryz.underlying166
 a76:=Tryz.isAgg166
 z76:=Tryz.sizeOf166
 v76:=Tryz.zeroValue166
 t127:=Tryz.underlying176
 a127:=Tryz.isAgg176
 z127:=Tryz.sizeOf176
 v127:=Tryz.zeroValue176
 t164:=Tryz.underlying153
 a164:=Tryz.isAgg153
 z164:=Tryz.sizeOf153
 v164:=Tryz.zeroValue153 }
theorem Tryz.Builder_Extra_156:Builder.Extra Tryz.prog Tryz.lays156_ren:={
 sizeBuilder:=by kernel_rfl
 liesBuilder:=by kernel_rfl
 t5:=Tryz.underlying5
 a5:=Tryz.isAgg5
 z5:=Tryz.sizeOf5
 v5:=Tryz.zeroValue5
 infoByte:=by kernel_rfl
 cellsByte:=by kernel_rfl
 sizeByte:=by kernel_rfl
 neB5:=by decide }
open Go.RowKit in
theorem Tryz.strings_Join (bk o c:Nat) (xs:List ByteArray) (sep:ByteArray) (w:World) (hcells:∀ (j:Nat) x,xs[j]?=some x→w.cell? ⟨bk,o + j,none⟩=some (.string x)) (hbk:bk < w.heap.size) (hN:xs.length≤140737488355328) (hcap:xs.length≤c) (hlen:(Lib.join (xs.map (·.data.toList)) sep.data.toList).length≤140737488355328) :
 Calls Tryz.prog 84 #[.slice (some ⟨bk,o,none⟩) xs.length c,.string sep] w fun e w'=>e=.returned (.string ⟨(Lib.join (xs.map (·.data.toList)) sep.data.toList).toArray⟩)∧Below w.heap.size w w':=Any.strings_Join Tryz.lays156 Tryz.Builder_Extra_156 bk o c xs sep w hcells hbk hN hcap hlen
end Go.Proofs
