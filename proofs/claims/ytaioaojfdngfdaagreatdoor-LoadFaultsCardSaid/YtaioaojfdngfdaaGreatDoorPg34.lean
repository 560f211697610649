/- An arm and the ops, taken in by the document. Conditions: those of each theorem. -/
import Derived.Test.YtaioaojfdngfdaaGreatDoorPg09
import Derived.Test.YtaioaojfdngfdaaGreatDoorPg33
import Derived.BigRegion
set_option linter.unusedVariables false
set_option linter.unusedSimpArgs false
set_option maxHeartbeats 12800000
namespace Go.Proofs.YtaioaojfdngfdaaGreatDoor
open Go.RowKit
set_option maxRecDepth 100000
theorem wcell {w:World} {bw gw c n:Nat} {l:List WordM} (ho:w.ownsRow bw 141 3 (.slice (some ⟨gw,0,none⟩) n c) n (flat encW l)) (j:Nat) (hj:j < n * 3):w.cell? ⟨gw,j,none⟩=(flat encW l)[j]?:=ho.cellAt j hj
theorem uB (B a:Nat) (d:Dp) (x0 x1 x2:WordM) (A:Option Addr) (c:Nat) (line:Int) (bw:Nat) (w:World) (h:DAt w B a d) (ho:w.ownsRow bw 141 3 (.slice A 3 c) 3 (flat encW [x0,x1,x2])) (ht:x0.text=kOn) (hx:∀ x ∈ [x0,x1,x2],x.text.length≤1000000000∧x.at_≤1000000000)
 (hL:d.L.length≤1000000) (hU:d.uses.length≤1000000) (hB:d.labels.length≤1000000) (ha:∀ v ∈ d.L,v.o.arms.length≤1000000) (hsf:d.L≠[]):Calls Tryz.prog 78 #[.pointer (some ⟨a,0,none⟩),.slice A 3 c,.int .i64 line] w fun e w'=>e=.returned (.tuple #[])∧mN w w' B a (takeD d.pl [x0,x1,x2] line):=by
 have hBa:=h.base
 have H:=hide h
 obtain ⟨gw,rfl,hbw,hgw⟩:=eK ho (by omega)
 have HWo:=hide ho
 have hx0:=hx x0 (by simp)
 have hx1:=hx x1 (by simp)
 have hx2:=hx x2 (by simp)
 obtain ⟨s,hs⟩:∃ s,s=bs x0.text:=⟨_,rfl⟩
 have Hs:=hide hs
 have hsl:s.toList=x0.text:=by rw [hs,ByteArray.toList_eq]
 have HKd:=hide (fun (X:World)=>dG x0.text X)
 rw [ht,← ht,← hs] at HKd
 rw [show eI x0.text=0 by rw [ht];rfl] at HKd
 have q0:(s.toList == [115,99,114,105,112,116])=false:=by rw [hsl,ht];rfl
 have q1:(s.toList == [108,97,98,101,108])=false:=by rw [hsl,ht];rfl
 have q2:(s.toList == [111,110])=true:=by rw [hsl,ht];rfl
 obtain ⟨i,hi⟩:∃ i,d.L.length=i + 1:=⟨d.L.length - 1,by have:=List.length_pos_iff.2 hsf;omega⟩
 have Hi:=hide hi
 have hil:i < d.L.length:=by omega
 have HE:=hide (show ∀ A4 c4,takeD d.pl [x0,x1,x2] line=({ d with L:=d.L.set i ⟨bQ (opAt d.L i).o x1.text,A4,c4⟩,uses:=d.uses++[⟨x2.text,line,((x2.at_:Nat):Int) + 1,(i:Int),(((opAt d.L i).o.arms.length:Nat):Int)⟩] }:Dp).pl from fun A4 c4=>by
  have ht':(aC [x0,x1,x2] 0).text=kOn:=ht
  have hlo:=s7 hi
  have e:takeD d.pl [x0,x1,x2] line={ d.pl with ops:=d.pl.ops.set (d.pl.ops.length - 1) (bQ (lastD d.pl) x1.text),uses:=d.pl.uses++[⟨x2.text,line,((x2.at_:Nat):Int) + 1,(((d.pl.ops.set (d.pl.ops.length - 1) (bQ (lastD d.pl) x1.text)).length:Nat):Int) - 1,(((lastD d.pl).arms.length:Nat):Int)⟩] }:=by
   unfold takeD dOp cD
   rw [ht']
   rfl
  rw [e,hlo,List.length_set,show d.pl.ops.length=i + 1 by rw [show d.pl.ops.length=d.L.length from List.length_map _,hi]]
  show DM.mk _ _ _ _ _ _ _ _ _ _=DM.mk _ _ _ ((d.L.set i _).map (·.o)) _ _ _ _ _ _
  rw [jX,show i + 1 - 1=i by omega,show (((i + 1:Nat):Int) - 1)=(i:Int) by omega]
  rfl)
 have k0:w.cell? ⟨gw,0,none⟩=some (.string (bs x0.text)):=HWo.out.cellAt 0 (by omega)
 have k1:w.cell? ⟨gw,1,none⟩=some (.bool x0.quoted):=HWo.out.cellAt 1 (by omega)
 have k2:w.cell? ⟨gw,2,none⟩=some (.int .i64 x0.at_):=HWo.out.cellAt 2 (by omega)
 rw [← Hs.out] at k0
 clear hsl ht hs h ho hx
 go_enter Tryz.func78,Tryz.ntmps78
 go_wp2_with fail
 refine (HKd.out w).mono ?_
 rintro e wz ⟨rfl,hbz⟩
 have oz:OnB B w wz:=OnB.none (Only.of_below hbz _)
 have HDz:=hide (H.out.same (Only.of_below hbz aA))
 have HOz:=hide oz
 have HWz:=hide (oz.own HWo.out rfl)
 clear k0 k1 k2 hbz oz
 obtain ⟨gO,hoA,hgB,hgl⟩:=HDz.out.ops.at_ (i:=i) hil
 have HoA:=hide hoA
 have hva:=ha _ (cJ hil)
 clear hgl hoA hi hsf
 have w1:IntKind.i64.wrap ((i:Int) + 1 - 1)=(i:Int):=by rw [show (i:Int) + 1 - 1=(i:Int) by omega];exact IntWalk.i64_in _ (by omega)
 have w2:IntKind.i64.wrap (i:Int)=(i:Int):=IntWalk.i64_in _ (by omega)
 have m0:wz.cell? ⟨gw,6,none⟩=some (.string (bs x2.text)):=HWz.out.cellAt 6 (by omega)
 have m1:wz.cell? ⟨gw,7,none⟩=some (.bool x2.quoted):=HWz.out.cellAt 7 (by omega)
 have m2:wz.cell? ⟨gw,8,none⟩=some (.int .i64 x2.at_):=HWz.out.cellAt 8 (by omega)
 have d3:=(show wz.cell? ⟨a,3,none⟩=some (.slice (some ⟨gO,0,none⟩) (i + 1) d.oc) from by have q:=HDz.out.cells.2.2.2.1;rw [HoA.out,Hi.out] at q;exact q)
 have HGw:=hide (show gw < wz.heap.size by have:=HOz.out.on.size;omega)
 go_upto_region 14 with fail
 generalize hX:World.alloc wz _=X
 have HLx:=hide (show Blk X wz.heap.size 141 #[.string (bs x2.text),.bool x2.quoted,.int .i64 x2.at_] by rw [← hX];exact Blk.new _ _ _)
 have HDx:=hide (show DAt X B a d by rw [← hX];exact HDz.out.alloc _)
 have HOx:=hide (show OnB B w X by rw [← hX];exact HOz.out.alloc _)
 have HWx:=hide ((show OnB B wz X by rw [← hX];exact (OnB.refl _ _).alloc _).own HWz.out rfl)
 obtain ⟨g9,hg9⟩:∃ g9,g9=wz.heap.size:=⟨_,rfl⟩
 have HN9:=hide (show ¬ a=g9 by have:=HDz.out.lt;omega)
 rw [← hg9] at HLx ⊢
 clear hX hg9 d3 m0 m1 m2 HGw
 have k0:X.cell? ⟨gw,0,none⟩=some (.string (bs x0.text)):=HWx.out.cellAt 0 (by omega)
 have k1:X.cell? ⟨gw,1,none⟩=some (.bool x0.quoted):=HWx.out.cellAt 1 (by omega)
 have k2:X.cell? ⟨gw,2,none⟩=some (.int .i64 x0.at_):=HWx.out.cellAt 2 (by omega)
 rw [← Hs.out] at k0
 obtain ⟨v,hv⟩:∃ v,v=opAt d.L i:=⟨_,rfl⟩
 have Hv:=hide hv
 rw [← hv] at HE hva
 clear hv
 obtain ⟨vo,vA,vc⟩:=v
 simp only at HE hva
 have HCl:=hide (fun (Y:World) (Q:DAt Y B a d)=>(show Y.cell? ⟨a,3,none⟩=some (.slice (some ⟨gO,0,none⟩) (i + 1) d.oc)∧Y.cell? ⟨gO,i * 7 + 4,none⟩=some (.slice vA vo.arms.length vc)∧Y.frozen? ⟨gO,i * 7 + 4,none⟩=false from by
  have q:=Q.cells.2.2.2.1
  rw [HoA.out,Hi.out] at q
  have r:=Q.ops
  rw [HoA.out] at r
  have r2:=r.cells (i:=i) hil
  rw [← Hv.out] at r2
  exact ⟨q,r2.1.2.2.2.2.1,r2.2 _⟩))
 have d3:=(HCl.out X HDx.out).1
 have o4:=(HCl.out X HDx.out).2.1
 have j1:(0:Int)≤(i:Int):=by omega
 have j2:(i:Int) < (i:Int) + 1:=by omega
 have j3:(i:Int) < ((i + 1:Nat):Int):=by omega
 go_upto_region 24 with fail
 clear k0 k1 k2 d3 o4
 obtain ⟨ia,hia,hz0,hz1,hz2⟩:=info_parts Tryz.infoArm
 obtain ⟨V0,hV0⟩:∃ V9,V9=X.drew:=⟨_,rfl⟩
 have HD0:=hide (HDx.out.drew)
 have HO0:=hide (HOx.out.drew)
 have HX0:=hide (show OnB B X V0 by rw [hV0];exact (OnB.refl _ _).drew)
 rw [← hV0] at HD0 HO0
 refine aS (l1:=?_) (l2:=?_) 24 (fun w'=>w'.cell? ⟨a,3,none⟩=some (.slice (some ⟨gO,0,none⟩) (i + 1) d.oc)∧w'.cell? ⟨gO,i * 7 + 4,none⟩=some (.slice vA vo.arms.length vc)∧w'.cell? ⟨gw,3,none⟩=some (.string (bs x1.text))) (by kernel_rfl) ?_ ?_ ?_ ?_ ?_ ?_ (fun hHeld=>?_)
 rotate_left 2
 ·simp
 ·kernel_rfl
 ·kernel_rfl
 ·simp only [List.take_succ_cons,List.take_zero];rfl
 ·simp only [List.drop_succ_cons,List.drop_zero];rfl
 ·rw [← hV0];exact ⟨(HCl.out V0 HD0.out).1,(HCl.out V0 HD0.out).2.1,wcell (HX0.out.own HWx.out rfl) 3 (by omega)⟩
 rw [← hV0] at hHeld ⊢
 clear hV0
 refine tk 0 ?_ rfl ?_ ?_
 rotate_left
 ·(intro w9 hS9;(try simp only [ga]);go_simp<;>rfl)
 refine tk 1 ?_ rfl ?_ ?_
 rotate_left
 ·(intro w9 hS9;(try simp only [ga]);go_simp<;>rfl)
 refine tk 2 ?_ rfl ?_ ?_
 rotate_left
 ·(intro w9 hS9;(try simp only [ga]);go_simp<;>rfl)
 refine tk 3 ?_ rfl ?_ ?_
 rotate_left
 ·(intro w9 hS9;(try simp only [ga]);go_simp<;>rfl)
 refine tk 4 ?_ rfl ?_ ?_
 rotate_left
 ·(intro w9 hS9;(try simp only [ga]);go_simp<;>rfl)
 refine tk 5 ?_ rfl ?_ ?_
 rotate_left
 ·(intro w9 hS9;(try simp only [ga]);go_simp<;>rfl)
 refine tk 6 ?_ rfl ?_ ?_
 rotate_left
 ·(intro w9 hS9;(try simp only [ga]);go_simp<;>rfl)
 refine tk 7 ?_ rfl ?_ ?_
 rotate_left
 ·(intro w9 hS9;(try simp only [ga]);go_simp<;>rfl)
 refine tk 8 ?_ rfl ?_ ?_
 rotate_left
 ·(intro w9 hS9;(try simp only [ga]);go_simp<;>rfl)
 refine tk 9 ?_ rfl ?_ ?_
 rotate_left
 ·(intro w9 hS9;(try simp only [ga]);go_simp<;>rfl)
 refine tk 10 ?_ rfl ?_ ?_
 rotate_left
 ·(intro w9 hS9;(try simp only [ga]);go_simp<;>rfl)
 refine tk 11 ?_ rfl ?_ ?_
 rotate_left
 ·(intro w9 hS9;(try simp only [ga]);go_simp<;>rfl)
 refine tk 12 ?_ rfl ?_ ?_
 rotate_left
 ·(intro w9 hS9;(try simp only [ga]);go_simp<;>rfl)
 refine tk 13 ?_ rfl ?_ ?_
 rotate_left
 ·(intro w9 hS9;(try simp only [ga]);go_simp<;>rfl)
 refine tk 14 ?_ rfl ?_ ?_
 rotate_left
 ·(intro w9 hS9;(try simp only [ga]);go_simp<;>rfl)
 refine tk 15 ?_ rfl ?_ ?_
 rotate_left
 ·(intro w9 hS9;(try simp only [ga]);go_simp<;>rfl)
 refine tk 16 ?_ rfl ?_ ?_
 rotate_left
 ·(intro w9 hS9;(try simp only [ga]);go_simp<;>rfl)
 refine tk 17 ?_ rfl ?_ ?_
 rotate_left
 ·(intro w9 hS9;(try simp only [ga]);go_simp<;>rfl)
 refine tk 18 ?_ rfl ?_ ?_
 rotate_left
 ·(intro w9 hS9;(try simp only [ga]);go_simp<;>rfl)
 refine tk 19 ?_ rfl ?_ ?_
 rotate_left
 ·(intro w9 hS9;(try simp only [ga]);go_simp<;>rfl)
 try simp only [Act.put,gp]
 refine rdy 20 rfl (fun K hK=>?_)
 try simp only [ga]
 try go_simp
 obtain ⟨V1,hV1⟩:∃ V9,V9=V0.alloc (.cells (encArm (⟨bs x1.text,0⟩:ArmM)).toArray 94):=⟨_,rfl⟩
 have HD1:=hide (HD0.out.alloc (.cells (encArm (⟨bs x1.text,0⟩:ArmM)).toArray 94))
 have HO1:=hide (HO0.out.alloc (.cells (encArm (⟨bs x1.text,0⟩:ArmM)).toArray 94))
 have HX1:=hide (HX0.out.alloc (.cells (encArm (⟨bs x1.text,0⟩:ArmM)).toArray 94))
 have HI1:=hide (Blk.new V0 94 (encArm (⟨bs x1.text,0⟩:ArmM)).toArray)
 rw [← hV1] at HD1 HO1 HX1 HI1
 simp only [encArm] at hV1
 rw [← hV1]
 clear hV1
 refine hK.out _ _ ⟨(HCl.out V1 HD1.out).1,(HCl.out V1 HD1.out).2.1,wcell (HX1.out.own HWx.out rfl) 3 (by omega)⟩ (fun hHeld=>?_)
 clear hK K
 try simp only [Act.put,gp]
 refine rdy 21 rfl (fun K hK=>?_)
 have hbs:B≤V1.heap.size:=by have:=HD1.out.lt;omega
 have harm:=HD1.out.ops.arms _ (cJ (l:=d.L) (k:=i) hil)
 rw [← Hv.out] at harm
 unfold armsV at harm
 simp only at harm
 have Harm:=hide harm
 clear harm
 refine aT V1 (by rfl) (.tmp 178) (.tmp 184) _ (by rfl) B 94 ia _ 2 24 Tryz.underlying90 hia hz0 hz1 hz2 rfl (by omega) (.slice vA vo.arms.length vc) vo.arms.length (flat encArm vo.arms) (by rfl) Harm.out aA (some ⟨V0.heap.size,0,none⟩) 1 1 (encArm (⟨bs x1.text,0⟩:ArmM)) (by rfl) (aY HI1.out (fun h=>h)) rfl (oN _) (by simp only [maxLen];omega) (by omega) hbs ?_
 intro v3 V3 hown2 hgr how2
 obtain ⟨A4,c4,rfl,hc4⟩:=aW hown2
 have HBk3:=hide (grownBlk HD1.out.blk hgr Harm.out (by decide))
 rw [aB,aB] at how2
 have hrow:V3.ownsRow B 92 7 (.slice (some ⟨gO,0,none⟩) d.L.length d.oc) d.L.length (flat encOp d.L):=by
  have q:=HD1.out.ops.row
  rw [HoA.out] at q
  exact aI (T:=94) q (aG hgr) (fun e he=>aZ Harm.out he) (by decide)
 have HKo:=hide (show V3.cell? ⟨gO,i * 7 + 4,none⟩=some (.slice vA vo.arms.length vc)∧V3.frozen? ⟨gO,i * 7 + 4,none⟩=false from by
  refine ⟨?_,hrow.frozenAt _⟩
  rw [hrow.cellAt _ (by have:=hil;omega),tG hil (by omega),← Hv.out]
  rfl)
 rw [aB] at hgr
 have HXg:=hide (OnB.of (B:=B) (aG hgr) (fun g hg=>aU Harm.out g (by rw [aB];exact hg)) (fun g hg=>aZ Harm.out (by rw [aB];exact hg)) (T:=94) rfl)
 have HX3:=hide (HX1.out.trans HXg.out)
 have HG3:=hide hgr
 have HOw3:=hide hown2
 have HW3:=hide how2
 clear hgr hown2 how2 hrow
 refine hK.out _ _ ⟨by rw [HBk3.out.cell,← HoA.out,← Hi.out];rfl,HKo.out.1,wcell (HX3.out.own HWx.out rfl) 3 (by omega)⟩ (fun hHeld=>?_)
 clear hK K
 refine tk 22 ?_ rfl ?_ ?_
 rotate_left
 ·(intro w9 hS9;(try simp only [ga]);go_simp<;>rfl)
 refine tk 23 ?_ rfl ?_ ?_
 rotate_left
 ·(intro w9 hS9;(try simp only [ga]);go_simp<;>rfl)
 try simp only [Act.put,gp]
 refine wpAnyH_done (by kernel_rfl) ?_ _
 try simp only [Exit.then]
 clear hHeld
 have kk:=HKo.out.1
 have kkf:=HKo.out.2
 have HF:=hide (HD1.out.armApp (d':={ d with L:=d.L.set i ⟨bQ vo x1.text,A4,c4⟩ }) (g:=gO) (i:=i) (A':=A4) (c':=c4) (v:=⟨bQ vo x1.text,A4,c4⟩) (x:=⟨bs x1.text,0⟩) HoA.out hil (by rw [← Hv.out];exact HG3.out) (by rw [← Hv.out];exact HOw3.out) (by rw [← Hv.out];exact HW3.out) rfl (by rw [← Hv.out];rfl) rfl (by rw [← Hv.out];simp [encOp,bQ]) rfl)
 rw [← Hv.out] at HF
 simp only at HF
 go_upto_region 31 with fail
 generalize hV:World.setCell V3 _ _=V
 have HDa:=hide (show DAt V B a { d with L:=d.L.set i ⟨bQ vo x1.text,A4,c4⟩ } by rw [← hV];exact HF.out.1)
 have HOa:=hide (show OnB B w V by rw [← hV];exact HO1.out.trans HF.out.2)
 have HLa:=hide (show Blk V g9 141 #[.string (bs x2.text),.bool x2.quoted,.int .i64 x2.at_] by rw [← hV];exact HF.out.2.keep _ _ _ (HX1.out.keep _ _ _ HLx.out rfl) rfl)
 have HE5:=hide (HE.out A4 c4)
 clear hV kk kkf HE hia hz0 hz1 hz2 ia
 obtain ⟨ia,hia,hz0,hz1,hz2⟩:=info_parts Tryz.infoDUse
 have wA:IntKind.i64.wrap (((x2.at_:Nat):Int) + 1)=((x2.at_:Nat):Int) + 1:=IntWalk.i64_in _ (by omega)
 obtain ⟨V0,hV0⟩:∃ V9,V9=V.drew:=⟨_,rfl⟩
 have HD0:=hide (HDa.out.drew)
 have HO0:=hide (HOa.out.drew)
 have HL0:=hide (HLa.out.drew)
 rw [← hV0] at HD0 HO0 HL0
 refine aS (l1:=?_) (l2:=?_) 19 (fun w'=>w'.cell? ⟨a,5,none⟩=some (.slice d.uA d.uses.length d.uc)∧w'.cell? ⟨g9,0,none⟩=some (.string (bs x2.text))∧w'.cell? ⟨g9,2,none⟩=some (.int .i64 x2.at_)) (by kernel_rfl) ?_ ?_ ?_ ?_ ?_ ?_ (fun hHeld=>?_)
 rotate_left 2
 ·simp
 ·kernel_rfl
 ·kernel_rfl
 ·simp only [List.take_succ_cons,List.take_zero];rfl
 ·simp only [List.drop_succ_cons,List.drop_zero];rfl
 ·rw [← hV0];exact ⟨HD0.out.cells.2.2.2.2.2.1,HL0.out.cell 0,HL0.out.cell 2⟩
 rw [← hV0] at hHeld ⊢
 clear hV0
 refine tk 0 ?_ rfl ?_ ?_
 rotate_left
 ·(intro w9 hS9;(try simp only [ga]);go_simp<;>rfl)
 refine tk 1 ?_ rfl ?_ ?_
 rotate_left
 ·(intro w9 hS9;(try simp only [ga]);go_simp<;>rfl)
 refine tk 2 ?_ rfl ?_ ?_
 rotate_left
 ·(intro w9 hS9;(try simp only [ga]);go_simp<;>rfl)
 refine tk 3 ?_ rfl ?_ ?_
 rotate_left
 ·(intro w9 hS9;(try simp only [ga]);go_simp<;>rfl)
 refine tk 4 ?_ rfl ?_ ?_
 rotate_left
 ·(intro w9 hS9;(try simp only [ga]);go_simp<;>rfl)
 refine tk 5 ?_ rfl ?_ ?_
 rotate_left
 ·(intro w9 hS9;(try simp only [ga]);go_simp<;>rfl)
 refine tk 6 ?_ rfl ?_ ?_
 rotate_left
 ·(intro w9 hS9;(try simp only [ga]);go_simp<;>rfl)
 refine tk 7 ?_ rfl ?_ ?_
 rotate_left
 ·(intro w9 hS9;(try simp only [ga]);go_simp<;>rfl)
 refine tk 8 ?_ rfl ?_ ?_
 rotate_left
 ·(intro w9 hS9;(try simp only [ga]);go_simp<;>rfl)
 refine tk 9 ?_ rfl ?_ ?_
 rotate_left
 ·(intro w9 hS9;(try simp only [ga]);go_simp<;>rfl)
 refine tk 10 ?_ rfl ?_ ?_
 rotate_left
 ·(intro w9 hS9;(try simp only [ga]);go_simp<;>rfl)
 refine tk 11 ?_ rfl ?_ ?_
 rotate_left
 ·(intro w9 hS9;(try simp only [ga]);go_simp<;>rfl)
 refine tk 12 ?_ rfl ?_ ?_
 rotate_left
 ·(intro w9 hS9;(try simp only [ga]);go_simp<;>rfl)
 refine tk 13 ?_ rfl ?_ ?_
 rotate_left
 ·(intro w9 hS9;(try simp only [ga]);go_simp<;>rfl)
 refine tk 14 ?_ rfl ?_ ?_
 rotate_left
 ·(intro w9 hS9;(try simp only [ga]);go_simp<;>rfl)
 try simp only [Act.put,gp]
 refine rdy 15 rfl (fun K hK=>?_)
 try simp only [ga]
 try go_simp
 obtain ⟨V1,hV1⟩:∃ V9,V9=V0.alloc (.cells (encUse ⟨x2.text,line,((x2.at_:Nat):Int) + 1,(i:Int),((vo.arms.length:Nat):Int)⟩).toArray 88):=⟨_,rfl⟩
 have HD1:=hide (HD0.out.alloc (.cells (encUse ⟨x2.text,line,((x2.at_:Nat):Int) + 1,(i:Int),((vo.arms.length:Nat):Int)⟩).toArray 88))
 have HO1:=hide (HO0.out.alloc (.cells (encUse ⟨x2.text,line,((x2.at_:Nat):Int) + 1,(i:Int),((vo.arms.length:Nat):Int)⟩).toArray 88))
 have HL1:=hide (HL0.out.alloc (.cells (encUse ⟨x2.text,line,((x2.at_:Nat):Int) + 1,(i:Int),((vo.arms.length:Nat):Int)⟩).toArray 88))
 have HI1:=hide (Blk.new V0 88 (encUse ⟨x2.text,line,((x2.at_:Nat):Int) + 1,(i:Int),((vo.arms.length:Nat):Int)⟩).toArray)
 rw [← hV1] at HD1 HO1 HL1 HI1
 simp only [encUse] at hV1
 rw [← hV1]
 clear hV1
 refine hK.out _ _ ⟨HD1.out.cells.2.2.2.2.2.1,HL1.out.cell 0,HL1.out.cell 2⟩ (fun hHeld=>?_)
 clear hK K
 try simp only [Act.put,gp]
 refine rdy 16 rfl (fun K hK=>?_)
 have hbs:B≤V1.heap.size:=by have:=HD1.out.lt;omega
 refine aT V1 (by rfl) (.tmp 204) (.tmp 215) _ (by rfl) B 88 ia _ 5 48 Tryz.underlying82 hia hz0 hz1 hz2 rfl (by omega) (.slice d.uA d.uses.length d.uc) d.uses.length (flat encUse d.uses) (by rfl) HD1.out.uses aA (some ⟨V0.heap.size,0,none⟩) 1 1 (encUse ⟨x2.text,line,((x2.at_:Nat):Int) + 1,(i:Int),((vo.arms.length:Nat):Int)⟩) (by rfl) (aY HI1.out (fun h=>h)) rfl (gP _) (by simp only [maxLen];omega) (by omega) hbs ?_
 intro v3 V3 hown2 hgr how2
 obtain ⟨A7,c7,rfl,hc7⟩:=aW hown2
 have HBk3:=hide (grownBlk HD1.out.blk hgr HD1.out.uses (by decide))
 have HL3:=hide (grownBlk HL1.out hgr HD1.out.uses (by decide))
 rw [aB] at hgr
 have HG3:=hide hgr
 have HOw3:=hide hown2
 clear hgr hown2 how2
 refine hK.out _ _ ⟨by rw [HBk3.out.cell];rfl,HL3.out.cell 0,HL3.out.cell 2⟩ (fun hHeld=>?_)
 clear hK K
 refine tk 17 ?_ rfl ?_ ?_
 rotate_left
 ·(intro w9 hS9;(try simp only [ga]);go_simp<;>rfl)
 refine tk 18 ?_ rfl ?_ ?_
 rotate_left
 ·(intro w9 hS9;(try simp only [ga]);go_simp<;>rfl)
 try simp only [Act.put,gp]
 refine wpAnyH_done (by kernel_rfl) ?_ _
 try simp only [Exit.then]
 clear hHeld
 have f5:=HBk3.out.frozen 5
 have k5:V3.cell? ⟨a,5,none⟩=some (.slice d.uA d.uses.length d.uc):=by rw [HBk3.out.cell];rfl
 have HF:=hide (HD1.out.use (d':={ ({ d with L:=d.L.set i ⟨bQ vo x1.text,A4,c4⟩ }:Dp) with uses:=d.uses++[⟨x2.text,line,((x2.at_:Nat):Int) + 1,(i:Int),((vo.arms.length:Nat):Int)⟩],uA:=A7,uc:=c7 }) HG3.out HOw3.out rfl)
 go_wp2_with fail
 go_end0
 refine ⟨rfl,⟨_,HF.out.1,?_⟩,HO1.out.trans HF.out.2⟩
 rw [HE5.out]
 rfl
end Go.Proofs.YtaioaojfdngfdaaGreatDoor
