/- The head, and an arm, taken in by the document. Conditions: those of each theorem. -/
import Derived.Test.YtaioaojfdngfdaaGreatDoorPg09
import Derived.Test.YtaioaojfdngfdaaGreatDoorPg32
import Derived.BigRegion
set_option linter.unusedVariables false
set_option linter.unusedSimpArgs false
set_option maxHeartbeats 12800000
namespace Go.Proofs.YtaioaojfdngfdaaGreatDoor
open Go.RowKit
set_option maxRecDepth 100000
theorem nJ (B a:Nat) (d:Dp) (x0 x1 x2 x3:WordM) (A:Option Addr) (c:Nat) (line:Int) (bw:Nat) (w:World) (h:DAt w B a d) (ho:w.ownsRow bw 141 3 (.slice A 4 c) 4 (flat encW [x0,x1,x2,x3])) (ht:x0.text=aH) (hx:∀ x ∈ [x0,x1,x2,x3],x.text.length≤1000000000∧x.at_≤1000000000)
 (hL:d.L.length≤1000000) (hU:d.uses.length≤1000000) (hB:d.labels.length≤1000000) (ha:∀ v ∈ d.L,v.o.arms.length≤1000000):Calls Tryz.prog 78 #[.pointer (some ⟨a,0,none⟩),.slice A 4 c,.int .i64 line] w fun e w'=>e=.returned (.tuple #[])∧mN w w' B a (takeD d.pl [x0,x1,x2,x3] line):=by
 have hBa:=h.base
 have H:=hide h
 obtain ⟨gw,rfl,hbw,hgw⟩:=eK ho (by omega)
 have HWo:=hide ho
 have hx0:=hx x0 (by simp)
 have hx1:=hx x1 (by simp)
 have hx2:=hx x2 (by simp)
 have hx3:=hx x3 (by simp)
 obtain ⟨s,hs⟩:∃ s,s=bs x0.text:=⟨_,rfl⟩
 have Hs:=hide hs
 have hsl:s.toList=x0.text:=by rw [hs,ByteArray.toList_eq]
 have HKd:=hide (fun (X:World)=>dG x0.text X)
 rw [ht,← ht,← hs] at HKd
 rw [show eI x0.text=0 by rw [ht];rfl] at HKd
 have q0:(s.toList == [115,99,114,105,112,116])=true:=by rw [hsl,ht];rfl
 have HE:=hide (show takeD d.pl [x0,x1,x2,x3] line=({ d with head:=true,name:=bs x1.text,dl:=(aF 100 x2.text).1,jm:=(aF 106 x3.text).1 }:Dp).pl by
  have ht':(aC [x0,x1,x2,x3] 0).text=aH:=ht
  unfold takeD dOp cD
  rw [ht']
  rfl)
 have HN1:=hide (fun (X:World)=>jC x2.text X hx2.1)
 have HN2:=hide (fun (X:World)=>jA x3.text X hx3.1)
 have k0:w.cell? ⟨gw,0,none⟩=some (.string (bs x0.text)):=HWo.out.cellAt 0 (by omega)
 have k1:w.cell? ⟨gw,1,none⟩=some (.bool x0.quoted):=HWo.out.cellAt 1 (by omega)
 have k2:w.cell? ⟨gw,2,none⟩=some (.int .i64 x0.at_):=HWo.out.cellAt 2 (by omega)
 rw [← Hs.out] at k0
 clear hsl ht hs h ho hx
 go_enter Tryz.func78,Tryz.ntmps78
 go_wp2_with fail
 refine (HKd.out w).mono ?_
 rintro e wz ⟨rfl,hbz⟩
 have oz:OnB B w wz:=OnB.none (Only.of_below hbz _)
 have HDz:=hide (H.out.same (Only.of_below hbz aA))
 have HOz:=hide oz
 have HWz:=hide (oz.own HWo.out rfl)
 clear k0 k1 k2 hbz oz
 have w1:IntKind.i64.wrap ((d.L.length:Int) - 1)=(d.L.length:Int) - 1:=IntWalk.i64_in _ (by omega)
 have w2:IntKind.i64.wrap ((d.L.length:Int) - 1 + 1)=(d.L.length:Int):=by rw [Int.sub_add_cancel];exact IntWalk.i64_in _ (by omega)
 have w3:IntKind.i64.wrap (d.L.length:Int)=(d.L.length:Int):=IntWalk.i64_in _ (by omega)
 have m0:wz.cell? ⟨gw,9,none⟩=some (.string (bs x3.text)):=HWz.out.cellAt 9 (by omega)
 have m1:wz.cell? ⟨gw,10,none⟩=some (.bool x3.quoted):=HWz.out.cellAt 10 (by omega)
 have m2:wz.cell? ⟨gw,11,none⟩=some (.int .i64 x3.at_):=HWz.out.cellAt 11 (by omega)
 have d3:=HDz.out.cells.2.2.2.1
 have HGw:=hide (show gw < wz.heap.size by have:=HOz.out.on.size;omega)
 go_upto_region 14 with fail
 generalize hX:World.alloc wz _=X
 have HLx:=hide (show Blk X wz.heap.size 141 #[.string (bs x3.text),.bool x3.quoted,.int .i64 x3.at_] by rw [← hX];exact Blk.new _ _ _)
 have HDx:=hide (show DAt X B a d by rw [← hX];exact HDz.out.alloc _)
 have HOx:=hide (show OnB B w X by rw [← hX];exact HOz.out.alloc _)
 have HWx:=hide ((show OnB B wz X by rw [← hX];exact (OnB.refl _ _).alloc _).own HWz.out rfl)
 obtain ⟨g9,hg9⟩:∃ g9,g9=wz.heap.size:=⟨_,rfl⟩
 have HN9:=hide (show ¬ a=g9 by have:=HDz.out.lt;omega)
 rw [← hg9] at HLx ⊢
 clear hX hg9 d3 m0 m1 m2 HGw
 have k0:X.cell? ⟨gw,0,none⟩=some (.string (bs x0.text)):=HWx.out.cellAt 0 (by omega)
 have k1:X.cell? ⟨gw,1,none⟩=some (.bool x0.quoted):=HWx.out.cellAt 1 (by omega)
 have k2:X.cell? ⟨gw,2,none⟩=some (.int .i64 x0.at_):=HWx.out.cellAt 2 (by omega)
 rw [← Hs.out] at k0
 have m0:X.cell? ⟨gw,3,none⟩=some (.string (bs x1.text)):=HWx.out.cellAt 3 (by omega)
 have m1:X.cell? ⟨gw,4,none⟩=some (.bool x1.quoted):=HWx.out.cellAt 4 (by omega)
 have m2:X.cell? ⟨gw,5,none⟩=some (.int .i64 x1.at_):=HWx.out.cellAt 5 (by omega)
 have n0:X.cell? ⟨gw,6,none⟩=some (.string (bs x2.text)):=HWx.out.cellAt 6 (by omega)
 have n1:X.cell? ⟨gw,7,none⟩=some (.bool x2.quoted):=HWx.out.cellAt 7 (by omega)
 have n2:X.cell? ⟨gw,8,none⟩=some (.int .i64 x2.at_):=HWx.out.cellAt 8 (by omega)
 have d6:=HDx.out.cells.2.2.2.2.2.2.1
 have d0:=HDx.out.cells.1
 have f6:=HDx.out.frozen 6
 have f0:=HDx.out.frozen 0
 have hax:=HDx.out.lt
 have hNa:¬ a=gw:=fun e=>by
  obtain ⟨cs,hc⟩:=aZ HWx.out rfl
  exact Blk.ne_ hc HDx.out.blk (by decide) e.symm
 have hNb:¬ gw=a:=fun e=>hNa e.symm
 obtain ⟨N1,hN1⟩:∃ N,N=aF 100 x2.text:=⟨_,rfl⟩
 obtain ⟨N2,hN2⟩:∃ N,N=aF 106 x3.text:=⟨_,rfl⟩
 rw [← hN1] at HN1 HE
 rw [← hN2] at HN2 HE
 clear hN1 hN2
 obtain ⟨N11,N12⟩:=N1
 obtain ⟨N21,N22⟩:=N2
 simp only at HN1 HN2 HE
 go_wp2_with fail
 generalize hV:World.setCell (World.setCell X _ _) _ _=V
 have R1:=HDx.out.cell (d':={ d with head:=true }) 6 (.bool true) rfl
 have R2:=R1.1.cell (d':={ d with head:=true,name:=bs x1.text }) 0 (.string (bs x1.text)) rfl
 have HDv:=hide (show DAt V B a { d with head:=true,name:=bs x1.text } by rw [← hV];exact R2.1)
 have HOv:=hide (show OnB B w V by rw [← hV];exact (HOx.out.trans R1.2).trans R2.2)
 have HWv:=hide ((show OnB B X V by rw [← hV];exact R1.2.trans R2.2).own HWx.out rfl)
 clear hV R1 R2 d6 d0 f6 f0 k0 k1 k2 m0 m1 m2 n0 n1 n2
 refine (HN1.out V).mono ?_
 rintro e wy ⟨rfl,rfl⟩
 have d1:=HDv.out.cells.2.1
 have f1:=HDv.out.frozen 1
 have m0:wy.cell? ⟨gw,9,none⟩=some (.string (bs x3.text)):=HWv.out.cellAt 9 (by omega)
 have m1:wy.cell? ⟨gw,10,none⟩=some (.bool x3.quoted):=HWv.out.cellAt 10 (by omega)
 have m2:wy.cell? ⟨gw,11,none⟩=some (.int .i64 x3.at_):=HWv.out.cellAt 11 (by omega)
 go_wp2_with fail
 generalize hV:World.setCell wy _ _=V
 have R3:=HDv.out.cell (d':={ d with head:=true,name:=bs x1.text,dl:=N11 }) 1 (.int .i64 N11) rfl
 have HDu:=hide (show DAt V B a { d with head:=true,name:=bs x1.text,dl:=N11 } by rw [← hV];exact R3.1)
 have HOu:=hide (show OnB B w V by rw [← hV];exact HOv.out.trans R3.2)
 clear hV R3 d1 f1 m0 m1 m2
 refine (HN2.out V).mono ?_
 rintro e wu ⟨rfl,rfl⟩
 have d2:=HDu.out.cells.2.2.1
 have f2:=HDu.out.frozen 2
 go_wp2_with fail
 refine bodyPost_ret (v:=.tuple #[]) (by simp [results,Tryz.results78,go_sem]) rfl ?_
 have R4:=HDu.out.cell (d':={ d with head:=true,name:=bs x1.text,dl:=N11,jm:=N21 }) 2 (.int .i64 N21) rfl
 exact ⟨rfl,⟨_,R4.1,by rw [HE.out]⟩,HOu.out.trans R4.2⟩
theorem mT (B a:Nat) (d:Dp) (x0 x1:WordM) (A:Option Addr) (c:Nat) (line:Int) (bw:Nat) (w:World) (h:DAt w B a d) (ho:w.ownsRow bw 141 3 (.slice A 2 c) 2 (flat encW [x0,x1])) (ht:x0.text=aQ) (hx:∀ x ∈ [x0,x1],x.text.length≤1000000000∧x.at_≤1000000000)
 (hL:d.L.length≤1000000) (hU:d.uses.length≤1000000) (hB:d.labels.length≤1000000) (ha:∀ v ∈ d.L,v.o.arms.length≤1000000) (hsf:d.L≠[]):Calls Tryz.prog 78 #[.pointer (some ⟨a,0,none⟩),.slice A 2 c,.int .i64 line] w fun e w'=>e=.returned (.tuple #[])∧mN w w' B a (takeD d.pl [x0,x1] line):=by
 have hBa:=h.base
 have H:=hide h
 obtain ⟨gw,rfl,hbw,hgw⟩:=eK ho (by omega)
 have HWo:=hide ho
 have hx0:=hx x0 (by simp)
 have hx1:=hx x1 (by simp)
 obtain ⟨s,hs⟩:∃ s,s=bs x0.text:=⟨_,rfl⟩
 have Hs:=hide hs
 have hsl:s.toList=x0.text:=by rw [hs,ByteArray.toList_eq]
 have HKd:=hide (fun (X:World)=>dG x0.text X)
 rw [ht,← ht,← hs] at HKd
 rw [show eI x0.text=0 by rw [ht];rfl] at HKd
 have q0:(s.toList == [115,99,114,105,112,116])=false:=by rw [hsl,ht];rfl
 have q1:(s.toList == [108,97,98,101,108])=false:=by rw [hsl,ht];rfl
 have q2:(s.toList == [111,110])=false:=by rw [hsl,ht];rfl
 have q3:(s.toList == [116,105,109,101,111,117,116])=true:=by rw [hsl,ht];rfl
 have HE:=hide (show takeD d.pl [x0,x1] line=({ d with tm:=true,uses:=d.uses++[⟨x1.text,line,((x1.at_:Nat):Int) + 1,((d.L.length:Nat):Int) - 1,-2⟩] }:Dp).pl by
  have ht':(aC [x0,x1] 0).text=aQ:=ht
  have e:takeD d.pl [x0,x1] line={ d.pl with tm:=true,uses:=d.pl.uses++[⟨x1.text,line,((x1.at_:Nat):Int) + 1,((d.pl.ops.length:Nat):Int) - 1,-2⟩] }:=by
   unfold takeD dOp cD
   rw [ht']
   rfl
  rw [e,show d.pl.ops.length=d.L.length from List.length_map _]
  rfl)
 have k0:w.cell? ⟨gw,0,none⟩=some (.string (bs x0.text)):=HWo.out.cellAt 0 (by omega)
 have k1:w.cell? ⟨gw,1,none⟩=some (.bool x0.quoted):=HWo.out.cellAt 1 (by omega)
 have k2:w.cell? ⟨gw,2,none⟩=some (.int .i64 x0.at_):=HWo.out.cellAt 2 (by omega)
 rw [← Hs.out] at k0
 clear hsl ht hs h ho hx
 go_enter Tryz.func78,Tryz.ntmps78
 go_wp2_with fail
 refine (HKd.out w).mono ?_
 rintro e wz ⟨rfl,hbz⟩
 have oz:OnB B w wz:=OnB.none (Only.of_below hbz _)
 have HDz:=hide (H.out.same (Only.of_below hbz aA))
 have HOz:=hide oz
 have HWz:=hide (oz.own HWo.out rfl)
 clear k0 k1 k2 hbz oz
 have w1:IntKind.i64.wrap ((d.L.length:Int) - 1)=(d.L.length:Int) - 1:=IntWalk.i64_in _ (by omega)
 have w2:IntKind.i64.wrap ((d.L.length:Int) - 1 + 1)=(d.L.length:Int):=by rw [Int.sub_add_cancel];exact IntWalk.i64_in _ (by omega)
 have w3:IntKind.i64.wrap (d.L.length:Int)=(d.L.length:Int):=IntWalk.i64_in _ (by omega)
 have m0:wz.cell? ⟨gw,3,none⟩=some (.string (bs x1.text)):=HWz.out.cellAt 3 (by omega)
 have m1:wz.cell? ⟨gw,4,none⟩=some (.bool x1.quoted):=HWz.out.cellAt 4 (by omega)
 have m2:wz.cell? ⟨gw,5,none⟩=some (.int .i64 x1.at_):=HWz.out.cellAt 5 (by omega)
 have d3:=HDz.out.cells.2.2.2.1
 have HGw:=hide (show gw < wz.heap.size by have:=HOz.out.on.size;omega)
 go_upto_region 14 with fail
 generalize hX:World.alloc wz _=X
 have HLx:=hide (show Blk X wz.heap.size 141 #[.string (bs x1.text),.bool x1.quoted,.int .i64 x1.at_] by rw [← hX];exact Blk.new _ _ _)
 have HDx:=hide (show DAt X B a d by rw [← hX];exact HDz.out.alloc _)
 have HOx:=hide (show OnB B w X by rw [← hX];exact HOz.out.alloc _)
 have HWx:=hide ((show OnB B wz X by rw [← hX];exact (OnB.refl _ _).alloc _).own HWz.out rfl)
 obtain ⟨g9,hg9⟩:∃ g9,g9=wz.heap.size:=⟨_,rfl⟩
 have HN9:=hide (show ¬ a=g9 by have:=HDz.out.lt;omega)
 rw [← hg9] at HLx ⊢
 clear hX hg9 d3 m0 m1 m2 HGw
 have k0:X.cell? ⟨gw,0,none⟩=some (.string (bs x0.text)):=HWx.out.cellAt 0 (by omega)
 have k1:X.cell? ⟨gw,1,none⟩=some (.bool x0.quoted):=HWx.out.cellAt 1 (by omega)
 have k2:X.cell? ⟨gw,2,none⟩=some (.int .i64 x0.at_):=HWx.out.cellAt 2 (by omega)
 rw [← Hs.out] at k0
 have d9:=HDx.out.cells.2.2.2.2.2.2.2.2.1
 have f9:=HDx.out.frozen 8
 go_upto_region 31 with fail
 generalize hV:World.setCell X _ _=V
 have R1:=HDx.out.cell (d':={ d with tm:=true }) 8 (.bool true) rfl
 have HDa:=hide (show DAt V B a { d with tm:=true } by rw [← hV];exact R1.1)
 have HOa:=hide (show OnB B w V by rw [← hV];exact HOx.out.trans R1.2)
 have HLa:=hide (show Blk V g9 141 #[.string (bs x1.text),.bool x1.quoted,.int .i64 x1.at_] by rw [← hV];exact R1.2.keep _ _ _ HLx.out rfl)
 clear hV R1 d9 f9 k0 k1 k2
 obtain ⟨ia,hia,hz0,hz1,hz2⟩:=info_parts Tryz.infoDUse
 have wA:IntKind.i64.wrap (((x1.at_:Nat):Int) + 1)=((x1.at_:Nat):Int) + 1:=IntWalk.i64_in _ (by omega)
 obtain ⟨V0,hV0⟩:∃ V9,V9=V.drew:=⟨_,rfl⟩
 have HD0:=hide (HDa.out.drew)
 have HO0:=hide (HOa.out.drew)
 have HL0:=hide (HLa.out.drew)
 rw [← hV0] at HD0 HO0 HL0
 refine aS (l1:=?_) (l2:=?_) 19 (fun w'=>w'.cell? ⟨a,5,none⟩=some (.slice d.uA d.uses.length d.uc)∧w'.cell? ⟨g9,0,none⟩=some (.string (bs x1.text))∧w'.cell? ⟨g9,2,none⟩=some (.int .i64 x1.at_)) (by kernel_rfl) ?_ ?_ ?_ ?_ ?_ ?_ (fun hHeld=>?_)
 rotate_left 2
 ·simp
 ·kernel_rfl
 ·kernel_rfl
 ·simp only [List.take_succ_cons,List.take_zero];rfl
 ·simp only [List.drop_succ_cons,List.drop_zero];rfl
 ·rw [← hV0];exact ⟨HD0.out.cells.2.2.2.2.2.1,HL0.out.cell 0,HL0.out.cell 2⟩
 rw [← hV0] at hHeld ⊢
 clear hV0
 refine tk 0 ?_ rfl ?_ ?_
 rotate_left
 ·(intro w9 hS9;(try simp only [ga]);go_simp<;>rfl)
 refine tk 1 ?_ rfl ?_ ?_
 rotate_left
 ·(intro w9 hS9;(try simp only [ga]);go_simp<;>rfl)
 refine tk 2 ?_ rfl ?_ ?_
 rotate_left
 ·(intro w9 hS9;(try simp only [ga]);go_simp<;>rfl)
 refine tk 3 ?_ rfl ?_ ?_
 rotate_left
 ·(intro w9 hS9;(try simp only [ga]);go_simp<;>rfl)
 refine tk 4 ?_ rfl ?_ ?_
 rotate_left
 ·(intro w9 hS9;(try simp only [ga]);go_simp<;>rfl)
 refine tk 5 ?_ rfl ?_ ?_
 rotate_left
 ·(intro w9 hS9;(try simp only [ga]);go_simp<;>rfl)
 refine tk 6 ?_ rfl ?_ ?_
 rotate_left
 ·(intro w9 hS9;(try simp only [ga]);go_simp<;>rfl)
 refine tk 7 ?_ rfl ?_ ?_
 rotate_left
 ·(intro w9 hS9;(try simp only [ga]);go_simp<;>rfl)
 refine tk 8 ?_ rfl ?_ ?_
 rotate_left
 ·(intro w9 hS9;(try simp only [ga]);go_simp<;>rfl)
 refine tk 9 ?_ rfl ?_ ?_
 rotate_left
 ·(intro w9 hS9;(try simp only [ga]);go_simp<;>rfl)
 refine tk 10 ?_ rfl ?_ ?_
 rotate_left
 ·(intro w9 hS9;(try simp only [ga]);go_simp<;>rfl)
 refine tk 11 ?_ rfl ?_ ?_
 rotate_left
 ·(intro w9 hS9;(try simp only [ga]);go_simp<;>rfl)
 refine tk 12 ?_ rfl ?_ ?_
 rotate_left
 ·(intro w9 hS9;(try simp only [ga]);go_simp<;>rfl)
 refine tk 13 ?_ rfl ?_ ?_
 rotate_left
 ·(intro w9 hS9;(try simp only [ga]);go_simp<;>rfl)
 refine tk 14 ?_ rfl ?_ ?_
 rotate_left
 ·(intro w9 hS9;(try simp only [ga]);go_simp<;>rfl)
 try simp only [Act.put,gp]
 refine rdy 15 rfl (fun K hK=>?_)
 try simp only [ga]
 try go_simp
 obtain ⟨V1,hV1⟩:∃ V9,V9=V0.alloc (.cells (encUse ⟨x1.text,line,((x1.at_:Nat):Int) + 1,((d.L.length:Nat):Int) - 1,-2⟩).toArray 88):=⟨_,rfl⟩
 have HD1:=hide (HD0.out.alloc (.cells (encUse ⟨x1.text,line,((x1.at_:Nat):Int) + 1,((d.L.length:Nat):Int) - 1,-2⟩).toArray 88))
 have HO1:=hide (HO0.out.alloc (.cells (encUse ⟨x1.text,line,((x1.at_:Nat):Int) + 1,((d.L.length:Nat):Int) - 1,-2⟩).toArray 88))
 have HL1:=hide (HL0.out.alloc (.cells (encUse ⟨x1.text,line,((x1.at_:Nat):Int) + 1,((d.L.length:Nat):Int) - 1,-2⟩).toArray 88))
 have HI1:=hide (Blk.new V0 88 (encUse ⟨x1.text,line,((x1.at_:Nat):Int) + 1,((d.L.length:Nat):Int) - 1,-2⟩).toArray)
 rw [← hV1] at HD1 HO1 HL1 HI1
 simp only [encUse] at hV1
 rw [← hV1]
 clear hV1
 refine hK.out _ _ ⟨HD1.out.cells.2.2.2.2.2.1,HL1.out.cell 0,HL1.out.cell 2⟩ (fun hHeld=>?_)
 clear hK K
 try simp only [Act.put,gp]
 refine rdy 16 rfl (fun K hK=>?_)
 have hbs:B≤V1.heap.size:=by have:=HD1.out.lt;omega
 refine aT V1 (by rfl) (.tmp 204) (.tmp 215) _ (by rfl) B 88 ia _ 5 48 Tryz.underlying82 hia hz0 hz1 hz2 rfl (by omega) (.slice d.uA d.uses.length d.uc) d.uses.length (flat encUse d.uses) (by rfl) HD1.out.uses aA (some ⟨V0.heap.size,0,none⟩) 1 1 (encUse ⟨x1.text,line,((x1.at_:Nat):Int) + 1,((d.L.length:Nat):Int) - 1,-2⟩) (by rfl) (aY HI1.out (fun h=>h)) rfl (gP _) (by simp only [maxLen];omega) (by omega) hbs ?_
 intro v3 V3 hown2 hgr how2
 obtain ⟨A4,c4,rfl,hc4⟩:=aW hown2
 have HBk3:=hide (grownBlk HD1.out.blk hgr HD1.out.uses (by decide))
 have HL3:=hide (grownBlk HL1.out hgr HD1.out.uses (by decide))
 rw [aB] at hgr
 have HG3:=hide hgr
 have HOw3:=hide hown2
 clear hgr hown2 how2
 refine hK.out _ _ ⟨by rw [HBk3.out.cell];rfl,HL3.out.cell 0,HL3.out.cell 2⟩ (fun hHeld=>?_)
 clear hK K
 refine tk 17 ?_ rfl ?_ ?_
 rotate_left
 ·(intro w9 hS9;(try simp only [ga]);go_simp<;>rfl)
 refine tk 18 ?_ rfl ?_ ?_
 rotate_left
 ·(intro w9 hS9;(try simp only [ga]);go_simp<;>rfl)
 try simp only [Act.put,gp]
 refine wpAnyH_done (by kernel_rfl) ?_ _
 try simp only [Exit.then]
 clear hHeld
 have f5:=HBk3.out.frozen 5
 have k5:V3.cell? ⟨a,5,none⟩=some (.slice d.uA d.uses.length d.uc):=by rw [HBk3.out.cell];rfl
 have HF:=hide (HD1.out.use (d':={ ({ d with tm:=true }:Dp) with uses:=d.uses++[⟨x1.text,line,((x1.at_:Nat):Int) + 1,((d.L.length:Nat):Int) - 1,-2⟩],uA:=A4,uc:=c4 }) HG3.out HOw3.out rfl)
 go_wp2_with fail
 go_end0
 refine ⟨rfl,⟨_,HF.out.1,?_⟩,HO1.out.trans HF.out.2⟩
 rw [HE.out]
 rfl
theorem sG (B a:Nat) (d:Dp) (x0 x1:WordM) (A:Option Addr) (c:Nat) (line:Int) (bw:Nat) (w:World) (h:DAt w B a d) (ho:w.ownsRow bw 141 3 (.slice A 2 c) 2 (flat encW [x0,x1])) (ht:x0.text=dK) (hx:∀ x ∈ [x0,x1],x.text.length≤1000000000∧x.at_≤1000000000)
 (hL:d.L.length≤1000000) (hU:d.uses.length≤1000000) (hB:d.labels.length≤1000000) (ha:∀ v ∈ d.L,v.o.arms.length≤1000000) (hsf:d.L≠[]):Calls Tryz.prog 78 #[.pointer (some ⟨a,0,none⟩),.slice A 2 c,.int .i64 line] w fun e w'=>e=.returned (.tuple #[])∧mN w w' B a (takeD d.pl [x0,x1] line):=by
 have hBa:=h.base
 have H:=hide h
 obtain ⟨gw,rfl,hbw,hgw⟩:=eK ho (by omega)
 have HWo:=hide ho
 have hx0:=hx x0 (by simp)
 have hx1:=hx x1 (by simp)
 obtain ⟨s,hs⟩:∃ s,s=bs x0.text:=⟨_,rfl⟩
 have Hs:=hide hs
 have hsl:s.toList=x0.text:=by rw [hs,ByteArray.toList_eq]
 have HKd:=hide (fun (X:World)=>dG x0.text X)
 rw [ht,← ht,← hs] at HKd
 rw [show eI x0.text=0 by rw [ht];rfl] at HKd
 have q0:(s.toList == [115,99,114,105,112,116])=false:=by rw [hsl,ht];rfl
 have q1:(s.toList == [108,97,98,101,108])=false:=by rw [hsl,ht];rfl
 have q2:(s.toList == [111,110])=false:=by rw [hsl,ht];rfl
 have q3:(s.toList == [116,105,109,101,111,117,116])=false:=by rw [hsl,ht];rfl
 have q4:(s.toList == [101,111,102])=true:=by rw [hsl,ht];rfl
 have HE:=hide (show takeD d.pl [x0,x1] line=({ d with ef:=true,uses:=d.uses++[⟨x1.text,line,((x1.at_:Nat):Int) + 1,((d.L.length:Nat):Int) - 1,-3⟩] }:Dp).pl by
  have ht':(aC [x0,x1] 0).text=dK:=ht
  have e:takeD d.pl [x0,x1] line={ d.pl with ef:=true,uses:=d.pl.uses++[⟨x1.text,line,((x1.at_:Nat):Int) + 1,((d.pl.ops.length:Nat):Int) - 1,-3⟩] }:=by
   unfold takeD dOp cD
   rw [ht']
   rfl
  rw [e,show d.pl.ops.length=d.L.length from List.length_map _]
  rfl)
 have k0:w.cell? ⟨gw,0,none⟩=some (.string (bs x0.text)):=HWo.out.cellAt 0 (by omega)
 have k1:w.cell? ⟨gw,1,none⟩=some (.bool x0.quoted):=HWo.out.cellAt 1 (by omega)
 have k2:w.cell? ⟨gw,2,none⟩=some (.int .i64 x0.at_):=HWo.out.cellAt 2 (by omega)
 rw [← Hs.out] at k0
 clear hsl ht hs h ho hx
 go_enter Tryz.func78,Tryz.ntmps78
 go_wp2_with fail
 refine (HKd.out w).mono ?_
 rintro e wz ⟨rfl,hbz⟩
 have oz:OnB B w wz:=OnB.none (Only.of_below hbz _)
 have HDz:=hide (H.out.same (Only.of_below hbz aA))
 have HOz:=hide oz
 have HWz:=hide (oz.own HWo.out rfl)
 clear k0 k1 k2 hbz oz
 have w1:IntKind.i64.wrap ((d.L.length:Int) - 1)=(d.L.length:Int) - 1:=IntWalk.i64_in _ (by omega)
 have w2:IntKind.i64.wrap ((d.L.length:Int) - 1 + 1)=(d.L.length:Int):=by rw [Int.sub_add_cancel];exact IntWalk.i64_in _ (by omega)
 have w3:IntKind.i64.wrap (d.L.length:Int)=(d.L.length:Int):=IntWalk.i64_in _ (by omega)
 have m0:wz.cell? ⟨gw,3,none⟩=some (.string (bs x1.text)):=HWz.out.cellAt 3 (by omega)
 have m1:wz.cell? ⟨gw,4,none⟩=some (.bool x1.quoted):=HWz.out.cellAt 4 (by omega)
 have m2:wz.cell? ⟨gw,5,none⟩=some (.int .i64 x1.at_):=HWz.out.cellAt 5 (by omega)
 have d3:=HDz.out.cells.2.2.2.1
 have HGw:=hide (show gw < wz.heap.size by have:=HOz.out.on.size;omega)
 go_upto_region 14 with fail
 generalize hX:World.alloc wz _=X
 have HLx:=hide (show Blk X wz.heap.size 141 #[.string (bs x1.text),.bool x1.quoted,.int .i64 x1.at_] by rw [← hX];exact Blk.new _ _ _)
 have HDx:=hide (show DAt X B a d by rw [← hX];exact HDz.out.alloc _)
 have HOx:=hide (show OnB B w X by rw [← hX];exact HOz.out.alloc _)
 have HWx:=hide ((show OnB B wz X by rw [← hX];exact (OnB.refl _ _).alloc _).own HWz.out rfl)
 obtain ⟨g9,hg9⟩:∃ g9,g9=wz.heap.size:=⟨_,rfl⟩
 have HN9:=hide (show ¬ a=g9 by have:=HDz.out.lt;omega)
 rw [← hg9] at HLx ⊢
 clear hX hg9 d3 m0 m1 m2 HGw
 have k0:X.cell? ⟨gw,0,none⟩=some (.string (bs x0.text)):=HWx.out.cellAt 0 (by omega)
 have k1:X.cell? ⟨gw,1,none⟩=some (.bool x0.quoted):=HWx.out.cellAt 1 (by omega)
 have k2:X.cell? ⟨gw,2,none⟩=some (.int .i64 x0.at_):=HWx.out.cellAt 2 (by omega)
 rw [← Hs.out] at k0
 have d9:=HDx.out.cells.2.2.2.2.2.2.2.2.2
 have f9:=HDx.out.frozen 9
 go_upto_region 31 with fail
 generalize hV:World.setCell X _ _=V
 have R1:=HDx.out.cell (d':={ d with ef:=true }) 9 (.bool true) rfl
 have HDa:=hide (show DAt V B a { d with ef:=true } by rw [← hV];exact R1.1)
 have HOa:=hide (show OnB B w V by rw [← hV];exact HOx.out.trans R1.2)
 have HLa:=hide (show Blk V g9 141 #[.string (bs x1.text),.bool x1.quoted,.int .i64 x1.at_] by rw [← hV];exact R1.2.keep _ _ _ HLx.out rfl)
 clear hV R1 d9 f9 k0 k1 k2
 obtain ⟨ia,hia,hz0,hz1,hz2⟩:=info_parts Tryz.infoDUse
 have wA:IntKind.i64.wrap (((x1.at_:Nat):Int) + 1)=((x1.at_:Nat):Int) + 1:=IntWalk.i64_in _ (by omega)
 obtain ⟨V0,hV0⟩:∃ V9,V9=V.drew:=⟨_,rfl⟩
 have HD0:=hide (HDa.out.drew)
 have HO0:=hide (HOa.out.drew)
 have HL0:=hide (HLa.out.drew)
 rw [← hV0] at HD0 HO0 HL0
 refine aS (l1:=?_) (l2:=?_) 19 (fun w'=>w'.cell? ⟨a,5,none⟩=some (.slice d.uA d.uses.length d.uc)∧w'.cell? ⟨g9,0,none⟩=some (.string (bs x1.text))∧w'.cell? ⟨g9,2,none⟩=some (.int .i64 x1.at_)) (by kernel_rfl) ?_ ?_ ?_ ?_ ?_ ?_ (fun hHeld=>?_)
 rotate_left 2
 ·simp
 ·kernel_rfl
 ·kernel_rfl
 ·simp only [List.take_succ_cons,List.take_zero];rfl
 ·simp only [List.drop_succ_cons,List.drop_zero];rfl
 ·rw [← hV0];exact ⟨HD0.out.cells.2.2.2.2.2.1,HL0.out.cell 0,HL0.out.cell 2⟩
 rw [← hV0] at hHeld ⊢
 clear hV0
 refine tk 0 ?_ rfl ?_ ?_
 rotate_left
 ·(intro w9 hS9;(try simp only [ga]);go_simp<;>rfl)
 refine tk 1 ?_ rfl ?_ ?_
 rotate_left
 ·(intro w9 hS9;(try simp only [ga]);go_simp<;>rfl)
 refine tk 2 ?_ rfl ?_ ?_
 rotate_left
 ·(intro w9 hS9;(try simp only [ga]);go_simp<;>rfl)
 refine tk 3 ?_ rfl ?_ ?_
 rotate_left
 ·(intro w9 hS9;(try simp only [ga]);go_simp<;>rfl)
 refine tk 4 ?_ rfl ?_ ?_
 rotate_left
 ·(intro w9 hS9;(try simp only [ga]);go_simp<;>rfl)
 refine tk 5 ?_ rfl ?_ ?_
 rotate_left
 ·(intro w9 hS9;(try simp only [ga]);go_simp<;>rfl)
 refine tk 6 ?_ rfl ?_ ?_
 rotate_left
 ·(intro w9 hS9;(try simp only [ga]);go_simp<;>rfl)
 refine tk 7 ?_ rfl ?_ ?_
 rotate_left
 ·(intro w9 hS9;(try simp only [ga]);go_simp<;>rfl)
 refine tk 8 ?_ rfl ?_ ?_
 rotate_left
 ·(intro w9 hS9;(try simp only [ga]);go_simp<;>rfl)
 refine tk 9 ?_ rfl ?_ ?_
 rotate_left
 ·(intro w9 hS9;(try simp only [ga]);go_simp<;>rfl)
 refine tk 10 ?_ rfl ?_ ?_
 rotate_left
 ·(intro w9 hS9;(try simp only [ga]);go_simp<;>rfl)
 refine tk 11 ?_ rfl ?_ ?_
 rotate_left
 ·(intro w9 hS9;(try simp only [ga]);go_simp<;>rfl)
 refine tk 12 ?_ rfl ?_ ?_
 rotate_left
 ·(intro w9 hS9;(try simp only [ga]);go_simp<;>rfl)
 refine tk 13 ?_ rfl ?_ ?_
 rotate_left
 ·(intro w9 hS9;(try simp only [ga]);go_simp<;>rfl)
 refine tk 14 ?_ rfl ?_ ?_
 rotate_left
 ·(intro w9 hS9;(try simp only [ga]);go_simp<;>rfl)
 try simp only [Act.put,gp]
 refine rdy 15 rfl (fun K hK=>?_)
 try simp only [ga]
 try go_simp
 obtain ⟨V1,hV1⟩:∃ V9,V9=V0.alloc (.cells (encUse ⟨x1.text,line,((x1.at_:Nat):Int) + 1,((d.L.length:Nat):Int) - 1,-3⟩).toArray 88):=⟨_,rfl⟩
 have HD1:=hide (HD0.out.alloc (.cells (encUse ⟨x1.text,line,((x1.at_:Nat):Int) + 1,((d.L.length:Nat):Int) - 1,-3⟩).toArray 88))
 have HO1:=hide (HO0.out.alloc (.cells (encUse ⟨x1.text,line,((x1.at_:Nat):Int) + 1,((d.L.length:Nat):Int) - 1,-3⟩).toArray 88))
 have HL1:=hide (HL0.out.alloc (.cells (encUse ⟨x1.text,line,((x1.at_:Nat):Int) + 1,((d.L.length:Nat):Int) - 1,-3⟩).toArray 88))
 have HI1:=hide (Blk.new V0 88 (encUse ⟨x1.text,line,((x1.at_:Nat):Int) + 1,((d.L.length:Nat):Int) - 1,-3⟩).toArray)
 rw [← hV1] at HD1 HO1 HL1 HI1
 simp only [encUse] at hV1
 rw [← hV1]
 clear hV1
 refine hK.out _ _ ⟨HD1.out.cells.2.2.2.2.2.1,HL1.out.cell 0,HL1.out.cell 2⟩ (fun hHeld=>?_)
 clear hK K
 try simp only [Act.put,gp]
 refine rdy 16 rfl (fun K hK=>?_)
 have hbs:B≤V1.heap.size:=by have:=HD1.out.lt;omega
 refine aT V1 (by rfl) (.tmp 204) (.tmp 215) _ (by rfl) B 88 ia _ 5 48 Tryz.underlying82 hia hz0 hz1 hz2 rfl (by omega) (.slice d.uA d.uses.length d.uc) d.uses.length (flat encUse d.uses) (by rfl) HD1.out.uses aA (some ⟨V0.heap.size,0,none⟩) 1 1 (encUse ⟨x1.text,line,((x1.at_:Nat):Int) + 1,((d.L.length:Nat):Int) - 1,-3⟩) (by rfl) (aY HI1.out (fun h=>h)) rfl (gP _) (by simp only [maxLen];omega) (by omega) hbs ?_
 intro v3 V3 hown2 hgr how2
 obtain ⟨A4,c4,rfl,hc4⟩:=aW hown2
 have HBk3:=hide (grownBlk HD1.out.blk hgr HD1.out.uses (by decide))
 have HL3:=hide (grownBlk HL1.out hgr HD1.out.uses (by decide))
 rw [aB] at hgr
 have HG3:=hide hgr
 have HOw3:=hide hown2
 clear hgr hown2 how2
 refine hK.out _ _ ⟨by rw [HBk3.out.cell];rfl,HL3.out.cell 0,HL3.out.cell 2⟩ (fun hHeld=>?_)
 clear hK K
 refine tk 17 ?_ rfl ?_ ?_
 rotate_left
 ·(intro w9 hS9;(try simp only [ga]);go_simp<;>rfl)
 refine tk 18 ?_ rfl ?_ ?_
 rotate_left
 ·(intro w9 hS9;(try simp only [ga]);go_simp<;>rfl)
 try simp only [Act.put,gp]
 refine wpAnyH_done (by kernel_rfl) ?_ _
 try simp only [Exit.then]
 clear hHeld
 have f5:=HBk3.out.frozen 5
 have k5:V3.cell? ⟨a,5,none⟩=some (.slice d.uA d.uses.length d.uc):=by rw [HBk3.out.cell];rfl
 have HF:=hide (HD1.out.use (d':={ ({ d with ef:=true }:Dp) with uses:=d.uses++[⟨x1.text,line,((x1.at_:Nat):Int) + 1,((d.L.length:Nat):Int) - 1,-3⟩],uA:=A4,uc:=c4 }) HG3.out HOw3.out rfl)
 go_wp2_with fail
 go_end0
 refine ⟨rfl,⟨_,HF.out.1,?_⟩,HO1.out.trans HF.out.2⟩
 rw [HE.out]
 rfl
end Go.Proofs.YtaioaojfdngfdaaGreatDoor
