/- The ops, taken in by the document. Conditions: those of each theorem. -/
import Derived.Test.YtaioaojfdngfdaaGreatDoorPg09
import Derived.Test.YtaioaojfdngfdaaGreatDoorPg34
import Derived.BigRegion
set_option linter.unusedVariables false
set_option linter.unusedSimpArgs false
set_option maxHeartbeats 12800000
namespace Go.Proofs.YtaioaojfdngfdaaGreatDoor
open Go.RowKit
set_option maxRecDepth 100000
theorem qY (B a:Nat) (d:Dp) (x0 x1:WordM) (A:Option Addr) (c:Nat) (line:Int) (bw:Nat) (w:World) (h:DAt w B a d) (ho:w.ownsRow bw 141 3 (.slice A 2 c) 2 (flat encW [x0,x1])) (ht:x0.text=dO) (hx:∀ x ∈ [x0,x1],x.text.length≤1000000000∧x.at_≤1000000000)
 (hL:d.L.length≤1000000) (hU:d.uses.length≤1000000) (hB:d.labels.length≤1000000) (ha:∀ v ∈ d.L,v.o.arms.length≤1000000):Calls Tryz.prog 78 #[.pointer (some ⟨a,0,none⟩),.slice A 2 c,.int .i64 line] w fun e w'=>e=.returned (.tuple #[])∧mN w w' B a (takeD d.pl [x0,x1] line):=by
 have hBa:=h.base
 have H:=hide h
 obtain ⟨gw,rfl,hbw,hgw⟩:=eK ho (by omega)
 have HWo:=hide ho
 have hx0:=hx x0 (by simp)
 have hx1:=hx x1 (by simp)
 obtain ⟨s,hs⟩:∃ s,s=bs x0.text:=⟨_,rfl⟩
 have Hs:=hide hs
 have hsl:s.toList=x0.text:=by rw [hs,ByteArray.toList_eq]
 have HKd:=hide (fun (X:World)=>dG x0.text X)
 rw [ht,← ht,← hs] at HKd
 rw [show eI x0.text=1 by rw [ht];rfl] at HKd
 have q0:(s.toList == [115,99,114,105,112,116])=false:=by rw [hsl,ht];rfl
 have q1:(s.toList == [108,97,98,101,108])=false:=by rw [hsl,ht];rfl
 have q2:(s.toList == [111,110])=false:=by rw [hsl,ht];rfl
 have q3:(s.toList == [116,105,109,101,111,117,116])=false:=by rw [hsl,ht];rfl
 have q4:(s.toList == [101,111,102])=false:=by rw [hsl,ht];rfl
 have q5:(s.toList == [103,111,116,111])=false:=by rw [hsl,ht];rfl
 have HE:=hide (show takeD d.pl [x0,x1] line=({ d with L:=d.L++[⟨⟨1,bs x1.text,0,0,[],0,0⟩,none,0⟩],opn:=false,tm:=false,ef:=false }:Dp).pl by
  have ht':(aC [x0,x1] 0).text=dO:=ht
  have e:takeD d.pl [x0,x1] line={ d.pl with ops:=d.pl.ops++[⟨1,bs x1.text,0,0,[],0,0⟩],opn:=false,tm:=false,ef:=false }:=by
   unfold takeD dOp cD eU
   rw [ht']
   rfl
  rw [e]
  show DM.mk _ _ _ _ _ _ _ _ _ _=DM.mk _ _ _ ((d.L++[_]).map OpV.o) _ _ _ _ _ _
  rw [List.map_append]
  rfl)
 have k0:w.cell? ⟨gw,0,none⟩=some (.string (bs x0.text)):=HWo.out.cellAt 0 (by omega)
 have k1:w.cell? ⟨gw,1,none⟩=some (.bool x0.quoted):=HWo.out.cellAt 1 (by omega)
 have k2:w.cell? ⟨gw,2,none⟩=some (.int .i64 x0.at_):=HWo.out.cellAt 2 (by omega)
 rw [← Hs.out] at k0
 clear hsl ht hs h ho hx
 go_enter Tryz.func78,Tryz.ntmps78
 go_wp2_with fail
 refine (HKd.out w).mono ?_
 rintro e wz ⟨rfl,hbz⟩
 have oz:OnB B w wz:=OnB.none (Only.of_below hbz _)
 have HDz:=hide (H.out.same (Only.of_below hbz aA))
 have HOz:=hide oz
 have HWz:=hide (oz.own HWo.out rfl)
 clear k0 k1 k2 hbz oz
 have m0:wz.cell? ⟨gw,3,none⟩=some (.string (bs x1.text)):=HWz.out.cellAt 3 (by omega)
 have m1:wz.cell? ⟨gw,4,none⟩=some (.bool x1.quoted):=HWz.out.cellAt 4 (by omega)
 have m2:wz.cell? ⟨gw,5,none⟩=some (.int .i64 x1.at_):=HWz.out.cellAt 5 (by omega)
 have hgz:gw < wz.heap.size:=by have:=HOz.out.on.size;omega
 go_upto_region 10 with fail
 generalize hX:World.alloc wz _=X7
 have hI7:Blk X7 wz.heap.size 92 (encOp (⟨⟨1,bs x1.text,0,0,[],0,0⟩,none,0⟩:OpV)).toArray:=by rw [← hX];exact Blk.new _ _ _
 have hD7:DAt X7 B a d:=by rw [← hX];exact HDz.out.alloc _
 have HO7:=hide (show OnB B w X7 by rw [← hX];exact HOz.out.alloc _)
 have HW7:=hide ((show OnB B wz X7 by rw [← hX];exact (OnB.refl _ _).alloc _).own HWz.out rfl)
 obtain ⟨g7,hg7⟩:∃ g7,g7=wz.heap.size:=⟨_,rfl⟩
 have HN7:=hide (show ¬ a=g7 by have:=HDz.out.lt;omega)
 have HNb:=hide (show ∀ j,blkA d.oA=some j→j≠g7 from fun j hj e=>by have:=cO HDz.out.ops.row (g:=j) (by rw [aB];exact hj);omega)
 rw [← hg7] at hI7 ⊢
 clear hX hg7 hgz m0 m1 m2
 obtain ⟨ib,hib,hb0,hb1,hb2⟩:=info_parts Tryz.infoOp
 obtain ⟨U0,hU0⟩:∃ V9,V9=X7.drew:=⟨_,rfl⟩
 have HF0:=hide (hD7.drew)
 have HG0:=hide (HO7.out.drew)
 have HJ0:=hide (hI7.drew)
 have HY0:=hide ((show OnB B X7 X7.drew from (OnB.refl _ _).drew).own HW7.out rfl)
 rw [← hU0] at HF0 HG0 HJ0 HY0
 clear hD7 hI7
 refine aS (l1:=?_) (l2:=?_) 12 (fun w'=>w'.cell? ⟨a,3,none⟩=some (.slice d.oA d.L.length d.oc)∧w'.cell? ⟨g7,0,none⟩=some (.int .i64 1)∧w'.cell? ⟨g7,1,none⟩=some (.string (bs x1.text))∧w'.cell? ⟨g7,2,none⟩=some (.int .i64 (0))∧w'.cell? ⟨g7,3,none⟩=some (.int .i64 0)∧w'.cell? ⟨g7,4,none⟩=some (.slice none 0 0)∧w'.cell? ⟨g7,5,none⟩=some (.int .i64 (0))∧w'.cell? ⟨g7,6,none⟩=some (.int .i64 (0))) (by kernel_rfl) ?_ ?_ ?_ ?_ ?_ ?_ (fun hHeld=>?_)
 rotate_left 2
 ·simp
 ·kernel_rfl
 ·kernel_rfl
 ·simp only [List.take_succ_cons,List.take_zero];rfl
 ·simp only [List.drop_succ_cons,List.drop_zero];rfl
 ·rw [← hU0];exact ⟨HF0.out.cells.2.2.2.1,HJ0.out.cell 0,HJ0.out.cell 1,HJ0.out.cell 2,HJ0.out.cell 3,HJ0.out.cell 4,HJ0.out.cell 5,HJ0.out.cell 6⟩
 rw [← hU0] at hHeld ⊢
 clear hU0
 refine tk 0 ?_ rfl ?_ ?_
 rotate_left
 ·(intro w9 hS9;(try simp only [ga]);go_simp<;>rfl)
 refine tk 1 ?_ rfl ?_ ?_
 rotate_left
 ·(intro w9 hS9;(try simp only [ga]);go_simp<;>rfl)
 refine tk 2 ?_ rfl ?_ ?_
 rotate_left
 ·(intro w9 hS9;(try simp only [ga]);go_simp<;>rfl)
 refine tk 3 ?_ rfl ?_ ?_
 rotate_left
 ·(intro w9 hS9;(try simp only [ga]);go_simp<;>rfl)
 refine tk 4 ?_ rfl ?_ ?_
 rotate_left
 ·(intro w9 hS9;(try simp only [ga]);go_simp<;>rfl)
 refine tk 5 ?_ rfl ?_ ?_
 rotate_left
 ·(intro w9 hS9;(try simp only [ga]);go_simp<;>rfl)
 refine tk 6 ?_ rfl ?_ ?_
 rotate_left
 ·(intro w9 hS9;(try simp only [ga]);go_simp<;>rfl)
 try simp only [Act.put,gp]
 refine rdy 7 rfl (fun K hK=>?_)
 try simp only [ga]
 try go_simp
 obtain ⟨U1,hU1⟩:∃ V9,V9=U0.alloc (.cells (encOp (⟨⟨1,bs x1.text,0,0,[],0,0⟩,none,0⟩:OpV)).toArray 92):=⟨_,rfl⟩
 have HF1:=hide (HF0.out.alloc (.cells (encOp (⟨⟨1,bs x1.text,0,0,[],0,0⟩,none,0⟩:OpV)).toArray 92))
 have HG1:=hide (HG0.out.alloc (.cells (encOp (⟨⟨1,bs x1.text,0,0,[],0,0⟩,none,0⟩:OpV)).toArray 92))
 have HJ1:=hide (HJ0.out.alloc (.cells (encOp (⟨⟨1,bs x1.text,0,0,[],0,0⟩,none,0⟩:OpV)).toArray 92))
 have HY1:=hide (((OnB.refl B U0).alloc (.cells (encOp (⟨⟨1,bs x1.text,0,0,[],0,0⟩,none,0⟩:OpV)).toArray 92)).own HY0.out rfl)
 have HI1:=hide (Blk.new U0 92 (encOp (⟨⟨1,bs x1.text,0,0,[],0,0⟩,none,0⟩:OpV)).toArray)
 rw [← hU1] at HF1 HG1 HJ1 HY1 HI1
 simp only [encOp,List.length_nil] at hU1
 rw [← hU1]
 clear hU1
 refine hK.out _ _ ⟨HF1.out.cells.2.2.2.1,HJ1.out.cell 0,HJ1.out.cell 1,HJ1.out.cell 2,HJ1.out.cell 3,HJ1.out.cell 4,HJ1.out.cell 5,HJ1.out.cell 6⟩ (fun hHeld=>?_)
 clear hK K
 try simp only [Act.put,gp]
 refine rdy 8 rfl (fun K hK=>?_)
 have hbs:B≤U1.heap.size:=by have:=HF1.out.lt;omega
 refine aT U1 (by rfl) (.tmp 58) (.tmp 60) _ (by rfl) B 92 ib _ 7 80 Tryz.underlying23 hib hb0 hb1 hb2 rfl (by omega) (.slice d.oA d.L.length d.oc) d.L.length (flat encOp d.L) (by rfl) HF1.out.ops.row aA (some ⟨U0.heap.size,0,none⟩) 1 1 (encOp (⟨⟨1,bs x1.text,0,0,[],0,0⟩,none,0⟩:OpV)) (by rfl) (aY HI1.out (fun h=>h)) rfl (eQ _) (by simp only [maxLen];omega) (by omega) hbs ?_
 intro v3 U3 hown2 hgr how2
 obtain ⟨A6,c6,rfl,hc6⟩:=aW hown2
 have HBk3:=hide (grownBlk HF1.out.blk hgr HF1.out.ops.row (by decide))
 have HJ3:=hide (Blk.only HJ1.out (aG hgr) (fun hgg=>by rw [aB] at hgg;exact HNb.out g7 hgg rfl))
 rw [aB] at hgr
 have HYg:=hide (OnB.of (B:=B) (aG hgr) (fun g hg=>aU HF1.out.ops.row g (by rw [aB];exact hg)) (fun g hg=>aZ HF1.out.ops.row (by rw [aB];exact hg)) (T:=92) rfl)
 have HG3:=hide hgr
 have HOw3:=hide hown2
 clear hgr hown2 how2
 refine hK.out _ _ ⟨(show U3.cell? ⟨a,3,none⟩=some (.slice d.oA d.L.length d.oc) by rw [HBk3.out.cell];rfl),HJ3.out.cell 0,HJ3.out.cell 1,HJ3.out.cell 2,HJ3.out.cell 3,HJ3.out.cell 4,HJ3.out.cell 5,HJ3.out.cell 6⟩ (fun hHeld=>?_)
 clear hK K
 refine tk 9 ?_ rfl ?_ ?_
 rotate_left
 ·(intro w9 hS9;(try simp only [ga]);go_simp<;>rfl)
 refine tk 10 ?_ rfl ?_ ?_
 rotate_left
 ·(intro w9 hS9;(try simp only [ga]);go_simp<;>rfl)
 refine tk 11 ?_ rfl ?_ ?_
 rotate_left
 ·(intro w9 hS9;(try simp only [ga]);go_simp<;>rfl)
 try simp only [Act.put,gp]
 refine wpAnyH_done (by kernel_rfl) ?_ _
 try simp only [Exit.then]
 clear hHeld
 have f4:=HBk3.out.frozen 3
 have k4:U3.cell? ⟨a,3,none⟩=some (.slice d.oA d.L.length d.oc):=by rw [HBk3.out.cell];rfl
 have HF:=hide (HF1.out.app (d':={ d with L:=d.L++[⟨⟨1,bs x1.text,0,0,[],0,0⟩,none,0⟩],oA:=A6,oc:=c6 }) (v:=⟨⟨1,bs x1.text,0,0,[],0,0⟩,none,0⟩) hbs HG3.out rfl rfl rfl HOw3.out rfl)
 go_upto_region 11 with fail
 generalize hV5:World.setCell U3 _ _=V5
 have HD5:=hide (show DAt V5 B a { d with L:=d.L++[⟨⟨1,bs x1.text,0,0,[],0,0⟩,none,0⟩],oA:=A6,oc:=c6 } by rw [← hV5];exact HF.out.1)
 have HO5:=hide (show OnB B w V5 by rw [← hV5];exact HG1.out.trans HF.out.2)
 have HW5:=hide (show V5.ownsRow bw 141 3 (.slice (some ⟨gw,0,none⟩) 2 c) 2 (flat encW [x0,x1]) by rw [← hV5];exact HF.out.2.own HY1.out rfl)
 clear hV5 f4 k4 hib hb0 hb1 hb2 ib
 have d7:=HD5.out.cells.2.2.2.2.2.2.2.1
 have d8:=HD5.out.cells.2.2.2.2.2.2.2.2.1
 have d9:=HD5.out.cells.2.2.2.2.2.2.2.2.2
 have f7:=HD5.out.frozen 7
 have f8:=HD5.out.frozen 8
 have f9:=HD5.out.frozen 9
 go_upto_region 12 with fail
 generalize hV8:World.setCell (World.setCell (World.setCell V5 _ _) _ _) _ _=V8
 have R1:=HD5.out.cell (d':={ ({ d with L:=d.L++[⟨⟨1,bs x1.text,0,0,[],0,0⟩,none,0⟩],oA:=A6,oc:=c6 }:Dp) with opn:=false }) 7 (.bool false) rfl
 have R2:=R1.1.cell (d':={ ({ d with L:=d.L++[⟨⟨1,bs x1.text,0,0,[],0,0⟩,none,0⟩],oA:=A6,oc:=c6 }:Dp) with opn:=false,tm:=false }) 8 (.bool false) rfl
 have R3:=R2.1.cell (d':={ d with L:=d.L++[⟨⟨1,bs x1.text,0,0,[],0,0⟩,none,0⟩],oA:=A6,oc:=c6,opn:=false,tm:=false,ef:=false }) 9 (.bool false) rfl
 have HD8:=hide (show DAt V8 B a { d with L:=d.L++[⟨⟨1,bs x1.text,0,0,[],0,0⟩,none,0⟩],oA:=A6,oc:=c6,opn:=false,tm:=false,ef:=false } by rw [← hV8];exact R3.1)
 have HO8:=hide (show OnB B w V8 by rw [← hV8];exact ((HO5.out.trans R1.2).trans R2.2).trans R3.2)
 have HW8:=hide ((show OnB B V5 V8 by rw [← hV8];exact (R1.2.trans R2.2).trans R3.2).own HW5.out rfl)
 clear hV8 R1 R2 R3 d7 d8 d9 f7 f8 f9
 have w1:IntKind.i64.wrap ((d.L.length:Int) + 1 - 1)=(d.L.length:Int):=by rw [show (d.L.length:Int) + 1 - 1=(d.L.length:Int) by omega];exact IntWalk.i64_in _ (by omega)
 have w3:IntKind.i64.wrap (d.L.length:Int)=(d.L.length:Int):=IntWalk.i64_in _ (by omega)
 have m0:V8.cell? ⟨gw,3,none⟩=some (.string (bs x1.text)):=HW8.out.cellAt 3 (by omega)
 have m1:V8.cell? ⟨gw,4,none⟩=some (.bool x1.quoted):=HW8.out.cellAt 4 (by omega)
 have m2:V8.cell? ⟨gw,5,none⟩=some (.int .i64 x1.at_):=HW8.out.cellAt 5 (by omega)
 have d3:=(show V8.cell? ⟨a,3,none⟩=some (.slice A6 (d.L.length + 1) c6) from by have q:=HD8.out.cells.2.2.2.1;rw [List.length_append] at q;exact q)
 have HGw:=hide (show gw < V8.heap.size by have:=HO8.out.on.size;omega)
 go_upto_region 14 with fail
 generalize hX:World.alloc V8 _=X
 have HLx:=hide (show Blk X V8.heap.size 141 #[.string (bs x1.text),.bool x1.quoted,.int .i64 x1.at_] by rw [← hX];exact Blk.new _ _ _)
 have HDx:=hide (show DAt X B a { d with L:=d.L++[⟨⟨1,bs x1.text,0,0,[],0,0⟩,none,0⟩],oA:=A6,oc:=c6,opn:=false,tm:=false,ef:=false } by rw [← hX];exact HD8.out.alloc _)
 have HOx:=hide (show OnB B w X by rw [← hX];exact HO8.out.alloc _)
 have HWx:=hide ((show OnB B V8 X by rw [← hX];exact (OnB.refl _ _).alloc _).own HW8.out rfl)
 obtain ⟨g9,hg9⟩:∃ g9,g9=V8.heap.size:=⟨_,rfl⟩
 have HN9:=hide (show ¬ a=g9 by have:=HD8.out.lt;omega)
 rw [← hg9] at HLx ⊢
 clear hX hg9 d3 m0 m1 m2 HGw
 have k0:X.cell? ⟨gw,0,none⟩=some (.string (bs x0.text)):=HWx.out.cellAt 0 (by omega)
 have k1:X.cell? ⟨gw,1,none⟩=some (.bool x0.quoted):=HWx.out.cellAt 1 (by omega)
 have k2:X.cell? ⟨gw,2,none⟩=some (.int .i64 x0.at_):=HWx.out.cellAt 2 (by omega)
 rw [← Hs.out] at k0
 go_wp2_with fail
 refine bodyPost_ret (v:=.tuple #[]) (by simp [results,Tryz.results78,go_sem]) rfl ?_
 exact ⟨rfl,⟨_,HDx.out,by rw [HE.out];rfl⟩,HOx.out⟩
theorem nK (B a:Nat) (d:Dp) (x0 x1:WordM) (A:Option Addr) (c:Nat) (line:Int) (bw:Nat) (w:World) (h:DAt w B a d) (ho:w.ownsRow bw 141 3 (.slice A 2 c) 2 (flat encW [x0,x1])) (ht:x0.text=bS) (hx:∀ x ∈ [x0,x1],x.text.length≤1000000000∧x.at_≤1000000000)
 (hL:d.L.length≤1000000) (hU:d.uses.length≤1000000) (hB:d.labels.length≤1000000) (ha:∀ v ∈ d.L,v.o.arms.length≤1000000):Calls Tryz.prog 78 #[.pointer (some ⟨a,0,none⟩),.slice A 2 c,.int .i64 line] w fun e w'=>e=.returned (.tuple #[])∧mN w w' B a (takeD d.pl [x0,x1] line):=by
 have hBa:=h.base
 have H:=hide h
 obtain ⟨gw,rfl,hbw,hgw⟩:=eK ho (by omega)
 have HWo:=hide ho
 have hx0:=hx x0 (by simp)
 have hx1:=hx x1 (by simp)
 obtain ⟨s,hs⟩:∃ s,s=bs x0.text:=⟨_,rfl⟩
 have Hs:=hide hs
 have hsl:s.toList=x0.text:=by rw [hs,ByteArray.toList_eq]
 have HKd:=hide (fun (X:World)=>dG x0.text X)
 rw [ht,← ht,← hs] at HKd
 rw [show eI x0.text=2 by rw [ht];rfl] at HKd
 have q0:(s.toList == [115,99,114,105,112,116])=false:=by rw [hsl,ht];rfl
 have q1:(s.toList == [108,97,98,101,108])=false:=by rw [hsl,ht];rfl
 have q2:(s.toList == [111,110])=false:=by rw [hsl,ht];rfl
 have q3:(s.toList == [116,105,109,101,111,117,116])=false:=by rw [hsl,ht];rfl
 have q4:(s.toList == [101,111,102])=false:=by rw [hsl,ht];rfl
 have q5:(s.toList == [103,111,116,111])=false:=by rw [hsl,ht];rfl
 have HE:=hide (show takeD d.pl [x0,x1] line=({ d with L:=d.L++[⟨⟨2,⟨#[]⟩,(aF 101 x1.text).1,0,[],-1,-1⟩,none,0⟩],opn:=true,tm:=false,ef:=false }:Dp).pl by
  have ht':(aC [x0,x1] 0).text=bS:=ht
  have e:takeD d.pl [x0,x1] line={ d.pl with ops:=d.pl.ops++[⟨2,⟨#[]⟩,(aF 101 x1.text).1,0,[],-1,-1⟩],opn:=true,tm:=false,ef:=false }:=by
   unfold takeD dOp cD eU
   rw [ht']
   rfl
  rw [e]
  show DM.mk _ _ _ _ _ _ _ _ _ _=DM.mk _ _ _ ((d.L++[_]).map OpV.o) _ _ _ _ _ _
  rw [List.map_append]
  rfl)
 have HN1:=hide (fun (X:World)=>jB x1.text X hx1.1)
 obtain ⟨N1,hN1⟩:∃ N,N=aF 101 x1.text:=⟨_,rfl⟩
 rw [← hN1] at HN1 HE
 clear hN1
 obtain ⟨N11,N12⟩:=N1
 simp only at HN1 HE
 have k0:w.cell? ⟨gw,0,none⟩=some (.string (bs x0.text)):=HWo.out.cellAt 0 (by omega)
 have k1:w.cell? ⟨gw,1,none⟩=some (.bool x0.quoted):=HWo.out.cellAt 1 (by omega)
 have k2:w.cell? ⟨gw,2,none⟩=some (.int .i64 x0.at_):=HWo.out.cellAt 2 (by omega)
 rw [← Hs.out] at k0
 clear hsl ht hs h ho hx
 go_enter Tryz.func78,Tryz.ntmps78
 go_wp2_with fail
 refine (HKd.out w).mono ?_
 rintro e wz ⟨rfl,hbz⟩
 have oz:OnB B w wz:=OnB.none (Only.of_below hbz _)
 have HDz:=hide (H.out.same (Only.of_below hbz aA))
 have HOz:=hide oz
 have HWz:=hide (oz.own HWo.out rfl)
 clear k0 k1 k2 hbz oz
 have m0:wz.cell? ⟨gw,3,none⟩=some (.string (bs x1.text)):=HWz.out.cellAt 3 (by omega)
 have m1:wz.cell? ⟨gw,4,none⟩=some (.bool x1.quoted):=HWz.out.cellAt 4 (by omega)
 have m2:wz.cell? ⟨gw,5,none⟩=some (.int .i64 x1.at_):=HWz.out.cellAt 5 (by omega)
 have hgz:gw < wz.heap.size:=by have:=HOz.out.on.size;omega
 go_wp2_with fail
 generalize hX:World.alloc wz _=X0
 have hI0:Blk X0 wz.heap.size 92 #[.int .i64 2,.string ⟨#[]⟩,.int .i64 0,.int .i64 0,.slice none 0 0,.int .i64 0,.int .i64 0]:=by rw [← hX];exact Blk.new _ _ _
 have ox0:OnB B wz X0:=by rw [← hX];exact (OnB.refl _ _).alloc _
 obtain ⟨g7,hg7⟩:∃ g7,g7=wz.heap.size:=⟨_,rfl⟩
 have HGz:=hide (show wz.heap.size≤g7 by omega)
 have HN7:=hide (show ¬ a=g7 by have:=HDz.out.lt;omega)
 have HNb:=hide (show ∀ j,blkA d.oA=some j→j≠g7 from fun j hj e=>by have:=cO HDz.out.ops.row (g:=j) (by rw [aB];exact hj);omega)
 have hDx:DAt X0 B a d:=by rw [← hX];exact HDz.out.alloc _
 rw [← hg7] at hI0 ⊢
 clear hX m0 m1 m2 hgz hg7
 refine (HN1.out X0).mono ?_
 rintro e wy ⟨rfl,rfl⟩
 have z2:wy.cell? ⟨g7,2,none⟩=some (.int .i64 0):=hI0.cell 2
 have z5:wy.cell? ⟨g7,5,none⟩=some (.int .i64 0):=hI0.cell 5
 have z6:wy.cell? ⟨g7,6,none⟩=some (.int .i64 0):=hI0.cell 6
 have y2:=hI0.frozen 2
 have y5:=hI0.frozen 5
 have y6:=hI0.frozen 6
 go_upto_region 10 with fail
 generalize hX:World.setCell (World.setCell (World.setCell wy _ _) _ _) _ _=X7
 have hI7:Blk X7 g7 92 (encOp (⟨⟨2,⟨#[]⟩,N11,0,[],-1,-1⟩,none,0⟩:OpV)).toArray:=by rw [← hX];exact ((hI0.set_ 2 _).set_ 5 _).set_ 6 _
 have kx:Only (· = g7) wy X7:=by rw [← hX];exact cG (cG (cG (Only.refl _ wy) _ _) _ _) _ _
 have hD7:DAt X7 B a d:=by
  refine ⟨Blk.only hDx.blk kx (fun e=>HN7.out e),hDx.base,⟨dR hDx.ops.row kx (fun j hj=>by rw [aB] at hj;exact HNb.out j hj),fun v hv=>aI (hDx.ops.arms v hv) kx (fun j hj=>by have hj':j=g7:=hj;subst hj';exact ⟨_,hI0⟩) (by decide),hDx.ops.apart⟩,aI hDx.labels kx (fun j hj=>by have hj':j=g7:=hj;subst hj';exact ⟨_,hI0⟩) (by decide),aI hDx.uses kx (fun j hj=>by have hj':j=g7:=hj;subst hj';exact ⟨_,hI0⟩) (by decide)⟩
 have oz7:OnB B wz X7:=⟨(show Only (B≤·) wz X7 from Only.fresh (T:=(· = g7)) ox0.on kx (fun j _ hj=>Or.inr (by have hj':j=g7:=hj;rw [hj'];exact HGz.out))),fun j T cs hb hm=>Blk.only (ox0.keep j T cs hb hm) kx (fun e=>by have e':j=g7:=e;have:=hb.lt;have:=HGz.out;omega)⟩
 have HO7:=hide (HOz.out.trans oz7)
 have HW7:=hide (oz7.own HWz.out rfl)
 clear hX z2 z5 z6 y2 y5 y6 hI0 ox0 hDx kx oz7
 obtain ⟨ib,hib,hb0,hb1,hb2⟩:=info_parts Tryz.infoOp
 obtain ⟨U0,hU0⟩:∃ V9,V9=X7.drew:=⟨_,rfl⟩
 have HF0:=hide (hD7.drew)
 have HG0:=hide (HO7.out.drew)
 have HJ0:=hide (hI7.drew)
 have HY0:=hide ((show OnB B X7 X7.drew from (OnB.refl _ _).drew).own HW7.out rfl)
 rw [← hU0] at HF0 HG0 HJ0 HY0
 clear hD7 hI7
 refine aS (l1:=?_) (l2:=?_) 12 (fun w'=>w'.cell? ⟨a,3,none⟩=some (.slice d.oA d.L.length d.oc)∧w'.cell? ⟨g7,0,none⟩=some (.int .i64 2)∧w'.cell? ⟨g7,1,none⟩=some (.string (⟨#[]⟩))∧w'.cell? ⟨g7,2,none⟩=some (.int .i64 (N11))∧w'.cell? ⟨g7,3,none⟩=some (.int .i64 0)∧w'.cell? ⟨g7,4,none⟩=some (.slice none 0 0)∧w'.cell? ⟨g7,5,none⟩=some (.int .i64 (-1))∧w'.cell? ⟨g7,6,none⟩=some (.int .i64 (-1))) (by kernel_rfl) ?_ ?_ ?_ ?_ ?_ ?_ (fun hHeld=>?_)
 rotate_left 2
 ·simp
 ·kernel_rfl
 ·kernel_rfl
 ·simp only [List.take_succ_cons,List.take_zero];rfl
 ·simp only [List.drop_succ_cons,List.drop_zero];rfl
 ·rw [← hU0];exact ⟨HF0.out.cells.2.2.2.1,HJ0.out.cell 0,HJ0.out.cell 1,HJ0.out.cell 2,HJ0.out.cell 3,HJ0.out.cell 4,HJ0.out.cell 5,HJ0.out.cell 6⟩
 rw [← hU0] at hHeld ⊢
 clear hU0
 refine tk 0 ?_ rfl ?_ ?_
 rotate_left
 ·(intro w9 hS9;(try simp only [ga]);go_simp<;>rfl)
 refine tk 1 ?_ rfl ?_ ?_
 rotate_left
 ·(intro w9 hS9;(try simp only [ga]);go_simp<;>rfl)
 refine tk 2 ?_ rfl ?_ ?_
 rotate_left
 ·(intro w9 hS9;(try simp only [ga]);go_simp<;>rfl)
 refine tk 3 ?_ rfl ?_ ?_
 rotate_left
 ·(intro w9 hS9;(try simp only [ga]);go_simp<;>rfl)
 refine tk 4 ?_ rfl ?_ ?_
 rotate_left
 ·(intro w9 hS9;(try simp only [ga]);go_simp<;>rfl)
 refine tk 5 ?_ rfl ?_ ?_
 rotate_left
 ·(intro w9 hS9;(try simp only [ga]);go_simp<;>rfl)
 refine tk 6 ?_ rfl ?_ ?_
 rotate_left
 ·(intro w9 hS9;(try simp only [ga]);go_simp<;>rfl)
 try simp only [Act.put,gp]
 refine rdy 7 rfl (fun K hK=>?_)
 try simp only [ga]
 try go_simp
 obtain ⟨U1,hU1⟩:∃ V9,V9=U0.alloc (.cells (encOp (⟨⟨2,⟨#[]⟩,N11,0,[],-1,-1⟩,none,0⟩:OpV)).toArray 92):=⟨_,rfl⟩
 have HF1:=hide (HF0.out.alloc (.cells (encOp (⟨⟨2,⟨#[]⟩,N11,0,[],-1,-1⟩,none,0⟩:OpV)).toArray 92))
 have HG1:=hide (HG0.out.alloc (.cells (encOp (⟨⟨2,⟨#[]⟩,N11,0,[],-1,-1⟩,none,0⟩:OpV)).toArray 92))
 have HJ1:=hide (HJ0.out.alloc (.cells (encOp (⟨⟨2,⟨#[]⟩,N11,0,[],-1,-1⟩,none,0⟩:OpV)).toArray 92))
 have HY1:=hide (((OnB.refl B U0).alloc (.cells (encOp (⟨⟨2,⟨#[]⟩,N11,0,[],-1,-1⟩,none,0⟩:OpV)).toArray 92)).own HY0.out rfl)
 have HI1:=hide (Blk.new U0 92 (encOp (⟨⟨2,⟨#[]⟩,N11,0,[],-1,-1⟩,none,0⟩:OpV)).toArray)
 rw [← hU1] at HF1 HG1 HJ1 HY1 HI1
 simp only [encOp,List.length_nil] at hU1
 rw [← hU1]
 clear hU1
 refine hK.out _ _ ⟨HF1.out.cells.2.2.2.1,HJ1.out.cell 0,HJ1.out.cell 1,HJ1.out.cell 2,HJ1.out.cell 3,HJ1.out.cell 4,HJ1.out.cell 5,HJ1.out.cell 6⟩ (fun hHeld=>?_)
 clear hK K
 try simp only [Act.put,gp]
 refine rdy 8 rfl (fun K hK=>?_)
 have hbs:B≤U1.heap.size:=by have:=HF1.out.lt;omega
 refine aT U1 (by rfl) (.tmp 58) (.tmp 60) _ (by rfl) B 92 ib _ 7 80 Tryz.underlying23 hib hb0 hb1 hb2 rfl (by omega) (.slice d.oA d.L.length d.oc) d.L.length (flat encOp d.L) (by rfl) HF1.out.ops.row aA (some ⟨U0.heap.size,0,none⟩) 1 1 (encOp (⟨⟨2,⟨#[]⟩,N11,0,[],-1,-1⟩,none,0⟩:OpV)) (by rfl) (aY HI1.out (fun h=>h)) rfl (eQ _) (by simp only [maxLen];omega) (by omega) hbs ?_
 intro v3 U3 hown2 hgr how2
 obtain ⟨A6,c6,rfl,hc6⟩:=aW hown2
 have HBk3:=hide (grownBlk HF1.out.blk hgr HF1.out.ops.row (by decide))
 have HJ3:=hide (Blk.only HJ1.out (aG hgr) (fun hgg=>by rw [aB] at hgg;exact HNb.out g7 hgg rfl))
 rw [aB] at hgr
 have HYg:=hide (OnB.of (B:=B) (aG hgr) (fun g hg=>aU HF1.out.ops.row g (by rw [aB];exact hg)) (fun g hg=>aZ HF1.out.ops.row (by rw [aB];exact hg)) (T:=92) rfl)
 have HG3:=hide hgr
 have HOw3:=hide hown2
 clear hgr hown2 how2
 refine hK.out _ _ ⟨(show U3.cell? ⟨a,3,none⟩=some (.slice d.oA d.L.length d.oc) by rw [HBk3.out.cell];rfl),HJ3.out.cell 0,HJ3.out.cell 1,HJ3.out.cell 2,HJ3.out.cell 3,HJ3.out.cell 4,HJ3.out.cell 5,HJ3.out.cell 6⟩ (fun hHeld=>?_)
 clear hK K
 refine tk 9 ?_ rfl ?_ ?_
 rotate_left
 ·(intro w9 hS9;(try simp only [ga]);go_simp<;>rfl)
 refine tk 10 ?_ rfl ?_ ?_
 rotate_left
 ·(intro w9 hS9;(try simp only [ga]);go_simp<;>rfl)
 refine tk 11 ?_ rfl ?_ ?_
 rotate_left
 ·(intro w9 hS9;(try simp only [ga]);go_simp<;>rfl)
 try simp only [Act.put,gp]
 refine wpAnyH_done (by kernel_rfl) ?_ _
 try simp only [Exit.then]
 clear hHeld
 have f4:=HBk3.out.frozen 3
 have k4:U3.cell? ⟨a,3,none⟩=some (.slice d.oA d.L.length d.oc):=by rw [HBk3.out.cell];rfl
 have HF:=hide (HF1.out.app (d':={ d with L:=d.L++[⟨⟨2,⟨#[]⟩,N11,0,[],-1,-1⟩,none,0⟩],oA:=A6,oc:=c6 }) (v:=⟨⟨2,⟨#[]⟩,N11,0,[],-1,-1⟩,none,0⟩) hbs HG3.out rfl rfl rfl HOw3.out rfl)
 go_upto_region 11 with fail
 generalize hV5:World.setCell U3 _ _=V5
 have HD5:=hide (show DAt V5 B a { d with L:=d.L++[⟨⟨2,⟨#[]⟩,N11,0,[],-1,-1⟩,none,0⟩],oA:=A6,oc:=c6 } by rw [← hV5];exact HF.out.1)
 have HO5:=hide (show OnB B w V5 by rw [← hV5];exact HG1.out.trans HF.out.2)
 have HW5:=hide (show V5.ownsRow bw 141 3 (.slice (some ⟨gw,0,none⟩) 2 c) 2 (flat encW [x0,x1]) by rw [← hV5];exact HF.out.2.own HY1.out rfl)
 clear hV5 f4 k4 hib hb0 hb1 hb2 ib
 have d7:=HD5.out.cells.2.2.2.2.2.2.2.1
 have d8:=HD5.out.cells.2.2.2.2.2.2.2.2.1
 have d9:=HD5.out.cells.2.2.2.2.2.2.2.2.2
 have f7:=HD5.out.frozen 7
 have f8:=HD5.out.frozen 8
 have f9:=HD5.out.frozen 9
 go_upto_region 12 with fail
 generalize hV8:World.setCell (World.setCell (World.setCell V5 _ _) _ _) _ _=V8
 have R1:=HD5.out.cell (d':={ ({ d with L:=d.L++[⟨⟨2,⟨#[]⟩,N11,0,[],-1,-1⟩,none,0⟩],oA:=A6,oc:=c6 }:Dp) with opn:=true }) 7 (.bool true) rfl
 have R2:=R1.1.cell (d':={ ({ d with L:=d.L++[⟨⟨2,⟨#[]⟩,N11,0,[],-1,-1⟩,none,0⟩],oA:=A6,oc:=c6 }:Dp) with opn:=true,tm:=false }) 8 (.bool false) rfl
 have R3:=R2.1.cell (d':={ d with L:=d.L++[⟨⟨2,⟨#[]⟩,N11,0,[],-1,-1⟩,none,0⟩],oA:=A6,oc:=c6,opn:=true,tm:=false,ef:=false }) 9 (.bool false) rfl
 have HD8:=hide (show DAt V8 B a { d with L:=d.L++[⟨⟨2,⟨#[]⟩,N11,0,[],-1,-1⟩,none,0⟩],oA:=A6,oc:=c6,opn:=true,tm:=false,ef:=false } by rw [← hV8];exact R3.1)
 have HO8:=hide (show OnB B w V8 by rw [← hV8];exact ((HO5.out.trans R1.2).trans R2.2).trans R3.2)
 have HW8:=hide ((show OnB B V5 V8 by rw [← hV8];exact (R1.2.trans R2.2).trans R3.2).own HW5.out rfl)
 clear hV8 R1 R2 R3 d7 d8 d9 f7 f8 f9
 have w1:IntKind.i64.wrap ((d.L.length:Int) + 1 - 1)=(d.L.length:Int):=by rw [show (d.L.length:Int) + 1 - 1=(d.L.length:Int) by omega];exact IntWalk.i64_in _ (by omega)
 have w3:IntKind.i64.wrap (d.L.length:Int)=(d.L.length:Int):=IntWalk.i64_in _ (by omega)
 have m0:V8.cell? ⟨gw,3,none⟩=some (.string (bs x1.text)):=HW8.out.cellAt 3 (by omega)
 have m1:V8.cell? ⟨gw,4,none⟩=some (.bool x1.quoted):=HW8.out.cellAt 4 (by omega)
 have m2:V8.cell? ⟨gw,5,none⟩=some (.int .i64 x1.at_):=HW8.out.cellAt 5 (by omega)
 have d3:=(show V8.cell? ⟨a,3,none⟩=some (.slice A6 (d.L.length + 1) c6) from by have q:=HD8.out.cells.2.2.2.1;rw [List.length_append] at q;exact q)
 have HGw:=hide (show gw < V8.heap.size by have:=HO8.out.on.size;omega)
 go_upto_region 14 with fail
 generalize hX:World.alloc V8 _=X
 have HLx:=hide (show Blk X V8.heap.size 141 #[.string (bs x1.text),.bool x1.quoted,.int .i64 x1.at_] by rw [← hX];exact Blk.new _ _ _)
 have HDx:=hide (show DAt X B a { d with L:=d.L++[⟨⟨2,⟨#[]⟩,N11,0,[],-1,-1⟩,none,0⟩],oA:=A6,oc:=c6,opn:=true,tm:=false,ef:=false } by rw [← hX];exact HD8.out.alloc _)
 have HOx:=hide (show OnB B w X by rw [← hX];exact HO8.out.alloc _)
 have HWx:=hide ((show OnB B V8 X by rw [← hX];exact (OnB.refl _ _).alloc _).own HW8.out rfl)
 obtain ⟨g9,hg9⟩:∃ g9,g9=V8.heap.size:=⟨_,rfl⟩
 have HN9:=hide (show ¬ a=g9 by have:=HD8.out.lt;omega)
 rw [← hg9] at HLx ⊢
 clear hX hg9 d3 m0 m1 m2 HGw
 have k0:X.cell? ⟨gw,0,none⟩=some (.string (bs x0.text)):=HWx.out.cellAt 0 (by omega)
 have k1:X.cell? ⟨gw,1,none⟩=some (.bool x0.quoted):=HWx.out.cellAt 1 (by omega)
 have k2:X.cell? ⟨gw,2,none⟩=some (.int .i64 x0.at_):=HWx.out.cellAt 2 (by omega)
 rw [← Hs.out] at k0
 go_wp2_with fail
 refine bodyPost_ret (v:=.tuple #[]) (by simp [results,Tryz.results78,go_sem]) rfl ?_
 exact ⟨rfl,⟨_,HDx.out,by rw [HE.out];rfl⟩,HOx.out⟩
theorem qZ (B a:Nat) (d:Dp) (x0 x1:WordM) (A:Option Addr) (c:Nat) (line:Int) (bw:Nat) (w:World) (h:DAt w B a d) (ho:w.ownsRow bw 141 3 (.slice A 2 c) 2 (flat encW [x0,x1])) (ht:x0.text=dJ) (hx:∀ x ∈ [x0,x1],x.text.length≤1000000000∧x.at_≤1000000000)
 (hL:d.L.length≤1000000) (hU:d.uses.length≤1000000) (hB:d.labels.length≤1000000) (ha:∀ v ∈ d.L,v.o.arms.length≤1000000):Calls Tryz.prog 78 #[.pointer (some ⟨a,0,none⟩),.slice A 2 c,.int .i64 line] w fun e w'=>e=.returned (.tuple #[])∧mN w w' B a (takeD d.pl [x0,x1] line):=by
 have hBa:=h.base
 have H:=hide h
 obtain ⟨gw,rfl,hbw,hgw⟩:=eK ho (by omega)
 have HWo:=hide ho
 have hx0:=hx x0 (by simp)
 have hx1:=hx x1 (by simp)
 obtain ⟨s,hs⟩:∃ s,s=bs x0.text:=⟨_,rfl⟩
 have Hs:=hide hs
 have hsl:s.toList=x0.text:=by rw [hs,ByteArray.toList_eq]
 have HKd:=hide (fun (X:World)=>dG x0.text X)
 rw [ht,← ht,← hs] at HKd
 rw [show eI x0.text=3 by rw [ht];rfl] at HKd
 have q0:(s.toList == [115,99,114,105,112,116])=false:=by rw [hsl,ht];rfl
 have q1:(s.toList == [108,97,98,101,108])=false:=by rw [hsl,ht];rfl
 have q2:(s.toList == [111,110])=false:=by rw [hsl,ht];rfl
 have q3:(s.toList == [116,105,109,101,111,117,116])=false:=by rw [hsl,ht];rfl
 have q4:(s.toList == [101,111,102])=false:=by rw [hsl,ht];rfl
 have q5:(s.toList == [103,111,116,111])=true:=by rw [hsl,ht];rfl
 have HE:=hide (show takeD d.pl [x0,x1] line=({ d with L:=d.L++[⟨⟨3,⟨#[]⟩,0,0,[],0,0⟩,none,0⟩],opn:=false,tm:=false,ef:=false,uses:=d.uses++[⟨x1.text,line,((x1.at_:Nat):Int) + 1,((d.L.length:Nat):Int),-1⟩] }:Dp).pl by
  have ht':(aC [x0,x1] 0).text=dJ:=ht
  have e:takeD d.pl [x0,x1] line={ d.pl with ops:=d.pl.ops++[⟨3,⟨#[]⟩,0,0,[],0,0⟩],opn:=false,tm:=false,ef:=false,uses:=d.pl.uses++[⟨x1.text,line,((x1.at_:Nat):Int) + 1,(((d.pl.ops++[(⟨3,⟨#[]⟩,0,0,[],0,0⟩:OpM)]).length:Nat):Int) - 1,-1⟩] }:=by
   unfold takeD dOp cD eU
   rw [ht']
   rfl
  rw [e]
  rw [show (((d.pl.ops++[(⟨3,⟨#[]⟩,0,0,[],0,0⟩:OpM)]).length:Nat):Int) - 1=((d.L.length:Nat):Int) by rw [List.length_append,show d.pl.ops.length=d.L.length from List.length_map _];simp]
  show DM.mk _ _ _ _ _ _ _ _ _ _=DM.mk _ _ _ ((d.L++[_]).map OpV.o) _ _ _ _ _ _
  rw [List.map_append]
  rfl)
 have k0:w.cell? ⟨gw,0,none⟩=some (.string (bs x0.text)):=HWo.out.cellAt 0 (by omega)
 have k1:w.cell? ⟨gw,1,none⟩=some (.bool x0.quoted):=HWo.out.cellAt 1 (by omega)
 have k2:w.cell? ⟨gw,2,none⟩=some (.int .i64 x0.at_):=HWo.out.cellAt 2 (by omega)
 rw [← Hs.out] at k0
 clear hsl ht hs h ho hx
 go_enter Tryz.func78,Tryz.ntmps78
 go_wp2_with fail
 refine (HKd.out w).mono ?_
 rintro e wz ⟨rfl,hbz⟩
 have oz:OnB B w wz:=OnB.none (Only.of_below hbz _)
 have HDz:=hide (H.out.same (Only.of_below hbz aA))
 have HOz:=hide oz
 have HWz:=hide (oz.own HWo.out rfl)
 clear k0 k1 k2 hbz oz
 have m0:wz.cell? ⟨gw,3,none⟩=some (.string (bs x1.text)):=HWz.out.cellAt 3 (by omega)
 have m1:wz.cell? ⟨gw,4,none⟩=some (.bool x1.quoted):=HWz.out.cellAt 4 (by omega)
 have m2:wz.cell? ⟨gw,5,none⟩=some (.int .i64 x1.at_):=HWz.out.cellAt 5 (by omega)
 have hgz:gw < wz.heap.size:=by have:=HOz.out.on.size;omega
 go_upto_region 10 with fail
 generalize hX:World.alloc wz _=X7
 have hI7:Blk X7 wz.heap.size 92 (encOp (⟨⟨3,⟨#[]⟩,0,0,[],0,0⟩,none,0⟩:OpV)).toArray:=by rw [← hX];exact Blk.new _ _ _
 have hD7:DAt X7 B a d:=by rw [← hX];exact HDz.out.alloc _
 have HO7:=hide (show OnB B w X7 by rw [← hX];exact HOz.out.alloc _)
 have HW7:=hide ((show OnB B wz X7 by rw [← hX];exact (OnB.refl _ _).alloc _).own HWz.out rfl)
 obtain ⟨g7,hg7⟩:∃ g7,g7=wz.heap.size:=⟨_,rfl⟩
 have HN7:=hide (show ¬ a=g7 by have:=HDz.out.lt;omega)
 have HNb:=hide (show ∀ j,blkA d.oA=some j→j≠g7 from fun j hj e=>by have:=cO HDz.out.ops.row (g:=j) (by rw [aB];exact hj);omega)
 rw [← hg7] at hI7 ⊢
 clear hX hg7 hgz m0 m1 m2
 obtain ⟨ib,hib,hb0,hb1,hb2⟩:=info_parts Tryz.infoOp
 obtain ⟨U0,hU0⟩:∃ V9,V9=X7.drew:=⟨_,rfl⟩
 have HF0:=hide (hD7.drew)
 have HG0:=hide (HO7.out.drew)
 have HJ0:=hide (hI7.drew)
 have HY0:=hide ((show OnB B X7 X7.drew from (OnB.refl _ _).drew).own HW7.out rfl)
 rw [← hU0] at HF0 HG0 HJ0 HY0
 clear hD7 hI7
 refine aS (l1:=?_) (l2:=?_) 12 (fun w'=>w'.cell? ⟨a,3,none⟩=some (.slice d.oA d.L.length d.oc)∧w'.cell? ⟨g7,0,none⟩=some (.int .i64 3)∧w'.cell? ⟨g7,1,none⟩=some (.string (⟨#[]⟩))∧w'.cell? ⟨g7,2,none⟩=some (.int .i64 (0))∧w'.cell? ⟨g7,3,none⟩=some (.int .i64 0)∧w'.cell? ⟨g7,4,none⟩=some (.slice none 0 0)∧w'.cell? ⟨g7,5,none⟩=some (.int .i64 (0))∧w'.cell? ⟨g7,6,none⟩=some (.int .i64 (0))) (by kernel_rfl) ?_ ?_ ?_ ?_ ?_ ?_ (fun hHeld=>?_)
 rotate_left 2
 ·simp
 ·kernel_rfl
 ·kernel_rfl
 ·simp only [List.take_succ_cons,List.take_zero];rfl
 ·simp only [List.drop_succ_cons,List.drop_zero];rfl
 ·rw [← hU0];exact ⟨HF0.out.cells.2.2.2.1,HJ0.out.cell 0,HJ0.out.cell 1,HJ0.out.cell 2,HJ0.out.cell 3,HJ0.out.cell 4,HJ0.out.cell 5,HJ0.out.cell 6⟩
 rw [← hU0] at hHeld ⊢
 clear hU0
 refine tk 0 ?_ rfl ?_ ?_
 rotate_left
 ·(intro w9 hS9;(try simp only [ga]);go_simp<;>rfl)
 refine tk 1 ?_ rfl ?_ ?_
 rotate_left
 ·(intro w9 hS9;(try simp only [ga]);go_simp<;>rfl)
 refine tk 2 ?_ rfl ?_ ?_
 rotate_left
 ·(intro w9 hS9;(try simp only [ga]);go_simp<;>rfl)
 refine tk 3 ?_ rfl ?_ ?_
 rotate_left
 ·(intro w9 hS9;(try simp only [ga]);go_simp<;>rfl)
 refine tk 4 ?_ rfl ?_ ?_
 rotate_left
 ·(intro w9 hS9;(try simp only [ga]);go_simp<;>rfl)
 refine tk 5 ?_ rfl ?_ ?_
 rotate_left
 ·(intro w9 hS9;(try simp only [ga]);go_simp<;>rfl)
 refine tk 6 ?_ rfl ?_ ?_
 rotate_left
 ·(intro w9 hS9;(try simp only [ga]);go_simp<;>rfl)
 try simp only [Act.put,gp]
 refine rdy 7 rfl (fun K hK=>?_)
 try simp only [ga]
 try go_simp
 obtain ⟨U1,hU1⟩:∃ V9,V9=U0.alloc (.cells (encOp (⟨⟨3,⟨#[]⟩,0,0,[],0,0⟩,none,0⟩:OpV)).toArray 92):=⟨_,rfl⟩
 have HF1:=hide (HF0.out.alloc (.cells (encOp (⟨⟨3,⟨#[]⟩,0,0,[],0,0⟩,none,0⟩:OpV)).toArray 92))
 have HG1:=hide (HG0.out.alloc (.cells (encOp (⟨⟨3,⟨#[]⟩,0,0,[],0,0⟩,none,0⟩:OpV)).toArray 92))
 have HJ1:=hide (HJ0.out.alloc (.cells (encOp (⟨⟨3,⟨#[]⟩,0,0,[],0,0⟩,none,0⟩:OpV)).toArray 92))
 have HY1:=hide (((OnB.refl B U0).alloc (.cells (encOp (⟨⟨3,⟨#[]⟩,0,0,[],0,0⟩,none,0⟩:OpV)).toArray 92)).own HY0.out rfl)
 have HI1:=hide (Blk.new U0 92 (encOp (⟨⟨3,⟨#[]⟩,0,0,[],0,0⟩,none,0⟩:OpV)).toArray)
 rw [← hU1] at HF1 HG1 HJ1 HY1 HI1
 simp only [encOp,List.length_nil] at hU1
 rw [← hU1]
 clear hU1
 refine hK.out _ _ ⟨HF1.out.cells.2.2.2.1,HJ1.out.cell 0,HJ1.out.cell 1,HJ1.out.cell 2,HJ1.out.cell 3,HJ1.out.cell 4,HJ1.out.cell 5,HJ1.out.cell 6⟩ (fun hHeld=>?_)
 clear hK K
 try simp only [Act.put,gp]
 refine rdy 8 rfl (fun K hK=>?_)
 have hbs:B≤U1.heap.size:=by have:=HF1.out.lt;omega
 refine aT U1 (by rfl) (.tmp 58) (.tmp 60) _ (by rfl) B 92 ib _ 7 80 Tryz.underlying23 hib hb0 hb1 hb2 rfl (by omega) (.slice d.oA d.L.length d.oc) d.L.length (flat encOp d.L) (by rfl) HF1.out.ops.row aA (some ⟨U0.heap.size,0,none⟩) 1 1 (encOp (⟨⟨3,⟨#[]⟩,0,0,[],0,0⟩,none,0⟩:OpV)) (by rfl) (aY HI1.out (fun h=>h)) rfl (eQ _) (by simp only [maxLen];omega) (by omega) hbs ?_
 intro v3 U3 hown2 hgr how2
 obtain ⟨A6,c6,rfl,hc6⟩:=aW hown2
 have HBk3:=hide (grownBlk HF1.out.blk hgr HF1.out.ops.row (by decide))
 have HJ3:=hide (Blk.only HJ1.out (aG hgr) (fun hgg=>by rw [aB] at hgg;exact HNb.out g7 hgg rfl))
 rw [aB] at hgr
 have HYg:=hide (OnB.of (B:=B) (aG hgr) (fun g hg=>aU HF1.out.ops.row g (by rw [aB];exact hg)) (fun g hg=>aZ HF1.out.ops.row (by rw [aB];exact hg)) (T:=92) rfl)
 have HG3:=hide hgr
 have HOw3:=hide hown2
 clear hgr hown2 how2
 refine hK.out _ _ ⟨(show U3.cell? ⟨a,3,none⟩=some (.slice d.oA d.L.length d.oc) by rw [HBk3.out.cell];rfl),HJ3.out.cell 0,HJ3.out.cell 1,HJ3.out.cell 2,HJ3.out.cell 3,HJ3.out.cell 4,HJ3.out.cell 5,HJ3.out.cell 6⟩ (fun hHeld=>?_)
 clear hK K
 refine tk 9 ?_ rfl ?_ ?_
 rotate_left
 ·(intro w9 hS9;(try simp only [ga]);go_simp<;>rfl)
 refine tk 10 ?_ rfl ?_ ?_
 rotate_left
 ·(intro w9 hS9;(try simp only [ga]);go_simp<;>rfl)
 refine tk 11 ?_ rfl ?_ ?_
 rotate_left
 ·(intro w9 hS9;(try simp only [ga]);go_simp<;>rfl)
 try simp only [Act.put,gp]
 refine wpAnyH_done (by kernel_rfl) ?_ _
 try simp only [Exit.then]
 clear hHeld
 have f4:=HBk3.out.frozen 3
 have k4:U3.cell? ⟨a,3,none⟩=some (.slice d.oA d.L.length d.oc):=by rw [HBk3.out.cell];rfl
 have HF:=hide (HF1.out.app (d':={ d with L:=d.L++[⟨⟨3,⟨#[]⟩,0,0,[],0,0⟩,none,0⟩],oA:=A6,oc:=c6 }) (v:=⟨⟨3,⟨#[]⟩,0,0,[],0,0⟩,none,0⟩) hbs HG3.out rfl rfl rfl HOw3.out rfl)
 go_upto_region 11 with fail
 generalize hV5:World.setCell U3 _ _=V5
 have HD5:=hide (show DAt V5 B a { d with L:=d.L++[⟨⟨3,⟨#[]⟩,0,0,[],0,0⟩,none,0⟩],oA:=A6,oc:=c6 } by rw [← hV5];exact HF.out.1)
 have HO5:=hide (show OnB B w V5 by rw [← hV5];exact HG1.out.trans HF.out.2)
 have HW5:=hide (show V5.ownsRow bw 141 3 (.slice (some ⟨gw,0,none⟩) 2 c) 2 (flat encW [x0,x1]) by rw [← hV5];exact HF.out.2.own HY1.out rfl)
 clear hV5 f4 k4 hib hb0 hb1 hb2 ib
 have d7:=HD5.out.cells.2.2.2.2.2.2.2.1
 have d8:=HD5.out.cells.2.2.2.2.2.2.2.2.1
 have d9:=HD5.out.cells.2.2.2.2.2.2.2.2.2
 have f7:=HD5.out.frozen 7
 have f8:=HD5.out.frozen 8
 have f9:=HD5.out.frozen 9
 go_upto_region 12 with fail
 generalize hV8:World.setCell (World.setCell (World.setCell V5 _ _) _ _) _ _=V8
 have R1:=HD5.out.cell (d':={ ({ d with L:=d.L++[⟨⟨3,⟨#[]⟩,0,0,[],0,0⟩,none,0⟩],oA:=A6,oc:=c6 }:Dp) with opn:=false }) 7 (.bool false) rfl
 have R2:=R1.1.cell (d':={ ({ d with L:=d.L++[⟨⟨3,⟨#[]⟩,0,0,[],0,0⟩,none,0⟩],oA:=A6,oc:=c6 }:Dp) with opn:=false,tm:=false }) 8 (.bool false) rfl
 have R3:=R2.1.cell (d':={ d with L:=d.L++[⟨⟨3,⟨#[]⟩,0,0,[],0,0⟩,none,0⟩],oA:=A6,oc:=c6,opn:=false,tm:=false,ef:=false }) 9 (.bool false) rfl
 have HD8:=hide (show DAt V8 B a { d with L:=d.L++[⟨⟨3,⟨#[]⟩,0,0,[],0,0⟩,none,0⟩],oA:=A6,oc:=c6,opn:=false,tm:=false,ef:=false } by rw [← hV8];exact R3.1)
 have HO8:=hide (show OnB B w V8 by rw [← hV8];exact ((HO5.out.trans R1.2).trans R2.2).trans R3.2)
 have HW8:=hide ((show OnB B V5 V8 by rw [← hV8];exact (R1.2.trans R2.2).trans R3.2).own HW5.out rfl)
 clear hV8 R1 R2 R3 d7 d8 d9 f7 f8 f9
 have w1:IntKind.i64.wrap ((d.L.length:Int) + 1 - 1)=(d.L.length:Int):=by rw [show (d.L.length:Int) + 1 - 1=(d.L.length:Int) by omega];exact IntWalk.i64_in _ (by omega)
 have w3:IntKind.i64.wrap (d.L.length:Int)=(d.L.length:Int):=IntWalk.i64_in _ (by omega)
 have m0:V8.cell? ⟨gw,3,none⟩=some (.string (bs x1.text)):=HW8.out.cellAt 3 (by omega)
 have m1:V8.cell? ⟨gw,4,none⟩=some (.bool x1.quoted):=HW8.out.cellAt 4 (by omega)
 have m2:V8.cell? ⟨gw,5,none⟩=some (.int .i64 x1.at_):=HW8.out.cellAt 5 (by omega)
 have d3:=(show V8.cell? ⟨a,3,none⟩=some (.slice A6 (d.L.length + 1) c6) from by have q:=HD8.out.cells.2.2.2.1;rw [List.length_append] at q;exact q)
 have HGw:=hide (show gw < V8.heap.size by have:=HO8.out.on.size;omega)
 go_upto_region 14 with fail
 generalize hX:World.alloc V8 _=X
 have HLx:=hide (show Blk X V8.heap.size 141 #[.string (bs x1.text),.bool x1.quoted,.int .i64 x1.at_] by rw [← hX];exact Blk.new _ _ _)
 have HDx:=hide (show DAt X B a { d with L:=d.L++[⟨⟨3,⟨#[]⟩,0,0,[],0,0⟩,none,0⟩],oA:=A6,oc:=c6,opn:=false,tm:=false,ef:=false } by rw [← hX];exact HD8.out.alloc _)
 have HOx:=hide (show OnB B w X by rw [← hX];exact HO8.out.alloc _)
 have HWx:=hide ((show OnB B V8 X by rw [← hX];exact (OnB.refl _ _).alloc _).own HW8.out rfl)
 obtain ⟨g9,hg9⟩:∃ g9,g9=V8.heap.size:=⟨_,rfl⟩
 have HN9:=hide (show ¬ a=g9 by have:=HD8.out.lt;omega)
 rw [← hg9] at HLx ⊢
 clear hX hg9 d3 m0 m1 m2 HGw
 have k0:X.cell? ⟨gw,0,none⟩=some (.string (bs x0.text)):=HWx.out.cellAt 0 (by omega)
 have k1:X.cell? ⟨gw,1,none⟩=some (.bool x0.quoted):=HWx.out.cellAt 1 (by omega)
 have k2:X.cell? ⟨gw,2,none⟩=some (.int .i64 x0.at_):=HWx.out.cellAt 2 (by omega)
 rw [← Hs.out] at k0
 go_upto_region 31 with fail
 have HDa:=HDx
 have HOa:=HOx
 have HLa:=HLx
 clear k0 k1 k2
 obtain ⟨ia,hia,hz0,hz1,hz2⟩:=info_parts Tryz.infoDUse
 have wA:IntKind.i64.wrap (((x1.at_:Nat):Int) + 1)=((x1.at_:Nat):Int) + 1:=IntWalk.i64_in _ (by omega)
 obtain ⟨V0,hV0⟩:∃ V9,V9=X.drew:=⟨_,rfl⟩
 have HD0:=hide (HDa.out.drew)
 have HO0:=hide (HOa.out.drew)
 have HL0:=hide (HLa.out.drew)
 rw [← hV0] at HD0 HO0 HL0
 refine aS (l1:=?_) (l2:=?_) 19 (fun w'=>w'.cell? ⟨a,5,none⟩=some (.slice d.uA d.uses.length d.uc)∧w'.cell? ⟨g9,0,none⟩=some (.string (bs x1.text))∧w'.cell? ⟨g9,2,none⟩=some (.int .i64 x1.at_)) (by kernel_rfl) ?_ ?_ ?_ ?_ ?_ ?_ (fun hHeld=>?_)
 rotate_left 2
 ·simp
 ·kernel_rfl
 ·kernel_rfl
 ·simp only [List.take_succ_cons,List.take_zero];rfl
 ·simp only [List.drop_succ_cons,List.drop_zero];rfl
 ·rw [← hV0];exact ⟨HD0.out.cells.2.2.2.2.2.1,HL0.out.cell 0,HL0.out.cell 2⟩
 rw [← hV0] at hHeld ⊢
 clear hV0
 refine tk 0 ?_ rfl ?_ ?_
 rotate_left
 ·(intro w9 hS9;(try simp only [ga]);go_simp<;>rfl)
 refine tk 1 ?_ rfl ?_ ?_
 rotate_left
 ·(intro w9 hS9;(try simp only [ga]);go_simp<;>rfl)
 refine tk 2 ?_ rfl ?_ ?_
 rotate_left
 ·(intro w9 hS9;(try simp only [ga]);go_simp<;>rfl)
 refine tk 3 ?_ rfl ?_ ?_
 rotate_left
 ·(intro w9 hS9;(try simp only [ga]);go_simp<;>rfl)
 refine tk 4 ?_ rfl ?_ ?_
 rotate_left
 ·(intro w9 hS9;(try simp only [ga]);go_simp<;>rfl)
 refine tk 5 ?_ rfl ?_ ?_
 rotate_left
 ·(intro w9 hS9;(try simp only [ga]);go_simp<;>rfl)
 refine tk 6 ?_ rfl ?_ ?_
 rotate_left
 ·(intro w9 hS9;(try simp only [ga]);go_simp<;>rfl)
 refine tk 7 ?_ rfl ?_ ?_
 rotate_left
 ·(intro w9 hS9;(try simp only [ga]);go_simp<;>rfl)
 refine tk 8 ?_ rfl ?_ ?_
 rotate_left
 ·(intro w9 hS9;(try simp only [ga]);go_simp<;>rfl)
 refine tk 9 ?_ rfl ?_ ?_
 rotate_left
 ·(intro w9 hS9;(try simp only [ga]);go_simp<;>rfl)
 refine tk 10 ?_ rfl ?_ ?_
 rotate_left
 ·(intro w9 hS9;(try simp only [ga]);go_simp<;>rfl)
 refine tk 11 ?_ rfl ?_ ?_
 rotate_left
 ·(intro w9 hS9;(try simp only [ga]);go_simp<;>rfl)
 refine tk 12 ?_ rfl ?_ ?_
 rotate_left
 ·(intro w9 hS9;(try simp only [ga]);go_simp<;>rfl)
 refine tk 13 ?_ rfl ?_ ?_
 rotate_left
 ·(intro w9 hS9;(try simp only [ga]);go_simp<;>rfl)
 refine tk 14 ?_ rfl ?_ ?_
 rotate_left
 ·(intro w9 hS9;(try simp only [ga]);go_simp<;>rfl)
 try simp only [Act.put,gp]
 refine rdy 15 rfl (fun K hK=>?_)
 try simp only [ga]
 try go_simp
 obtain ⟨V1,hV1⟩:∃ V9,V9=V0.alloc (.cells (encUse ⟨x1.text,line,((x1.at_:Nat):Int) + 1,((d.L.length:Nat):Int),-1⟩).toArray 88):=⟨_,rfl⟩
 have HD1:=hide (HD0.out.alloc (.cells (encUse ⟨x1.text,line,((x1.at_:Nat):Int) + 1,((d.L.length:Nat):Int),-1⟩).toArray 88))
 have HO1:=hide (HO0.out.alloc (.cells (encUse ⟨x1.text,line,((x1.at_:Nat):Int) + 1,((d.L.length:Nat):Int),-1⟩).toArray 88))
 have HL1:=hide (HL0.out.alloc (.cells (encUse ⟨x1.text,line,((x1.at_:Nat):Int) + 1,((d.L.length:Nat):Int),-1⟩).toArray 88))
 have HI1:=hide (Blk.new V0 88 (encUse ⟨x1.text,line,((x1.at_:Nat):Int) + 1,((d.L.length:Nat):Int),-1⟩).toArray)
 rw [← hV1] at HD1 HO1 HL1 HI1
 simp only [encUse] at hV1
 rw [← hV1]
 clear hV1
 refine hK.out _ _ ⟨HD1.out.cells.2.2.2.2.2.1,HL1.out.cell 0,HL1.out.cell 2⟩ (fun hHeld=>?_)
 clear hK K
 try simp only [Act.put,gp]
 refine rdy 16 rfl (fun K hK=>?_)
 have hbs:B≤V1.heap.size:=by have:=HD1.out.lt;omega
 refine aT V1 (by rfl) (.tmp 204) (.tmp 215) _ (by rfl) B 88 ia _ 5 48 Tryz.underlying82 hia hz0 hz1 hz2 rfl (by omega) (.slice d.uA d.uses.length d.uc) d.uses.length (flat encUse d.uses) (by rfl) HD1.out.uses aA (some ⟨V0.heap.size,0,none⟩) 1 1 (encUse ⟨x1.text,line,((x1.at_:Nat):Int) + 1,((d.L.length:Nat):Int),-1⟩) (by rfl) (aY HI1.out (fun h=>h)) rfl (gP _) (by simp only [maxLen];omega) (by omega) hbs ?_
 intro v3 V3 hown2 hgr how2
 obtain ⟨A4,c4,rfl,hc4⟩:=aW hown2
 have HBk3:=hide (grownBlk HD1.out.blk hgr HD1.out.uses (by decide))
 have HL3:=hide (grownBlk HL1.out hgr HD1.out.uses (by decide))
 rw [aB] at hgr
 have HG3:=hide hgr
 have HOw3:=hide hown2
 clear hgr hown2 how2
 refine hK.out _ _ ⟨by rw [HBk3.out.cell];rfl,HL3.out.cell 0,HL3.out.cell 2⟩ (fun hHeld=>?_)
 clear hK K
 refine tk 17 ?_ rfl ?_ ?_
 rotate_left
 ·(intro w9 hS9;(try simp only [ga]);go_simp<;>rfl)
 refine tk 18 ?_ rfl ?_ ?_
 rotate_left
 ·(intro w9 hS9;(try simp only [ga]);go_simp<;>rfl)
 try simp only [Act.put,gp]
 refine wpAnyH_done (by kernel_rfl) ?_ _
 try simp only [Exit.then]
 clear hHeld
 have f5:=HBk3.out.frozen 5
 have k5:V3.cell? ⟨a,5,none⟩=some (.slice d.uA d.uses.length d.uc):=by rw [HBk3.out.cell];rfl
 have HF:=hide (HD1.out.use (d':={ ({ d with L:=d.L++[⟨⟨3,⟨#[]⟩,0,0,[],0,0⟩,none,0⟩],oA:=A6,oc:=c6,opn:=false,tm:=false,ef:=false }:Dp) with uses:=d.uses++[⟨x1.text,line,((x1.at_:Nat):Int) + 1,((d.L.length:Nat):Int),-1⟩],uA:=A4,uc:=c4 }) HG3.out HOw3.out rfl)
 go_wp2_with fail
 go_end0
 refine ⟨rfl,⟨_,HF.out.1,?_⟩,HO1.out.trans HF.out.2⟩
 rw [HE.out]
 rfl
theorem pI (B a:Nat) (d:Dp) (x0 x1:WordM) (A:Option Addr) (c:Nat) (line:Int) (bw:Nat) (w:World) (h:DAt w B a d) (ho:w.ownsRow bw 141 3 (.slice A 2 c) 2 (flat encW [x0,x1])) (ht:x0.text=cF) (hx:∀ x ∈ [x0,x1],x.text.length≤1000000000∧x.at_≤1000000000)
 (hL:d.L.length≤1000000) (hU:d.uses.length≤1000000) (hB:d.labels.length≤1000000) (ha:∀ v ∈ d.L,v.o.arms.length≤1000000):Calls Tryz.prog 78 #[.pointer (some ⟨a,0,none⟩),.slice A 2 c,.int .i64 line] w fun e w'=>e=.returned (.tuple #[])∧mN w w' B a (takeD d.pl [x0,x1] line):=by
 have hBa:=h.base
 have H:=hide h
 obtain ⟨gw,rfl,hbw,hgw⟩:=eK ho (by omega)
 have HWo:=hide ho
 have hx0:=hx x0 (by simp)
 have hx1:=hx x1 (by simp)
 obtain ⟨s,hs⟩:∃ s,s=bs x0.text:=⟨_,rfl⟩
 have Hs:=hide hs
 have hsl:s.toList=x0.text:=by rw [hs,ByteArray.toList_eq]
 have HKd:=hide (fun (X:World)=>dG x0.text X)
 rw [ht,← ht,← hs] at HKd
 rw [show eI x0.text=4 by rw [ht];rfl] at HKd
 have q0:(s.toList == [115,99,114,105,112,116])=false:=by rw [hsl,ht];rfl
 have q1:(s.toList == [108,97,98,101,108])=false:=by rw [hsl,ht];rfl
 have q2:(s.toList == [111,110])=false:=by rw [hsl,ht];rfl
 have q3:(s.toList == [116,105,109,101,111,117,116])=false:=by rw [hsl,ht];rfl
 have q4:(s.toList == [101,111,102])=false:=by rw [hsl,ht];rfl
 have q5:(s.toList == [103,111,116,111])=false:=by rw [hsl,ht];rfl
 have HE:=hide (show takeD d.pl [x0,x1] line=({ d with L:=d.L++[⟨⟨4,⟨#[]⟩,(aF 116 x1.text).1,0,[],0,0⟩,none,0⟩],opn:=false,tm:=false,ef:=false }:Dp).pl by
  have ht':(aC [x0,x1] 0).text=cF:=ht
  have e:takeD d.pl [x0,x1] line={ d.pl with ops:=d.pl.ops++[⟨4,⟨#[]⟩,(aF 116 x1.text).1,0,[],0,0⟩],opn:=false,tm:=false,ef:=false }:=by
   unfold takeD dOp cD eU
   rw [ht']
   rfl
  rw [e]
  show DM.mk _ _ _ _ _ _ _ _ _ _=DM.mk _ _ _ ((d.L++[_]).map OpV.o) _ _ _ _ _ _
  rw [List.map_append]
  rfl)
 have HN1:=hide (fun (X:World)=>i8 x1.text X hx1.1)
 obtain ⟨N1,hN1⟩:∃ N,N=aF 116 x1.text:=⟨_,rfl⟩
 rw [← hN1] at HN1 HE
 clear hN1
 obtain ⟨N11,N12⟩:=N1
 simp only at HN1 HE
 have k0:w.cell? ⟨gw,0,none⟩=some (.string (bs x0.text)):=HWo.out.cellAt 0 (by omega)
 have k1:w.cell? ⟨gw,1,none⟩=some (.bool x0.quoted):=HWo.out.cellAt 1 (by omega)
 have k2:w.cell? ⟨gw,2,none⟩=some (.int .i64 x0.at_):=HWo.out.cellAt 2 (by omega)
 rw [← Hs.out] at k0
 clear hsl ht hs h ho hx
 go_enter Tryz.func78,Tryz.ntmps78
 go_wp2_with fail
 refine (HKd.out w).mono ?_
 rintro e wz ⟨rfl,hbz⟩
 have oz:OnB B w wz:=OnB.none (Only.of_below hbz _)
 have HDz:=hide (H.out.same (Only.of_below hbz aA))
 have HOz:=hide oz
 have HWz:=hide (oz.own HWo.out rfl)
 clear k0 k1 k2 hbz oz
 have m0:wz.cell? ⟨gw,3,none⟩=some (.string (bs x1.text)):=HWz.out.cellAt 3 (by omega)
 have m1:wz.cell? ⟨gw,4,none⟩=some (.bool x1.quoted):=HWz.out.cellAt 4 (by omega)
 have m2:wz.cell? ⟨gw,5,none⟩=some (.int .i64 x1.at_):=HWz.out.cellAt 5 (by omega)
 have hgz:gw < wz.heap.size:=by have:=HOz.out.on.size;omega
 go_wp2_with fail
 generalize hX:World.alloc wz _=X0
 have hI0:Blk X0 wz.heap.size 92 #[.int .i64 4,.string ⟨#[]⟩,.int .i64 0,.int .i64 0,.slice none 0 0,.int .i64 0,.int .i64 0]:=by rw [← hX];exact Blk.new _ _ _
 have ox0:OnB B wz X0:=by rw [← hX];exact (OnB.refl _ _).alloc _
 obtain ⟨g7,hg7⟩:∃ g7,g7=wz.heap.size:=⟨_,rfl⟩
 have HGz:=hide (show wz.heap.size≤g7 by omega)
 have HN7:=hide (show ¬ a=g7 by have:=HDz.out.lt;omega)
 have HNb:=hide (show ∀ j,blkA d.oA=some j→j≠g7 from fun j hj e=>by have:=cO HDz.out.ops.row (g:=j) (by rw [aB];exact hj);omega)
 have hDx:DAt X0 B a d:=by rw [← hX];exact HDz.out.alloc _
 rw [← hg7] at hI0 ⊢
 clear hX m0 m1 m2 hgz hg7
 refine (HN1.out X0).mono ?_
 rintro e wy ⟨rfl,rfl⟩
 have z2:wy.cell? ⟨g7,2,none⟩=some (.int .i64 0):=hI0.cell 2
 have z5:wy.cell? ⟨g7,5,none⟩=some (.int .i64 0):=hI0.cell 5
 have z6:wy.cell? ⟨g7,6,none⟩=some (.int .i64 0):=hI0.cell 6
 have y2:=hI0.frozen 2
 have y5:=hI0.frozen 5
 have y6:=hI0.frozen 6
 go_upto_region 10 with fail
 generalize hX:World.setCell wy _ _=X7
 have hI7:Blk X7 g7 92 (encOp (⟨⟨4,⟨#[]⟩,N11,0,[],0,0⟩,none,0⟩:OpV)).toArray:=by rw [← hX];exact hI0.set_ 2 _
 have kx:Only (· = g7) wy X7:=by rw [← hX];exact cG (Only.refl _ wy) _ _
 have hD7:DAt X7 B a d:=by
  refine ⟨Blk.only hDx.blk kx (fun e=>HN7.out e),hDx.base,⟨dR hDx.ops.row kx (fun j hj=>by rw [aB] at hj;exact HNb.out j hj),fun v hv=>aI (hDx.ops.arms v hv) kx (fun j hj=>by have hj':j=g7:=hj;subst hj';exact ⟨_,hI0⟩) (by decide),hDx.ops.apart⟩,aI hDx.labels kx (fun j hj=>by have hj':j=g7:=hj;subst hj';exact ⟨_,hI0⟩) (by decide),aI hDx.uses kx (fun j hj=>by have hj':j=g7:=hj;subst hj';exact ⟨_,hI0⟩) (by decide)⟩
 have oz7:OnB B wz X7:=⟨(show Only (B≤·) wz X7 from Only.fresh (T:=(· = g7)) ox0.on kx (fun j _ hj=>Or.inr (by have hj':j=g7:=hj;rw [hj'];exact HGz.out))),fun j T cs hb hm=>Blk.only (ox0.keep j T cs hb hm) kx (fun e=>by have e':j=g7:=e;have:=hb.lt;have:=HGz.out;omega)⟩
 have HO7:=hide (HOz.out.trans oz7)
 have HW7:=hide (oz7.own HWz.out rfl)
 clear hX z2 z5 z6 y2 y5 y6 hI0 ox0 hDx kx oz7
 obtain ⟨ib,hib,hb0,hb1,hb2⟩:=info_parts Tryz.infoOp
 obtain ⟨U0,hU0⟩:∃ V9,V9=X7.drew:=⟨_,rfl⟩
 have HF0:=hide (hD7.drew)
 have HG0:=hide (HO7.out.drew)
 have HJ0:=hide (hI7.drew)
 have HY0:=hide ((show OnB B X7 X7.drew from (OnB.refl _ _).drew).own HW7.out rfl)
 rw [← hU0] at HF0 HG0 HJ0 HY0
 clear hD7 hI7
 refine aS (l1:=?_) (l2:=?_) 12 (fun w'=>w'.cell? ⟨a,3,none⟩=some (.slice d.oA d.L.length d.oc)∧w'.cell? ⟨g7,0,none⟩=some (.int .i64 4)∧w'.cell? ⟨g7,1,none⟩=some (.string (⟨#[]⟩))∧w'.cell? ⟨g7,2,none⟩=some (.int .i64 (N11))∧w'.cell? ⟨g7,3,none⟩=some (.int .i64 0)∧w'.cell? ⟨g7,4,none⟩=some (.slice none 0 0)∧w'.cell? ⟨g7,5,none⟩=some (.int .i64 (0))∧w'.cell? ⟨g7,6,none⟩=some (.int .i64 (0))) (by kernel_rfl) ?_ ?_ ?_ ?_ ?_ ?_ (fun hHeld=>?_)
 rotate_left 2
 ·simp
 ·kernel_rfl
 ·kernel_rfl
 ·simp only [List.take_succ_cons,List.take_zero];rfl
 ·simp only [List.drop_succ_cons,List.drop_zero];rfl
 ·rw [← hU0];exact ⟨HF0.out.cells.2.2.2.1,HJ0.out.cell 0,HJ0.out.cell 1,HJ0.out.cell 2,HJ0.out.cell 3,HJ0.out.cell 4,HJ0.out.cell 5,HJ0.out.cell 6⟩
 rw [← hU0] at hHeld ⊢
 clear hU0
 refine tk 0 ?_ rfl ?_ ?_
 rotate_left
 ·(intro w9 hS9;(try simp only [ga]);go_simp<;>rfl)
 refine tk 1 ?_ rfl ?_ ?_
 rotate_left
 ·(intro w9 hS9;(try simp only [ga]);go_simp<;>rfl)
 refine tk 2 ?_ rfl ?_ ?_
 rotate_left
 ·(intro w9 hS9;(try simp only [ga]);go_simp<;>rfl)
 refine tk 3 ?_ rfl ?_ ?_
 rotate_left
 ·(intro w9 hS9;(try simp only [ga]);go_simp<;>rfl)
 refine tk 4 ?_ rfl ?_ ?_
 rotate_left
 ·(intro w9 hS9;(try simp only [ga]);go_simp<;>rfl)
 refine tk 5 ?_ rfl ?_ ?_
 rotate_left
 ·(intro w9 hS9;(try simp only [ga]);go_simp<;>rfl)
 refine tk 6 ?_ rfl ?_ ?_
 rotate_left
 ·(intro w9 hS9;(try simp only [ga]);go_simp<;>rfl)
 try simp only [Act.put,gp]
 refine rdy 7 rfl (fun K hK=>?_)
 try simp only [ga]
 try go_simp
 obtain ⟨U1,hU1⟩:∃ V9,V9=U0.alloc (.cells (encOp (⟨⟨4,⟨#[]⟩,N11,0,[],0,0⟩,none,0⟩:OpV)).toArray 92):=⟨_,rfl⟩
 have HF1:=hide (HF0.out.alloc (.cells (encOp (⟨⟨4,⟨#[]⟩,N11,0,[],0,0⟩,none,0⟩:OpV)).toArray 92))
 have HG1:=hide (HG0.out.alloc (.cells (encOp (⟨⟨4,⟨#[]⟩,N11,0,[],0,0⟩,none,0⟩:OpV)).toArray 92))
 have HJ1:=hide (HJ0.out.alloc (.cells (encOp (⟨⟨4,⟨#[]⟩,N11,0,[],0,0⟩,none,0⟩:OpV)).toArray 92))
 have HY1:=hide (((OnB.refl B U0).alloc (.cells (encOp (⟨⟨4,⟨#[]⟩,N11,0,[],0,0⟩,none,0⟩:OpV)).toArray 92)).own HY0.out rfl)
 have HI1:=hide (Blk.new U0 92 (encOp (⟨⟨4,⟨#[]⟩,N11,0,[],0,0⟩,none,0⟩:OpV)).toArray)
 rw [← hU1] at HF1 HG1 HJ1 HY1 HI1
 simp only [encOp,List.length_nil] at hU1
 rw [← hU1]
 clear hU1
 refine hK.out _ _ ⟨HF1.out.cells.2.2.2.1,HJ1.out.cell 0,HJ1.out.cell 1,HJ1.out.cell 2,HJ1.out.cell 3,HJ1.out.cell 4,HJ1.out.cell 5,HJ1.out.cell 6⟩ (fun hHeld=>?_)
 clear hK K
 try simp only [Act.put,gp]
 refine rdy 8 rfl (fun K hK=>?_)
 have hbs:B≤U1.heap.size:=by have:=HF1.out.lt;omega
 refine aT U1 (by rfl) (.tmp 58) (.tmp 60) _ (by rfl) B 92 ib _ 7 80 Tryz.underlying23 hib hb0 hb1 hb2 rfl (by omega) (.slice d.oA d.L.length d.oc) d.L.length (flat encOp d.L) (by rfl) HF1.out.ops.row aA (some ⟨U0.heap.size,0,none⟩) 1 1 (encOp (⟨⟨4,⟨#[]⟩,N11,0,[],0,0⟩,none,0⟩:OpV)) (by rfl) (aY HI1.out (fun h=>h)) rfl (eQ _) (by simp only [maxLen];omega) (by omega) hbs ?_
 intro v3 U3 hown2 hgr how2
 obtain ⟨A6,c6,rfl,hc6⟩:=aW hown2
 have HBk3:=hide (grownBlk HF1.out.blk hgr HF1.out.ops.row (by decide))
 have HJ3:=hide (Blk.only HJ1.out (aG hgr) (fun hgg=>by rw [aB] at hgg;exact HNb.out g7 hgg rfl))
 rw [aB] at hgr
 have HYg:=hide (OnB.of (B:=B) (aG hgr) (fun g hg=>aU HF1.out.ops.row g (by rw [aB];exact hg)) (fun g hg=>aZ HF1.out.ops.row (by rw [aB];exact hg)) (T:=92) rfl)
 have HG3:=hide hgr
 have HOw3:=hide hown2
 clear hgr hown2 how2
 refine hK.out _ _ ⟨(show U3.cell? ⟨a,3,none⟩=some (.slice d.oA d.L.length d.oc) by rw [HBk3.out.cell];rfl),HJ3.out.cell 0,HJ3.out.cell 1,HJ3.out.cell 2,HJ3.out.cell 3,HJ3.out.cell 4,HJ3.out.cell 5,HJ3.out.cell 6⟩ (fun hHeld=>?_)
 clear hK K
 refine tk 9 ?_ rfl ?_ ?_
 rotate_left
 ·(intro w9 hS9;(try simp only [ga]);go_simp<;>rfl)
 refine tk 10 ?_ rfl ?_ ?_
 rotate_left
 ·(intro w9 hS9;(try simp only [ga]);go_simp<;>rfl)
 refine tk 11 ?_ rfl ?_ ?_
 rotate_left
 ·(intro w9 hS9;(try simp only [ga]);go_simp<;>rfl)
 try simp only [Act.put,gp]
 refine wpAnyH_done (by kernel_rfl) ?_ _
 try simp only [Exit.then]
 clear hHeld
 have f4:=HBk3.out.frozen 3
 have k4:U3.cell? ⟨a,3,none⟩=some (.slice d.oA d.L.length d.oc):=by rw [HBk3.out.cell];rfl
 have HF:=hide (HF1.out.app (d':={ d with L:=d.L++[⟨⟨4,⟨#[]⟩,N11,0,[],0,0⟩,none,0⟩],oA:=A6,oc:=c6 }) (v:=⟨⟨4,⟨#[]⟩,N11,0,[],0,0⟩,none,0⟩) hbs HG3.out rfl rfl rfl HOw3.out rfl)
 go_upto_region 11 with fail
 generalize hV5:World.setCell U3 _ _=V5
 have HD5:=hide (show DAt V5 B a { d with L:=d.L++[⟨⟨4,⟨#[]⟩,N11,0,[],0,0⟩,none,0⟩],oA:=A6,oc:=c6 } by rw [← hV5];exact HF.out.1)
 have HO5:=hide (show OnB B w V5 by rw [← hV5];exact HG1.out.trans HF.out.2)
 have HW5:=hide (show V5.ownsRow bw 141 3 (.slice (some ⟨gw,0,none⟩) 2 c) 2 (flat encW [x0,x1]) by rw [← hV5];exact HF.out.2.own HY1.out rfl)
 clear hV5 f4 k4 hib hb0 hb1 hb2 ib
 have d7:=HD5.out.cells.2.2.2.2.2.2.2.1
 have d8:=HD5.out.cells.2.2.2.2.2.2.2.2.1
 have d9:=HD5.out.cells.2.2.2.2.2.2.2.2.2
 have f7:=HD5.out.frozen 7
 have f8:=HD5.out.frozen 8
 have f9:=HD5.out.frozen 9
 go_upto_region 12 with fail
 generalize hV8:World.setCell (World.setCell (World.setCell V5 _ _) _ _) _ _=V8
 have R1:=HD5.out.cell (d':={ ({ d with L:=d.L++[⟨⟨4,⟨#[]⟩,N11,0,[],0,0⟩,none,0⟩],oA:=A6,oc:=c6 }:Dp) with opn:=false }) 7 (.bool false) rfl
 have R2:=R1.1.cell (d':={ ({ d with L:=d.L++[⟨⟨4,⟨#[]⟩,N11,0,[],0,0⟩,none,0⟩],oA:=A6,oc:=c6 }:Dp) with opn:=false,tm:=false }) 8 (.bool false) rfl
 have R3:=R2.1.cell (d':={ d with L:=d.L++[⟨⟨4,⟨#[]⟩,N11,0,[],0,0⟩,none,0⟩],oA:=A6,oc:=c6,opn:=false,tm:=false,ef:=false }) 9 (.bool false) rfl
 have HD8:=hide (show DAt V8 B a { d with L:=d.L++[⟨⟨4,⟨#[]⟩,N11,0,[],0,0⟩,none,0⟩],oA:=A6,oc:=c6,opn:=false,tm:=false,ef:=false } by rw [← hV8];exact R3.1)
 have HO8:=hide (show OnB B w V8 by rw [← hV8];exact ((HO5.out.trans R1.2).trans R2.2).trans R3.2)
 have HW8:=hide ((show OnB B V5 V8 by rw [← hV8];exact (R1.2.trans R2.2).trans R3.2).own HW5.out rfl)
 clear hV8 R1 R2 R3 d7 d8 d9 f7 f8 f9
 have w1:IntKind.i64.wrap ((d.L.length:Int) + 1 - 1)=(d.L.length:Int):=by rw [show (d.L.length:Int) + 1 - 1=(d.L.length:Int) by omega];exact IntWalk.i64_in _ (by omega)
 have w3:IntKind.i64.wrap (d.L.length:Int)=(d.L.length:Int):=IntWalk.i64_in _ (by omega)
 have m0:V8.cell? ⟨gw,3,none⟩=some (.string (bs x1.text)):=HW8.out.cellAt 3 (by omega)
 have m1:V8.cell? ⟨gw,4,none⟩=some (.bool x1.quoted):=HW8.out.cellAt 4 (by omega)
 have m2:V8.cell? ⟨gw,5,none⟩=some (.int .i64 x1.at_):=HW8.out.cellAt 5 (by omega)
 have d3:=(show V8.cell? ⟨a,3,none⟩=some (.slice A6 (d.L.length + 1) c6) from by have q:=HD8.out.cells.2.2.2.1;rw [List.length_append] at q;exact q)
 have HGw:=hide (show gw < V8.heap.size by have:=HO8.out.on.size;omega)
 go_upto_region 14 with fail
 generalize hX:World.alloc V8 _=X
 have HLx:=hide (show Blk X V8.heap.size 141 #[.string (bs x1.text),.bool x1.quoted,.int .i64 x1.at_] by rw [← hX];exact Blk.new _ _ _)
 have HDx:=hide (show DAt X B a { d with L:=d.L++[⟨⟨4,⟨#[]⟩,N11,0,[],0,0⟩,none,0⟩],oA:=A6,oc:=c6,opn:=false,tm:=false,ef:=false } by rw [← hX];exact HD8.out.alloc _)
 have HOx:=hide (show OnB B w X by rw [← hX];exact HO8.out.alloc _)
 have HWx:=hide ((show OnB B V8 X by rw [← hX];exact (OnB.refl _ _).alloc _).own HW8.out rfl)
 obtain ⟨g9,hg9⟩:∃ g9,g9=V8.heap.size:=⟨_,rfl⟩
 have HN9:=hide (show ¬ a=g9 by have:=HD8.out.lt;omega)
 rw [← hg9] at HLx ⊢
 clear hX hg9 d3 m0 m1 m2 HGw
 have k0:X.cell? ⟨gw,0,none⟩=some (.string (bs x0.text)):=HWx.out.cellAt 0 (by omega)
 have k1:X.cell? ⟨gw,1,none⟩=some (.bool x0.quoted):=HWx.out.cellAt 1 (by omega)
 have k2:X.cell? ⟨gw,2,none⟩=some (.int .i64 x0.at_):=HWx.out.cellAt 2 (by omega)
 rw [← Hs.out] at k0
 go_wp2_with fail
 refine bodyPost_ret (v:=.tuple #[]) (by simp [results,Tryz.results78,go_sem]) rfl ?_
 exact ⟨rfl,⟨_,HDx.out,by rw [HE.out];rfl⟩,HOx.out⟩
theorem rB (B a:Nat) (d:Dp) (x0:WordM) (A:Option Addr) (c:Nat) (line:Int) (bw:Nat) (w:World) (h:DAt w B a d) (ho:w.ownsRow bw 141 3 (.slice A 1 c) 1 (flat encW [x0])) (ht:x0.text=dQ) (hx:∀ x ∈ [x0],x.text.length≤1000000000∧x.at_≤1000000000)
 (hL:d.L.length≤1000000) (hU:d.uses.length≤1000000) (hB:d.labels.length≤1000000) (ha:∀ v ∈ d.L,v.o.arms.length≤1000000):Calls Tryz.prog 78 #[.pointer (some ⟨a,0,none⟩),.slice A 1 c,.int .i64 line] w fun e w'=>e=.returned (.tuple #[])∧mN w w' B a (takeD d.pl [x0] line):=by
 have hBa:=h.base
 have H:=hide h
 obtain ⟨gw,rfl,hbw,hgw⟩:=eK ho (by omega)
 have HWo:=hide ho
 have hx0:=hx x0 (by simp)
 obtain ⟨s,hs⟩:∃ s,s=bs x0.text:=⟨_,rfl⟩
 have Hs:=hide hs
 have hsl:s.toList=x0.text:=by rw [hs,ByteArray.toList_eq]
 have HKd:=hide (fun (X:World)=>dG x0.text X)
 rw [ht,← ht,← hs] at HKd
 rw [show eI x0.text=5 by rw [ht];rfl] at HKd
 have q0:(s.toList == [115,99,114,105,112,116])=false:=by rw [hsl,ht];rfl
 have q1:(s.toList == [108,97,98,101,108])=false:=by rw [hsl,ht];rfl
 have q2:(s.toList == [111,110])=false:=by rw [hsl,ht];rfl
 have q3:(s.toList == [116,105,109,101,111,117,116])=false:=by rw [hsl,ht];rfl
 have q4:(s.toList == [101,111,102])=false:=by rw [hsl,ht];rfl
 have q5:(s.toList == [103,111,116,111])=false:=by rw [hsl,ht];rfl
 have HE:=hide (show takeD d.pl [x0] line=({ d with L:=d.L++[⟨⟨5,⟨#[]⟩,0,0,[],0,0⟩,none,0⟩],opn:=false,tm:=false,ef:=false }:Dp).pl by
  have ht':(aC [x0] 0).text=dQ:=ht
  have e:takeD d.pl [x0] line={ d.pl with ops:=d.pl.ops++[⟨5,⟨#[]⟩,0,0,[],0,0⟩],opn:=false,tm:=false,ef:=false }:=by
   unfold takeD dOp cD eU
   rw [ht']
   rfl
  rw [e]
  show DM.mk _ _ _ _ _ _ _ _ _ _=DM.mk _ _ _ ((d.L++[_]).map OpV.o) _ _ _ _ _ _
  rw [List.map_append]
  rfl)
 have k0:w.cell? ⟨gw,0,none⟩=some (.string (bs x0.text)):=HWo.out.cellAt 0 (by omega)
 have k1:w.cell? ⟨gw,1,none⟩=some (.bool x0.quoted):=HWo.out.cellAt 1 (by omega)
 have k2:w.cell? ⟨gw,2,none⟩=some (.int .i64 x0.at_):=HWo.out.cellAt 2 (by omega)
 rw [← Hs.out] at k0
 clear hsl ht hs h ho hx
 go_enter Tryz.func78,Tryz.ntmps78
 go_wp2_with fail
 refine (HKd.out w).mono ?_
 rintro e wz ⟨rfl,hbz⟩
 have oz:OnB B w wz:=OnB.none (Only.of_below hbz _)
 have HDz:=hide (H.out.same (Only.of_below hbz aA))
 have HOz:=hide oz
 have HWz:=hide (oz.own HWo.out rfl)
 clear k0 k1 k2 hbz oz
 have hgz:gw < wz.heap.size:=by have:=HOz.out.on.size;omega
 go_upto_region 10 with fail
 generalize hX:World.alloc wz _=X7
 have hI7:Blk X7 wz.heap.size 92 (encOp (⟨⟨5,⟨#[]⟩,0,0,[],0,0⟩,none,0⟩:OpV)).toArray:=by rw [← hX];exact Blk.new _ _ _
 have hD7:DAt X7 B a d:=by rw [← hX];exact HDz.out.alloc _
 have HO7:=hide (show OnB B w X7 by rw [← hX];exact HOz.out.alloc _)
 have HW7:=hide ((show OnB B wz X7 by rw [← hX];exact (OnB.refl _ _).alloc _).own HWz.out rfl)
 obtain ⟨g7,hg7⟩:∃ g7,g7=wz.heap.size:=⟨_,rfl⟩
 have HN7:=hide (show ¬ a=g7 by have:=HDz.out.lt;omega)
 have HNb:=hide (show ∀ j,blkA d.oA=some j→j≠g7 from fun j hj e=>by have:=cO HDz.out.ops.row (g:=j) (by rw [aB];exact hj);omega)
 rw [← hg7] at hI7 ⊢
 clear hX hg7 hgz
 obtain ⟨ib,hib,hb0,hb1,hb2⟩:=info_parts Tryz.infoOp
 obtain ⟨U0,hU0⟩:∃ V9,V9=X7.drew:=⟨_,rfl⟩
 have HF0:=hide (hD7.drew)
 have HG0:=hide (HO7.out.drew)
 have HJ0:=hide (hI7.drew)
 have HY0:=hide ((show OnB B X7 X7.drew from (OnB.refl _ _).drew).own HW7.out rfl)
 rw [← hU0] at HF0 HG0 HJ0 HY0
 clear hD7 hI7
 refine aS (l1:=?_) (l2:=?_) 12 (fun w'=>w'.cell? ⟨a,3,none⟩=some (.slice d.oA d.L.length d.oc)∧w'.cell? ⟨g7,0,none⟩=some (.int .i64 5)∧w'.cell? ⟨g7,1,none⟩=some (.string (⟨#[]⟩))∧w'.cell? ⟨g7,2,none⟩=some (.int .i64 (0))∧w'.cell? ⟨g7,3,none⟩=some (.int .i64 0)∧w'.cell? ⟨g7,4,none⟩=some (.slice none 0 0)∧w'.cell? ⟨g7,5,none⟩=some (.int .i64 (0))∧w'.cell? ⟨g7,6,none⟩=some (.int .i64 (0))) (by kernel_rfl) ?_ ?_ ?_ ?_ ?_ ?_ (fun hHeld=>?_)
 rotate_left 2
 ·simp
 ·kernel_rfl
 ·kernel_rfl
 ·simp only [List.take_succ_cons,List.take_zero];rfl
 ·simp only [List.drop_succ_cons,List.drop_zero];rfl
 ·rw [← hU0];exact ⟨HF0.out.cells.2.2.2.1,HJ0.out.cell 0,HJ0.out.cell 1,HJ0.out.cell 2,HJ0.out.cell 3,HJ0.out.cell 4,HJ0.out.cell 5,HJ0.out.cell 6⟩
 rw [← hU0] at hHeld ⊢
 clear hU0
 refine tk 0 ?_ rfl ?_ ?_
 rotate_left
 ·(intro w9 hS9;(try simp only [ga]);go_simp<;>rfl)
 refine tk 1 ?_ rfl ?_ ?_
 rotate_left
 ·(intro w9 hS9;(try simp only [ga]);go_simp<;>rfl)
 refine tk 2 ?_ rfl ?_ ?_
 rotate_left
 ·(intro w9 hS9;(try simp only [ga]);go_simp<;>rfl)
 refine tk 3 ?_ rfl ?_ ?_
 rotate_left
 ·(intro w9 hS9;(try simp only [ga]);go_simp<;>rfl)
 refine tk 4 ?_ rfl ?_ ?_
 rotate_left
 ·(intro w9 hS9;(try simp only [ga]);go_simp<;>rfl)
 refine tk 5 ?_ rfl ?_ ?_
 rotate_left
 ·(intro w9 hS9;(try simp only [ga]);go_simp<;>rfl)
 refine tk 6 ?_ rfl ?_ ?_
 rotate_left
 ·(intro w9 hS9;(try simp only [ga]);go_simp<;>rfl)
 try simp only [Act.put,gp]
 refine rdy 7 rfl (fun K hK=>?_)
 try simp only [ga]
 try go_simp
 obtain ⟨U1,hU1⟩:∃ V9,V9=U0.alloc (.cells (encOp (⟨⟨5,⟨#[]⟩,0,0,[],0,0⟩,none,0⟩:OpV)).toArray 92):=⟨_,rfl⟩
 have HF1:=hide (HF0.out.alloc (.cells (encOp (⟨⟨5,⟨#[]⟩,0,0,[],0,0⟩,none,0⟩:OpV)).toArray 92))
 have HG1:=hide (HG0.out.alloc (.cells (encOp (⟨⟨5,⟨#[]⟩,0,0,[],0,0⟩,none,0⟩:OpV)).toArray 92))
 have HJ1:=hide (HJ0.out.alloc (.cells (encOp (⟨⟨5,⟨#[]⟩,0,0,[],0,0⟩,none,0⟩:OpV)).toArray 92))
 have HY1:=hide (((OnB.refl B U0).alloc (.cells (encOp (⟨⟨5,⟨#[]⟩,0,0,[],0,0⟩,none,0⟩:OpV)).toArray 92)).own HY0.out rfl)
 have HI1:=hide (Blk.new U0 92 (encOp (⟨⟨5,⟨#[]⟩,0,0,[],0,0⟩,none,0⟩:OpV)).toArray)
 rw [← hU1] at HF1 HG1 HJ1 HY1 HI1
 simp only [encOp,List.length_nil] at hU1
 rw [← hU1]
 clear hU1
 refine hK.out _ _ ⟨HF1.out.cells.2.2.2.1,HJ1.out.cell 0,HJ1.out.cell 1,HJ1.out.cell 2,HJ1.out.cell 3,HJ1.out.cell 4,HJ1.out.cell 5,HJ1.out.cell 6⟩ (fun hHeld=>?_)
 clear hK K
 try simp only [Act.put,gp]
 refine rdy 8 rfl (fun K hK=>?_)
 have hbs:B≤U1.heap.size:=by have:=HF1.out.lt;omega
 refine aT U1 (by rfl) (.tmp 58) (.tmp 60) _ (by rfl) B 92 ib _ 7 80 Tryz.underlying23 hib hb0 hb1 hb2 rfl (by omega) (.slice d.oA d.L.length d.oc) d.L.length (flat encOp d.L) (by rfl) HF1.out.ops.row aA (some ⟨U0.heap.size,0,none⟩) 1 1 (encOp (⟨⟨5,⟨#[]⟩,0,0,[],0,0⟩,none,0⟩:OpV)) (by rfl) (aY HI1.out (fun h=>h)) rfl (eQ _) (by simp only [maxLen];omega) (by omega) hbs ?_
 intro v3 U3 hown2 hgr how2
 obtain ⟨A6,c6,rfl,hc6⟩:=aW hown2
 have HBk3:=hide (grownBlk HF1.out.blk hgr HF1.out.ops.row (by decide))
 have HJ3:=hide (Blk.only HJ1.out (aG hgr) (fun hgg=>by rw [aB] at hgg;exact HNb.out g7 hgg rfl))
 rw [aB] at hgr
 have HYg:=hide (OnB.of (B:=B) (aG hgr) (fun g hg=>aU HF1.out.ops.row g (by rw [aB];exact hg)) (fun g hg=>aZ HF1.out.ops.row (by rw [aB];exact hg)) (T:=92) rfl)
 have HG3:=hide hgr
 have HOw3:=hide hown2
 clear hgr hown2 how2
 refine hK.out _ _ ⟨(show U3.cell? ⟨a,3,none⟩=some (.slice d.oA d.L.length d.oc) by rw [HBk3.out.cell];rfl),HJ3.out.cell 0,HJ3.out.cell 1,HJ3.out.cell 2,HJ3.out.cell 3,HJ3.out.cell 4,HJ3.out.cell 5,HJ3.out.cell 6⟩ (fun hHeld=>?_)
 clear hK K
 refine tk 9 ?_ rfl ?_ ?_
 rotate_left
 ·(intro w9 hS9;(try simp only [ga]);go_simp<;>rfl)
 refine tk 10 ?_ rfl ?_ ?_
 rotate_left
 ·(intro w9 hS9;(try simp only [ga]);go_simp<;>rfl)
 refine tk 11 ?_ rfl ?_ ?_
 rotate_left
 ·(intro w9 hS9;(try simp only [ga]);go_simp<;>rfl)
 try simp only [Act.put,gp]
 refine wpAnyH_done (by kernel_rfl) ?_ _
 try simp only [Exit.then]
 clear hHeld
 have f4:=HBk3.out.frozen 3
 have k4:U3.cell? ⟨a,3,none⟩=some (.slice d.oA d.L.length d.oc):=by rw [HBk3.out.cell];rfl
 have HF:=hide (HF1.out.app (d':={ d with L:=d.L++[⟨⟨5,⟨#[]⟩,0,0,[],0,0⟩,none,0⟩],oA:=A6,oc:=c6 }) (v:=⟨⟨5,⟨#[]⟩,0,0,[],0,0⟩,none,0⟩) hbs HG3.out rfl rfl rfl HOw3.out rfl)
 go_upto_region 11 with fail
 generalize hV5:World.setCell U3 _ _=V5
 have HD5:=hide (show DAt V5 B a { d with L:=d.L++[⟨⟨5,⟨#[]⟩,0,0,[],0,0⟩,none,0⟩],oA:=A6,oc:=c6 } by rw [← hV5];exact HF.out.1)
 have HO5:=hide (show OnB B w V5 by rw [← hV5];exact HG1.out.trans HF.out.2)
 have HW5:=hide (show V5.ownsRow bw 141 3 (.slice (some ⟨gw,0,none⟩) 1 c) 1 (flat encW [x0]) by rw [← hV5];exact HF.out.2.own HY1.out rfl)
 clear hV5 f4 k4 hib hb0 hb1 hb2 ib
 have d7:=HD5.out.cells.2.2.2.2.2.2.2.1
 have d8:=HD5.out.cells.2.2.2.2.2.2.2.2.1
 have d9:=HD5.out.cells.2.2.2.2.2.2.2.2.2
 have f7:=HD5.out.frozen 7
 have f8:=HD5.out.frozen 8
 have f9:=HD5.out.frozen 9
 go_upto_region 12 with fail
 generalize hV8:World.setCell (World.setCell (World.setCell V5 _ _) _ _) _ _=V8
 have R1:=HD5.out.cell (d':={ ({ d with L:=d.L++[⟨⟨5,⟨#[]⟩,0,0,[],0,0⟩,none,0⟩],oA:=A6,oc:=c6 }:Dp) with opn:=false }) 7 (.bool false) rfl
 have R2:=R1.1.cell (d':={ ({ d with L:=d.L++[⟨⟨5,⟨#[]⟩,0,0,[],0,0⟩,none,0⟩],oA:=A6,oc:=c6 }:Dp) with opn:=false,tm:=false }) 8 (.bool false) rfl
 have R3:=R2.1.cell (d':={ d with L:=d.L++[⟨⟨5,⟨#[]⟩,0,0,[],0,0⟩,none,0⟩],oA:=A6,oc:=c6,opn:=false,tm:=false,ef:=false }) 9 (.bool false) rfl
 have HD8:=hide (show DAt V8 B a { d with L:=d.L++[⟨⟨5,⟨#[]⟩,0,0,[],0,0⟩,none,0⟩],oA:=A6,oc:=c6,opn:=false,tm:=false,ef:=false } by rw [← hV8];exact R3.1)
 have HO8:=hide (show OnB B w V8 by rw [← hV8];exact ((HO5.out.trans R1.2).trans R2.2).trans R3.2)
 have HW8:=hide ((show OnB B V5 V8 by rw [← hV8];exact (R1.2.trans R2.2).trans R3.2).own HW5.out rfl)
 clear hV8 R1 R2 R3 d7 d8 d9 f7 f8 f9
 have w1:IntKind.i64.wrap ((d.L.length:Int) + 1 - 1)=(d.L.length:Int):=by rw [show (d.L.length:Int) + 1 - 1=(d.L.length:Int) by omega];exact IntWalk.i64_in _ (by omega)
 have w3:IntKind.i64.wrap (d.L.length:Int)=(d.L.length:Int):=IntWalk.i64_in _ (by omega)
 have m0:V8.cell? ⟨gw,0,none⟩=some (.string (bs x0.text)):=HW8.out.cellAt 0 (by omega)
 have m1:V8.cell? ⟨gw,1,none⟩=some (.bool x0.quoted):=HW8.out.cellAt 1 (by omega)
 have m2:V8.cell? ⟨gw,2,none⟩=some (.int .i64 x0.at_):=HW8.out.cellAt 2 (by omega)
 have d3:=(show V8.cell? ⟨a,3,none⟩=some (.slice A6 (d.L.length + 1) c6) from by have q:=HD8.out.cells.2.2.2.1;rw [List.length_append] at q;exact q)
 have HGw:=hide (show gw < V8.heap.size by have:=HO8.out.on.size;omega)
 go_upto_region 14 with fail
 generalize hX:World.alloc V8 _=X
 have HLx:=hide (show Blk X V8.heap.size 141 #[.string (bs x0.text),.bool x0.quoted,.int .i64 x0.at_] by rw [← hX];exact Blk.new _ _ _)
 have HDx:=hide (show DAt X B a { d with L:=d.L++[⟨⟨5,⟨#[]⟩,0,0,[],0,0⟩,none,0⟩],oA:=A6,oc:=c6,opn:=false,tm:=false,ef:=false } by rw [← hX];exact HD8.out.alloc _)
 have HOx:=hide (show OnB B w X by rw [← hX];exact HO8.out.alloc _)
 have HWx:=hide ((show OnB B V8 X by rw [← hX];exact (OnB.refl _ _).alloc _).own HW8.out rfl)
 obtain ⟨g9,hg9⟩:∃ g9,g9=V8.heap.size:=⟨_,rfl⟩
 have HN9:=hide (show ¬ a=g9 by have:=HD8.out.lt;omega)
 rw [← hg9] at HLx ⊢
 clear hX hg9 d3 m0 m1 m2 HGw
 have k0:X.cell? ⟨gw,0,none⟩=some (.string (bs x0.text)):=HWx.out.cellAt 0 (by omega)
 have k1:X.cell? ⟨gw,1,none⟩=some (.bool x0.quoted):=HWx.out.cellAt 1 (by omega)
 have k2:X.cell? ⟨gw,2,none⟩=some (.int .i64 x0.at_):=HWx.out.cellAt 2 (by omega)
 rw [← Hs.out] at k0
 go_wp2_with fail
 refine bodyPost_ret (v:=.tuple #[]) (by simp [results,Tryz.results78,go_sem]) rfl ?_
 exact ⟨rfl,⟨_,HDx.out,by rw [HE.out];rfl⟩,HOx.out⟩
theorem rA (B a:Nat) (d:Dp) (x0:WordM) (A:Option Addr) (c:Nat) (line:Int) (bw:Nat) (w:World) (h:DAt w B a d) (ho:w.ownsRow bw 141 3 (.slice A 1 c) 1 (flat encW [x0])) (ht:x0.text=dP) (hx:∀ x ∈ [x0],x.text.length≤1000000000∧x.at_≤1000000000)
 (hL:d.L.length≤1000000) (hU:d.uses.length≤1000000) (hB:d.labels.length≤1000000) (ha:∀ v ∈ d.L,v.o.arms.length≤1000000):Calls Tryz.prog 78 #[.pointer (some ⟨a,0,none⟩),.slice A 1 c,.int .i64 line] w fun e w'=>e=.returned (.tuple #[])∧mN w w' B a (takeD d.pl [x0] line):=by
 have hBa:=h.base
 have H:=hide h
 obtain ⟨gw,rfl,hbw,hgw⟩:=eK ho (by omega)
 have HWo:=hide ho
 have hx0:=hx x0 (by simp)
 obtain ⟨s,hs⟩:∃ s,s=bs x0.text:=⟨_,rfl⟩
 have Hs:=hide hs
 have hsl:s.toList=x0.text:=by rw [hs,ByteArray.toList_eq]
 have HKd:=hide (fun (X:World)=>dG x0.text X)
 rw [ht,← ht,← hs] at HKd
 rw [show eI x0.text=6 by rw [ht];rfl] at HKd
 have q0:(s.toList == [115,99,114,105,112,116])=false:=by rw [hsl,ht];rfl
 have q1:(s.toList == [108,97,98,101,108])=false:=by rw [hsl,ht];rfl
 have q2:(s.toList == [111,110])=false:=by rw [hsl,ht];rfl
 have q3:(s.toList == [116,105,109,101,111,117,116])=false:=by rw [hsl,ht];rfl
 have q4:(s.toList == [101,111,102])=false:=by rw [hsl,ht];rfl
 have q5:(s.toList == [103,111,116,111])=false:=by rw [hsl,ht];rfl
 have HE:=hide (show takeD d.pl [x0] line=({ d with L:=d.L++[⟨⟨6,⟨#[]⟩,0,0,[],0,0⟩,none,0⟩],opn:=false,tm:=false,ef:=false }:Dp).pl by
  have ht':(aC [x0] 0).text=dP:=ht
  have e:takeD d.pl [x0] line={ d.pl with ops:=d.pl.ops++[⟨6,⟨#[]⟩,0,0,[],0,0⟩],opn:=false,tm:=false,ef:=false }:=by
   unfold takeD dOp cD eU
   rw [ht']
   rfl
  rw [e]
  show DM.mk _ _ _ _ _ _ _ _ _ _=DM.mk _ _ _ ((d.L++[_]).map OpV.o) _ _ _ _ _ _
  rw [List.map_append]
  rfl)
 have k0:w.cell? ⟨gw,0,none⟩=some (.string (bs x0.text)):=HWo.out.cellAt 0 (by omega)
 have k1:w.cell? ⟨gw,1,none⟩=some (.bool x0.quoted):=HWo.out.cellAt 1 (by omega)
 have k2:w.cell? ⟨gw,2,none⟩=some (.int .i64 x0.at_):=HWo.out.cellAt 2 (by omega)
 rw [← Hs.out] at k0
 clear hsl ht hs h ho hx
 go_enter Tryz.func78,Tryz.ntmps78
 go_wp2_with fail
 refine (HKd.out w).mono ?_
 rintro e wz ⟨rfl,hbz⟩
 have oz:OnB B w wz:=OnB.none (Only.of_below hbz _)
 have HDz:=hide (H.out.same (Only.of_below hbz aA))
 have HOz:=hide oz
 have HWz:=hide (oz.own HWo.out rfl)
 clear k0 k1 k2 hbz oz
 have hgz:gw < wz.heap.size:=by have:=HOz.out.on.size;omega
 go_upto_region 10 with fail
 generalize hX:World.alloc wz _=X7
 have hI7:Blk X7 wz.heap.size 92 (encOp (⟨⟨6,⟨#[]⟩,0,0,[],0,0⟩,none,0⟩:OpV)).toArray:=by rw [← hX];exact Blk.new _ _ _
 have hD7:DAt X7 B a d:=by rw [← hX];exact HDz.out.alloc _
 have HO7:=hide (show OnB B w X7 by rw [← hX];exact HOz.out.alloc _)
 have HW7:=hide ((show OnB B wz X7 by rw [← hX];exact (OnB.refl _ _).alloc _).own HWz.out rfl)
 obtain ⟨g7,hg7⟩:∃ g7,g7=wz.heap.size:=⟨_,rfl⟩
 have HN7:=hide (show ¬ a=g7 by have:=HDz.out.lt;omega)
 have HNb:=hide (show ∀ j,blkA d.oA=some j→j≠g7 from fun j hj e=>by have:=cO HDz.out.ops.row (g:=j) (by rw [aB];exact hj);omega)
 rw [← hg7] at hI7 ⊢
 clear hX hg7 hgz
 obtain ⟨ib,hib,hb0,hb1,hb2⟩:=info_parts Tryz.infoOp
 obtain ⟨U0,hU0⟩:∃ V9,V9=X7.drew:=⟨_,rfl⟩
 have HF0:=hide (hD7.drew)
 have HG0:=hide (HO7.out.drew)
 have HJ0:=hide (hI7.drew)
 have HY0:=hide ((show OnB B X7 X7.drew from (OnB.refl _ _).drew).own HW7.out rfl)
 rw [← hU0] at HF0 HG0 HJ0 HY0
 clear hD7 hI7
 refine aS (l1:=?_) (l2:=?_) 12 (fun w'=>w'.cell? ⟨a,3,none⟩=some (.slice d.oA d.L.length d.oc)∧w'.cell? ⟨g7,0,none⟩=some (.int .i64 6)∧w'.cell? ⟨g7,1,none⟩=some (.string (⟨#[]⟩))∧w'.cell? ⟨g7,2,none⟩=some (.int .i64 (0))∧w'.cell? ⟨g7,3,none⟩=some (.int .i64 0)∧w'.cell? ⟨g7,4,none⟩=some (.slice none 0 0)∧w'.cell? ⟨g7,5,none⟩=some (.int .i64 (0))∧w'.cell? ⟨g7,6,none⟩=some (.int .i64 (0))) (by kernel_rfl) ?_ ?_ ?_ ?_ ?_ ?_ (fun hHeld=>?_)
 rotate_left 2
 ·simp
 ·kernel_rfl
 ·kernel_rfl
 ·simp only [List.take_succ_cons,List.take_zero];rfl
 ·simp only [List.drop_succ_cons,List.drop_zero];rfl
 ·rw [← hU0];exact ⟨HF0.out.cells.2.2.2.1,HJ0.out.cell 0,HJ0.out.cell 1,HJ0.out.cell 2,HJ0.out.cell 3,HJ0.out.cell 4,HJ0.out.cell 5,HJ0.out.cell 6⟩
 rw [← hU0] at hHeld ⊢
 clear hU0
 refine tk 0 ?_ rfl ?_ ?_
 rotate_left
 ·(intro w9 hS9;(try simp only [ga]);go_simp<;>rfl)
 refine tk 1 ?_ rfl ?_ ?_
 rotate_left
 ·(intro w9 hS9;(try simp only [ga]);go_simp<;>rfl)
 refine tk 2 ?_ rfl ?_ ?_
 rotate_left
 ·(intro w9 hS9;(try simp only [ga]);go_simp<;>rfl)
 refine tk 3 ?_ rfl ?_ ?_
 rotate_left
 ·(intro w9 hS9;(try simp only [ga]);go_simp<;>rfl)
 refine tk 4 ?_ rfl ?_ ?_
 rotate_left
 ·(intro w9 hS9;(try simp only [ga]);go_simp<;>rfl)
 refine tk 5 ?_ rfl ?_ ?_
 rotate_left
 ·(intro w9 hS9;(try simp only [ga]);go_simp<;>rfl)
 refine tk 6 ?_ rfl ?_ ?_
 rotate_left
 ·(intro w9 hS9;(try simp only [ga]);go_simp<;>rfl)
 try simp only [Act.put,gp]
 refine rdy 7 rfl (fun K hK=>?_)
 try simp only [ga]
 try go_simp
 obtain ⟨U1,hU1⟩:∃ V9,V9=U0.alloc (.cells (encOp (⟨⟨6,⟨#[]⟩,0,0,[],0,0⟩,none,0⟩:OpV)).toArray 92):=⟨_,rfl⟩
 have HF1:=hide (HF0.out.alloc (.cells (encOp (⟨⟨6,⟨#[]⟩,0,0,[],0,0⟩,none,0⟩:OpV)).toArray 92))
 have HG1:=hide (HG0.out.alloc (.cells (encOp (⟨⟨6,⟨#[]⟩,0,0,[],0,0⟩,none,0⟩:OpV)).toArray 92))
 have HJ1:=hide (HJ0.out.alloc (.cells (encOp (⟨⟨6,⟨#[]⟩,0,0,[],0,0⟩,none,0⟩:OpV)).toArray 92))
 have HY1:=hide (((OnB.refl B U0).alloc (.cells (encOp (⟨⟨6,⟨#[]⟩,0,0,[],0,0⟩,none,0⟩:OpV)).toArray 92)).own HY0.out rfl)
 have HI1:=hide (Blk.new U0 92 (encOp (⟨⟨6,⟨#[]⟩,0,0,[],0,0⟩,none,0⟩:OpV)).toArray)
 rw [← hU1] at HF1 HG1 HJ1 HY1 HI1
 simp only [encOp,List.length_nil] at hU1
 rw [← hU1]
 clear hU1
 refine hK.out _ _ ⟨HF1.out.cells.2.2.2.1,HJ1.out.cell 0,HJ1.out.cell 1,HJ1.out.cell 2,HJ1.out.cell 3,HJ1.out.cell 4,HJ1.out.cell 5,HJ1.out.cell 6⟩ (fun hHeld=>?_)
 clear hK K
 try simp only [Act.put,gp]
 refine rdy 8 rfl (fun K hK=>?_)
 have hbs:B≤U1.heap.size:=by have:=HF1.out.lt;omega
 refine aT U1 (by rfl) (.tmp 58) (.tmp 60) _ (by rfl) B 92 ib _ 7 80 Tryz.underlying23 hib hb0 hb1 hb2 rfl (by omega) (.slice d.oA d.L.length d.oc) d.L.length (flat encOp d.L) (by rfl) HF1.out.ops.row aA (some ⟨U0.heap.size,0,none⟩) 1 1 (encOp (⟨⟨6,⟨#[]⟩,0,0,[],0,0⟩,none,0⟩:OpV)) (by rfl) (aY HI1.out (fun h=>h)) rfl (eQ _) (by simp only [maxLen];omega) (by omega) hbs ?_
 intro v3 U3 hown2 hgr how2
 obtain ⟨A6,c6,rfl,hc6⟩:=aW hown2
 have HBk3:=hide (grownBlk HF1.out.blk hgr HF1.out.ops.row (by decide))
 have HJ3:=hide (Blk.only HJ1.out (aG hgr) (fun hgg=>by rw [aB] at hgg;exact HNb.out g7 hgg rfl))
 rw [aB] at hgr
 have HYg:=hide (OnB.of (B:=B) (aG hgr) (fun g hg=>aU HF1.out.ops.row g (by rw [aB];exact hg)) (fun g hg=>aZ HF1.out.ops.row (by rw [aB];exact hg)) (T:=92) rfl)
 have HG3:=hide hgr
 have HOw3:=hide hown2
 clear hgr hown2 how2
 refine hK.out _ _ ⟨(show U3.cell? ⟨a,3,none⟩=some (.slice d.oA d.L.length d.oc) by rw [HBk3.out.cell];rfl),HJ3.out.cell 0,HJ3.out.cell 1,HJ3.out.cell 2,HJ3.out.cell 3,HJ3.out.cell 4,HJ3.out.cell 5,HJ3.out.cell 6⟩ (fun hHeld=>?_)
 clear hK K
 refine tk 9 ?_ rfl ?_ ?_
 rotate_left
 ·(intro w9 hS9;(try simp only [ga]);go_simp<;>rfl)
 refine tk 10 ?_ rfl ?_ ?_
 rotate_left
 ·(intro w9 hS9;(try simp only [ga]);go_simp<;>rfl)
 refine tk 11 ?_ rfl ?_ ?_
 rotate_left
 ·(intro w9 hS9;(try simp only [ga]);go_simp<;>rfl)
 try simp only [Act.put,gp]
 refine wpAnyH_done (by kernel_rfl) ?_ _
 try simp only [Exit.then]
 clear hHeld
 have f4:=HBk3.out.frozen 3
 have k4:U3.cell? ⟨a,3,none⟩=some (.slice d.oA d.L.length d.oc):=by rw [HBk3.out.cell];rfl
 have HF:=hide (HF1.out.app (d':={ d with L:=d.L++[⟨⟨6,⟨#[]⟩,0,0,[],0,0⟩,none,0⟩],oA:=A6,oc:=c6 }) (v:=⟨⟨6,⟨#[]⟩,0,0,[],0,0⟩,none,0⟩) hbs HG3.out rfl rfl rfl HOw3.out rfl)
 go_upto_region 11 with fail
 generalize hV5:World.setCell U3 _ _=V5
 have HD5:=hide (show DAt V5 B a { d with L:=d.L++[⟨⟨6,⟨#[]⟩,0,0,[],0,0⟩,none,0⟩],oA:=A6,oc:=c6 } by rw [← hV5];exact HF.out.1)
 have HO5:=hide (show OnB B w V5 by rw [← hV5];exact HG1.out.trans HF.out.2)
 have HW5:=hide (show V5.ownsRow bw 141 3 (.slice (some ⟨gw,0,none⟩) 1 c) 1 (flat encW [x0]) by rw [← hV5];exact HF.out.2.own HY1.out rfl)
 clear hV5 f4 k4 hib hb0 hb1 hb2 ib
 have d7:=HD5.out.cells.2.2.2.2.2.2.2.1
 have d8:=HD5.out.cells.2.2.2.2.2.2.2.2.1
 have d9:=HD5.out.cells.2.2.2.2.2.2.2.2.2
 have f7:=HD5.out.frozen 7
 have f8:=HD5.out.frozen 8
 have f9:=HD5.out.frozen 9
 go_upto_region 12 with fail
 generalize hV8:World.setCell (World.setCell (World.setCell V5 _ _) _ _) _ _=V8
 have R1:=HD5.out.cell (d':={ ({ d with L:=d.L++[⟨⟨6,⟨#[]⟩,0,0,[],0,0⟩,none,0⟩],oA:=A6,oc:=c6 }:Dp) with opn:=false }) 7 (.bool false) rfl
 have R2:=R1.1.cell (d':={ ({ d with L:=d.L++[⟨⟨6,⟨#[]⟩,0,0,[],0,0⟩,none,0⟩],oA:=A6,oc:=c6 }:Dp) with opn:=false,tm:=false }) 8 (.bool false) rfl
 have R3:=R2.1.cell (d':={ d with L:=d.L++[⟨⟨6,⟨#[]⟩,0,0,[],0,0⟩,none,0⟩],oA:=A6,oc:=c6,opn:=false,tm:=false,ef:=false }) 9 (.bool false) rfl
 have HD8:=hide (show DAt V8 B a { d with L:=d.L++[⟨⟨6,⟨#[]⟩,0,0,[],0,0⟩,none,0⟩],oA:=A6,oc:=c6,opn:=false,tm:=false,ef:=false } by rw [← hV8];exact R3.1)
 have HO8:=hide (show OnB B w V8 by rw [← hV8];exact ((HO5.out.trans R1.2).trans R2.2).trans R3.2)
 have HW8:=hide ((show OnB B V5 V8 by rw [← hV8];exact (R1.2.trans R2.2).trans R3.2).own HW5.out rfl)
 clear hV8 R1 R2 R3 d7 d8 d9 f7 f8 f9
 have w1:IntKind.i64.wrap ((d.L.length:Int) + 1 - 1)=(d.L.length:Int):=by rw [show (d.L.length:Int) + 1 - 1=(d.L.length:Int) by omega];exact IntWalk.i64_in _ (by omega)
 have w3:IntKind.i64.wrap (d.L.length:Int)=(d.L.length:Int):=IntWalk.i64_in _ (by omega)
 have m0:V8.cell? ⟨gw,0,none⟩=some (.string (bs x0.text)):=HW8.out.cellAt 0 (by omega)
 have m1:V8.cell? ⟨gw,1,none⟩=some (.bool x0.quoted):=HW8.out.cellAt 1 (by omega)
 have m2:V8.cell? ⟨gw,2,none⟩=some (.int .i64 x0.at_):=HW8.out.cellAt 2 (by omega)
 have d3:=(show V8.cell? ⟨a,3,none⟩=some (.slice A6 (d.L.length + 1) c6) from by have q:=HD8.out.cells.2.2.2.1;rw [List.length_append] at q;exact q)
 have HGw:=hide (show gw < V8.heap.size by have:=HO8.out.on.size;omega)
 go_upto_region 14 with fail
 generalize hX:World.alloc V8 _=X
 have HLx:=hide (show Blk X V8.heap.size 141 #[.string (bs x0.text),.bool x0.quoted,.int .i64 x0.at_] by rw [← hX];exact Blk.new _ _ _)
 have HDx:=hide (show DAt X B a { d with L:=d.L++[⟨⟨6,⟨#[]⟩,0,0,[],0,0⟩,none,0⟩],oA:=A6,oc:=c6,opn:=false,tm:=false,ef:=false } by rw [← hX];exact HD8.out.alloc _)
 have HOx:=hide (show OnB B w X by rw [← hX];exact HO8.out.alloc _)
 have HWx:=hide ((show OnB B V8 X by rw [← hX];exact (OnB.refl _ _).alloc _).own HW8.out rfl)
 obtain ⟨g9,hg9⟩:∃ g9,g9=V8.heap.size:=⟨_,rfl⟩
 have HN9:=hide (show ¬ a=g9 by have:=HD8.out.lt;omega)
 rw [← hg9] at HLx ⊢
 clear hX hg9 d3 m0 m1 m2 HGw
 have k0:X.cell? ⟨gw,0,none⟩=some (.string (bs x0.text)):=HWx.out.cellAt 0 (by omega)
 have k1:X.cell? ⟨gw,1,none⟩=some (.bool x0.quoted):=HWx.out.cellAt 1 (by omega)
 have k2:X.cell? ⟨gw,2,none⟩=some (.int .i64 x0.at_):=HWx.out.cellAt 2 (by omega)
 rw [← Hs.out] at k0
 go_wp2_with fail
 refine bodyPost_ret (v:=.tuple #[]) (by simp [results,Tryz.results78,go_sem]) rfl ?_
 exact ⟨rfl,⟨_,HDx.out,by rw [HE.out];rfl⟩,HOx.out⟩
end Go.Proofs.YtaioaojfdngfdaaGreatDoor
