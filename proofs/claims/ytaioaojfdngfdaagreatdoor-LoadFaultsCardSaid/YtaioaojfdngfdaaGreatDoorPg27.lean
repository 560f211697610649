/- The parser's labels that are used, and its ops. Conditions: those of each theorem. -/
import Derived.Test.YtaioaojfdngfdaaGreatDoorPg09
import Derived.Test.YtaioaojfdngfdaaGreatDoorPg19
import Derived.Test.YtaioaojfdngfdaaGreatDoorPg26
import Derived.BigRegion
set_option linter.unusedVariables false
set_option linter.unusedSimpArgs false
set_option maxHeartbeats 3200000
namespace Go.Proofs.YtaioaojfdngfdaaGreatDoor
open Go.RowKit
theorem Tryz.infoUse:(Tryz.prog.info? 135).map (fun i=>(i.zero,i.size,i.bytes))=some (some (.agg #[.string ⟨#[]⟩,.int .i64 0,.int .i64 0,.int .i64 0,.int .i64 0]),5,48):=by kernel_rfl
theorem PAt.cells {w:World} {B a:Nat} {p:Pp} (h:PAt w B a p):w.cell? ⟨a,0,none⟩=some (.string p.name)∧w.cell? ⟨a,1,none⟩=some (.int .i64 p.dl)∧w.cell? ⟨a,2,none⟩=some (.int .i64 p.jm)∧w.cell? ⟨a,3,none⟩=some (.slice p.oA p.L.length p.oc)∧w.cell? ⟨a,4,none⟩=some (.map (some p.mb)) ∧
 w.cell? ⟨a,5,none⟩=some (.slice p.uA p.uses.length p.uc)∧w.cell? ⟨a,6,none⟩=some (.bool p.head)∧w.cell? ⟨a,7,none⟩=some (.bool p.opn)∧w.cell? ⟨a,8,none⟩=some (.bool p.t0)∧w.cell? ⟨a,9,none⟩=some (.bool p.t1) :=
 ⟨by rw [h.blk.cell];rfl,by rw [h.blk.cell];rfl,by rw [h.blk.cell];rfl,by rw [h.blk.cell];rfl,by rw [h.blk.cell];rfl,by rw [h.blk.cell];rfl,by rw [h.blk.cell];rfl,by rw [h.blk.cell];rfl,by rw [h.blk.cell];rfl,by rw [h.blk.cell];rfl⟩
theorem PAt.cells2 {w:World} {B a:Nat} {p:Pp} (h:PAt w B a p):w.cell? ⟨a,10,none⟩=some (.int .i64 p.line)∧w.cell? ⟨a,11,none⟩=some (.slice p.wA p.ws.length p.wc)∧w.cell? ⟨a,12,none⟩=some (.int .i64 p.width)∧w.cell? ⟨a,13,none⟩=some (.int .i64 p.st.nx) ∧
 w.cell? ⟨a,14,none⟩=some (.int .i64 p.st.sl)∧w.cell? ⟨a,15,none⟩=some (.int .i64 p.st.sc)∧w.cell? ⟨a,16,none⟩=some (.int .i64 p.st.bad):=PBlk.cells (f:=p.fr) h.blk
theorem PAt.frozen {w:World} {B a:Nat} {p:Pp} (h:PAt w B a p) (i:Nat):w.frozen? ⟨a,i,none⟩=false:=Blk.frozen h.blk i
theorem PAt.wordsOf {w:World} {B a:Nat} {p:Pp} (h:PAt w B a p):Rd w (· = a) p.fr.wA (flat encW p.fr.ws):=h.words
theorem sV {p:Pp} {n:Nat} (hz:MSz p.pl n):(dN p.pl).1.text.length≤1000000000∧(dN p.pl).1.at_≤1000000000:=by
 have h:=g8 (f:=p.fr) hz.fr p.st false
 exact ⟨h.1,h.2.1⟩
set_option maxRecDepth 100000 in
theorem hH (B a:Nat) (p:Pp) (n:Nat) (how:Int) (w:World) (h:PAt w B a p) (hz:MSz p.pl n):Calls Tryz.prog 115 #[.pointer (some ⟨a,0,none⟩),.int .i64 how] w fun e w'=>e=.returned (.tuple #[])∧Did w w' B a (cQ p.pl how):=by
 obtain ⟨ia,hia,hz0,hz1,hz2⟩:=info_parts Tryz.infoUse
 have hBa:=h.base
 have hsz:=sV hz
 have hul:p.uses.length≤n:=hz.uses
 have hol:(p.L.map (·.o)).length≤n:=hz.ops
 rw [List.length_map] at hol
 have hns:=hz.small
 have HNm:=hide (uU a p.fr p.st w h.blk hz.fr h.wordsOf (by have:=hz.nx;have e:p.pl.st.nx=p.st.nx:=rfl;omega))
 obtain ⟨N,hN⟩:∃ N,N=b9 p.fr.line p.fr.width p.fr.ws p.st:=⟨_,rfl⟩
 have hNe:dN p.pl=N:=hN.symm
 rw [← hN] at HNm
 rw [hNe] at hsz
 have HE:=hide (show cQ p.pl how=({ p with st:=N.2,uses:=p.uses++[⟨N.1.text,p.line,(N.1.at_:Nat) + 1,(p.L.length:Nat) - 1,how⟩] }:Pp).pl by
  unfold cQ
  rw [hNe]
  show _=PM.mk _ _ _ _ _ _ _ _ _ _ _ _ _ _
  simp [Pp.pl])
 clear hN hNe
 obtain ⟨⟨xt,xq,xa⟩,s2⟩:=N
 simp only at HNm hsz HE
 have H:=hide h
 have hxa:=hsz.2
 clear h hz hsz
 go_enter Tryz.func115,Tryz.ntmps115
 go_wp2_with fail
 refine HNm.out.mono ?_
 rintro e wq ⟨rfl,hb2,ho2⟩
 have hP2:=H.out.st ho2 hb2
 have hO2:=H.out.only ho2
 clear hb2 ho2
 go_upto_region 1 with fail
 generalize hX:World.alloc wq _=X
 have hX3:Blk X wq.heap.size 128 #[.string (bs xt),.bool xq,.int .i64 xa]:=by rw [← hX];exact Blk.new _ _ _
 have hP3:PAt X B a { p with st:=s2 }:=by rw [← hX];exact hP2.alloc _
 have hO3:OnB B w X:=by rw [← hX];exact hO2.alloc _
 have hxs:X.heap.size=wq.heap.size + 1:=by rw [← hX];simp
 have hal:=hP2.lt
 obtain ⟨g,hg⟩:∃ g,g=wq.heap.size:=⟨_,rfl⟩
 rw [← hg] at hX3 hxs hal ⊢
 clear hX hP2 hO2 hg
 obtain ⟨V0,hV0⟩:∃ V9,V9=X.drew:=⟨_,rfl⟩
 have HX0:=hide (hX3.drew)
 have HP0:=hide (hP3.drew)
 have HO0:=hide (hO3.drew)
 rw [← hV0] at HX0 HP0 HO0
 have HGl:=hide (show g < V0.heap.size from HX0.out.lt)
 clear hX3 hP3 hO3 hxs
 have HNe:=hide (show a≠g by omega)
 have w1:IntKind.i64.wrap ((xa:Int) + 1)=(xa:Int) + 1:=IntWalk.i64_in _ (by omega)
 have w2:IntKind.i64.wrap ((p.L.length:Int) - 1)=(p.L.length:Int) - 1:=IntWalk.i64_in _ (by omega)
 have HL:=hide hol
 have HU:=hide hul
 clear hal
 refine aS (l1:=?_) (l2:=?_) 28 (fun w'=>w'.cell? ⟨a,3,none⟩=some (.slice p.oA p.L.length p.oc)∧w'.cell? ⟨a,5,none⟩=some (.slice p.uA p.uses.length p.uc)∧w'.cell? ⟨a,10,none⟩=some (.int .i64 p.line)∧w'.cell? ⟨g,0,none⟩=some (.string (bs xt))∧w'.cell? ⟨g,2,none⟩=some (.int .i64 xa)) (by kernel_rfl) ?_ ?_ ?_ ?_ ?_ ?_ (fun hHeld=>?_)
 rotate_left 2
 ·simp
 ·kernel_rfl
 ·kernel_rfl
 ·simp only [List.take_succ_cons,List.take_zero];rfl
 ·simp only [List.drop_succ_cons,List.drop_zero];rfl
 ·rw [← hV0];exact ⟨HP0.out.cells.2.2.2.1,HP0.out.cells.2.2.2.2.2.1,HP0.out.cells2.1,HX0.out.three.1.1,HX0.out.three.1.2.2⟩
 rw [← hV0] at hHeld ⊢
 clear hV0
 refine tk 0 ?_ rfl ?_ ?_
 rotate_left
 ·(intro w9 hS9;(try simp only [ga]);go_simp<;>rfl)
 refine tk 1 ?_ rfl ?_ ?_
 rotate_left
 ·(intro w9 hS9;(try simp only [ga]);go_simp<;>rfl)
 refine tk 2 ?_ rfl ?_ ?_
 rotate_left
 ·(intro w9 hS9;(try simp only [ga]);go_simp<;>rfl)
 refine tk 3 ?_ rfl ?_ ?_
 rotate_left
 ·(intro w9 hS9;(try simp only [ga]);go_simp<;>rfl)
 refine tk 4 ?_ rfl ?_ ?_
 rotate_left
 ·(intro w9 hS9;(try simp only [ga]);go_simp<;>rfl)
 refine tk 5 ?_ rfl ?_ ?_
 rotate_left
 ·(intro w9 hS9;(try simp only [ga]);go_simp<;>rfl)
 refine tk 6 ?_ rfl ?_ ?_
 rotate_left
 ·(intro w9 hS9;(try simp only [ga]);go_simp<;>rfl)
 refine tk 7 ?_ rfl ?_ ?_
 rotate_left
 ·(intro w9 hS9;(try simp only [ga]);go_simp<;>rfl)
 refine tk 8 ?_ rfl ?_ ?_
 rotate_left
 ·(intro w9 hS9;(try simp only [ga]);go_simp<;>rfl)
 refine tk 9 ?_ rfl ?_ ?_
 rotate_left
 ·(intro w9 hS9;(try simp only [ga]);go_simp<;>rfl)
 refine tk 10 ?_ rfl ?_ ?_
 rotate_left
 ·(intro w9 hS9;(try simp only [ga]);go_simp<;>rfl)
 refine tk 11 ?_ rfl ?_ ?_
 rotate_left
 ·(intro w9 hS9;(try simp only [ga]);go_simp<;>rfl)
 refine tk 12 ?_ rfl ?_ ?_
 rotate_left
 ·(intro w9 hS9;(try simp only [ga]);go_simp<;>rfl)
 refine tk 13 ?_ rfl ?_ ?_
 rotate_left
 ·(intro w9 hS9;(try simp only [ga]);go_simp<;>rfl)
 refine tk 14 ?_ rfl ?_ ?_
 rotate_left
 ·(intro w9 hS9;(try simp only [ga]);go_simp<;>rfl)
 refine tk 15 ?_ rfl ?_ ?_
 rotate_left
 ·(intro w9 hS9;(try simp only [ga]);go_simp<;>rfl)
 refine tk 16 ?_ rfl ?_ ?_
 rotate_left
 ·(intro w9 hS9;(try simp only [ga]);go_simp<;>rfl)
 refine tk 17 ?_ rfl ?_ ?_
 rotate_left
 ·(intro w9 hS9;(try simp only [ga]);go_simp<;>rfl)
 refine tk 18 ?_ rfl ?_ ?_
 rotate_left
 ·(intro w9 hS9;(try simp only [ga]);go_simp<;>rfl)
 refine tk 19 ?_ rfl ?_ ?_
 rotate_left
 ·(intro w9 hS9;(try simp only [ga]);go_simp<;>rfl)
 refine tk 20 ?_ rfl ?_ ?_
 rotate_left
 ·(intro w9 hS9;(try simp only [ga]);go_simp<;>rfl)
 refine tk 21 ?_ rfl ?_ ?_
 rotate_left
 ·(intro w9 hS9;(try simp only [ga]);go_simp<;>rfl)
 refine tk 22 ?_ rfl ?_ ?_
 rotate_left
 ·(intro w9 hS9;(try simp only [ga]);go_simp<;>rfl)
 refine tk 23 ?_ rfl ?_ ?_
 rotate_left
 ·(intro w9 hS9;(try simp only [ga]);go_simp<;>rfl)
 try simp only [Act.put,gp]
 refine rdy 24 rfl (fun K hK=>?_)
 try simp only [ga]
 try go_simp
 obtain ⟨V1,hV1⟩:∃ V9,V9=V0.alloc (.cells (encUse ⟨xt,p.line,(xa:Int) + 1,(p.L.length:Int) - 1,how⟩).toArray 135):=⟨_,rfl⟩
 have HP1:=hide (HP0.out.alloc (.cells (encUse ⟨xt,p.line,(xa:Int) + 1,(p.L.length:Int) - 1,how⟩).toArray 135))
 have HX1:=hide (HX0.out.alloc (.cells (encUse ⟨xt,p.line,(xa:Int) + 1,(p.L.length:Int) - 1,how⟩).toArray 135))
 have HO1:=hide (HO0.out.alloc (.cells (encUse ⟨xt,p.line,(xa:Int) + 1,(p.L.length:Int) - 1,how⟩).toArray 135))
 have HI1:=hide (Blk.new V0 135 (encUse ⟨xt,p.line,(xa:Int) + 1,(p.L.length:Int) - 1,how⟩).toArray)
 rw [← hV1] at HP1 HX1 HO1 HI1
 simp only [encUse] at hV1
 rw [← hV1]
 clear hV1
 refine hK.out _ _ ⟨HP1.out.cells.2.2.2.1,HP1.out.cells.2.2.2.2.2.1,HP1.out.cells2.1,HX1.out.three.1.1,HX1.out.three.1.2.2⟩ (fun hHeld=>?_)
 clear hK K
 try simp only [Act.put,gp]
 refine rdy 25 rfl (fun K hK=>?_)
 have hbs:B≤V1.heap.size:=by have:=HP1.out.lt;omega
 refine aT V1 (by rfl) (.tmp 11) (.tmp 31) _ (by rfl) B 135 ia _ 5 48 Tryz.underlying72 hia hz0 hz1 hz2 rfl (by omega) (.slice p.uA p.uses.length p.uc) p.uses.length (flat encUse p.uses) (by rfl) HP1.out.uses aA (some ⟨V0.heap.size,0,none⟩) 1 1 (encUse ⟨xt,p.line,(xa:Int) + 1,(p.L.length:Int) - 1,how⟩) (by rfl) (aY HI1.out (fun h=>h)) rfl (gP _) (by simp only [maxLen];have:=HU.out;omega) (by have:=HU.out;omega) hbs ?_
 intro v3 V3 hown2 hgr how2
 obtain ⟨A4,c4,rfl,hc4⟩:=aW hown2
 have HG3:=hide hgr
 have HOw3:=hide hown2
 have HBk3:=hide (Blk.only HP1.out.blk (aG (row:=blkA p.uA) (by rw [← aB p.uA p.uses.length p.uc];exact hgr)) (fun hgg=>by obtain ⟨cs,hc⟩:=aZ HP1.out.uses (by rw [aB];exact hgg);exact Blk.ne_ hc HP1.out.blk (by decide) rfl))
 have HX3:=hide (HX1.out.only (aG (row:=blkA p.uA) (by rw [← aB p.uA p.uses.length p.uc];exact hgr)) (fun hgg=>by obtain ⟨cs,hc⟩:=aZ HP1.out.uses (by rw [aB];exact hgg);exact Blk.ne_ hc HX1.out (by decide) rfl))
 clear hgr hown2 how2
 refine hK.out _ _ ⟨by rw [HBk3.out.cell];rfl,by rw [HBk3.out.cell];rfl,by rw [HBk3.out.cell];rfl,HX3.out.three.1.1,HX3.out.three.1.2.2⟩ (fun hHeld=>?_)
 clear hK K
 refine tk 26 ?_ rfl ?_ ?_
 rotate_left
 ·(intro w9 hS9;(try simp only [ga]);go_simp<;>rfl)
 refine tk 27 ?_ rfl ?_ ?_
 rotate_left
 ·(intro w9 hS9;(try simp only [ga]);go_simp<;>rfl)
 try simp only [Act.put,gp]
 refine wpAnyH_done (by kernel_rfl) ?_ _
 try simp only [Exit.then]
 clear hHeld
 have f4:=HBk3.out.frozen 5
 have k4:V3.cell? ⟨a,5,none⟩=some (.slice p.uA p.uses.length p.uc):=by rw [HBk3.out.cell];rfl
 have hfin:=HP1.out.use (p':={ p with st:=s2,uses:=p.uses++[⟨xt,p.line,(xa:Int) + 1,(p.L.length:Int) - 1,how⟩],uA:=A4,uc:=c4 }) (by rw [← aB p.uA p.uses.length p.uc];exact HG3.out) HOw3.out rfl
 have HF:=hide hfin
 clear hfin
 go_wp2_with fail
 go_end0
 refine ⟨rfl,⟨_,HF.out.1,?_⟩,HO1.out.trans HF.out.2⟩
 rw [HE.out]
 rfl
theorem PAt.grownBlk {w w':World} {B a:Nat} {p:Pp} {v:Value} {base size n:Nat} {e:TypeId} {xs:List Value} (h:PAt w B a p) (hg:w.grownBy w' v.ownBlock) (ho:w.ownsRow base e size v n xs) (hT:e≠76):PBlk w' a p.fr p.st :=
 Blk.only h.blk (aG hg) (fun hgg=>by obtain ⟨cs,hc⟩:=aZ ho hgg;exact Blk.ne_ hc h.blk hT rfl)
theorem grownBlk {w w':World} {b:Nat} {T:TypeId} {cs:Array Value} {v:Value} {base size n:Nat} {e:TypeId} {xs:List Value} (h:Blk w b T cs) (hg:w.grownBy w' v.ownBlock) (ho:w.ownsRow base e size v n xs) (hT:e≠T):Blk w' b T cs :=
 Blk.only h (aG hg) (fun hgg=>by obtain ⟨cs,hc⟩:=aZ ho hgg;exact Blk.ne_ hc h hT rfl)
theorem lN {w:World} {base size n:Nat} {e:TypeId} {A:Option Addr} {c:Nat} {xs:List Value} (h:w.ownsRow base e size (.slice A (n + 1) c) (n + 1) xs):∃ g,A=some ⟨g,0,none⟩∧base≤g∧g < w.heap.size:=by
 rcases h.2 with ⟨_,hn⟩ | ⟨g,cap,cur,hv,hb,hh,_⟩
 ·omega
 ·injection hv with h1
  exact ⟨g,h1,hb,Blk.lt (t:=e) (cs:=cur) hh⟩
set_option maxRecDepth 100000 in
theorem qC (B a:Nat) (p:Pp) (n:Nat) (k:Int) (t:ByteArray) (nn to_ x y:Int) (w:World) (h:PAt w B a p) (hz:MSz p.pl n):Calls Tryz.prog 117 #[.pointer (some ⟨a,0,none⟩),.agg #[.int .i64 k,.string t,.int .i64 nn,.int .i64 to_,.slice none 0 0,.int .i64 x,.int .i64 y]] w fun e w' =>
 (∃ g c,e=.returned (.pointer (some ⟨g,p.L.length * 7,none⟩))∧PAt w' B a { p with L:=p.L++[⟨⟨k,t,nn,to_,[],x,y⟩,none,0⟩],oA:=some ⟨g,0,none⟩,oc:=c,st:=(mOp p.pl ⟨k,t,nn,to_,[],x,y⟩).st })∧OnB B w w':=by
 obtain ⟨ia,hia,hz0,hz1,hz2⟩:=info_parts Tryz.infoOp
 have hBa:=h.base
 have hol:(p.L.map (·.o)).length≤n:=hz.ops
 rw [List.length_map] at hol
 have hns:=hz.small
 have HS:=hide (show (mOp p.pl ⟨k,t,nn,to_,[],x,y⟩).st=if 200≤p.L.length then bE p.line p.st 0 4 else p.st by
  unfold mOp
  show (if 200≤(p.L.map (·.o)).length then _ else _)=_
  rw [List.length_map];rfl)
 generalize (mOp p.pl ⟨k,t,nn,to_,[],x,y⟩).st=s at HS ⊢
 have HFl:=hide (fun (w:World) (h:PBlk w a p.fr p.st)=>eA a p.fr p.st 0 4 w h (by omega) (by omega))
 have H:=hide h
 have HL:=hide hol
 have hal:=h.lt
 have w2:IntKind.i64.wrap (p.L.length:Int)=(p.L.length:Int):=IntWalk.i64_in _ (by omega)
 have c3:=h.cells.2.2.2.1
 clear h hz hol
 by_cases h200:200≤p.L.length
 case pos =>
  have q1:decide ((200:Int)≤(p.L.length:Int))=true:=by simp;omega
  have HE:=hide (show s=bE p.line p.st 0 4 by rw [HS.out,if_pos h200])
  clear HS h200
  go_enter Tryz.func117,Tryz.ntmps117
  go_wp2_with fail
  generalize hX:World.alloc w _=X
  have hI:Blk X w.heap.size 92 #[.int .i64 k,.string t,.int .i64 nn,.int .i64 to_,.slice none 0 0,.int .i64 x,.int .i64 y]:=by rw [← hX];exact Blk.new _ _ _
  have hP:PAt X B a p:=by rw [← hX];exact H.out.alloc _
  have hO:OnB B w X:=by rw [← hX];exact (OnB.refl _ w).alloc _
  clear hX
  refine (HFl.out X hP.blk).mono ?_
  rintro e wq ⟨rfl,hb2,ho2⟩
  have hb3:PBlk wq a p.fr s:=by rw [HE.out];exact hb2
  have hP2:=hP.st ho2 hb3
  have hO2:=hO.trans (hP.only ho2)
  have hI2:=hI.only ho2 (by omega)
  clear hb2 ho2 hb3 hI hP hO c3
  obtain ⟨b,hb⟩:∃ b,b=w.heap.size:=⟨_,rfl⟩
  rw [← hb] at hI2 ⊢
  have HNb:=hide (show ∀ j,blkA p.oA=some j→j≠b from fun j hj e=>by have:=cO H.out.ops.row (g:=j) (by rw [aB];exact hj);omega)
  have hal2:a≠b:=by omega
  clear hb hal
  have c3:=hP2.cells.2.2.2.1
  have e0:=hI2.cell 0
  go_upto_region 3 with fail
  obtain ⟨V0,hV0⟩:∃ V9,V9=wq.drew:=⟨_,rfl⟩
  have HP0:=hide (hP2.drew)
  have HO0:=hide (hO2.drew)
  have HI0:=hide (hI2.drew)
  rw [← hV0] at HP0 HO0 HI0
  clear hP2 hO2 hI2
  refine aS (l1:=?_) (l2:=?_) 12 (fun w'=>w'.cell? ⟨a,3,none⟩=some (.slice p.oA p.L.length p.oc)∧w'.cell? ⟨b,0,none⟩=some (.int .i64 k)∧w'.cell? ⟨b,1,none⟩=some (.string t)∧w'.cell? ⟨b,2,none⟩=some (.int .i64 nn)∧w'.cell? ⟨b,3,none⟩=some (.int .i64 to_)∧w'.cell? ⟨b,4,none⟩=some (.slice none 0 0)∧w'.cell? ⟨b,5,none⟩=some (.int .i64 x)∧w'.cell? ⟨b,6,none⟩=some (.int .i64 y)) (by kernel_rfl) ?_ ?_ ?_ ?_ ?_ ?_ (fun hHeld=>?_)
  rotate_left 2
  ·simp
  ·kernel_rfl
  ·kernel_rfl
  ·simp only [List.take_succ_cons,List.take_zero];rfl
  ·simp only [List.drop_succ_cons,List.drop_zero];rfl
  ·rw [← hV0];exact ⟨HP0.out.cells.2.2.2.1,by rw [HI0.out.cell];rfl,by rw [HI0.out.cell];rfl,by rw [HI0.out.cell];rfl,by rw [HI0.out.cell];rfl,by rw [HI0.out.cell];rfl,by rw [HI0.out.cell];rfl,by rw [HI0.out.cell];rfl⟩
  rw [← hV0] at hHeld ⊢
  clear hV0
  refine tk 0 ?_ rfl ?_ ?_
  rotate_left
  ·(intro w9 hS9;(try simp only [ga]);go_simp<;>rfl)
  refine tk 1 ?_ rfl ?_ ?_
  rotate_left
  ·(intro w9 hS9;(try simp only [ga]);go_simp<;>rfl)
  refine tk 2 ?_ rfl ?_ ?_
  rotate_left
  ·(intro w9 hS9;(try simp only [ga]);go_simp<;>rfl)
  refine tk 3 ?_ rfl ?_ ?_
  rotate_left
  ·(intro w9 hS9;(try simp only [ga]);go_simp<;>rfl)
  refine tk 4 ?_ rfl ?_ ?_
  rotate_left
  ·(intro w9 hS9;(try simp only [ga]);go_simp<;>rfl)
  refine tk 5 ?_ rfl ?_ ?_
  rotate_left
  ·(intro w9 hS9;(try simp only [ga]);go_simp<;>rfl)
  refine tk 6 ?_ rfl ?_ ?_
  rotate_left
  ·(intro w9 hS9;(try simp only [ga]);go_simp<;>rfl)
  try simp only [Act.put,gp]
  refine rdy 7 rfl (fun K hK=>?_)
  try simp only [ga]
  try go_simp
  obtain ⟨V1,hV1⟩:∃ V9,V9=V0.alloc (.cells (encOp (⟨⟨k,t,nn,to_,[],x,y⟩,none,0⟩:OpV)).toArray 92):=⟨_,rfl⟩
  have HP1:=hide (HP0.out.alloc (.cells (encOp (⟨⟨k,t,nn,to_,[],x,y⟩,none,0⟩:OpV)).toArray 92))
  have HI1:=hide (HI0.out.alloc (.cells (encOp (⟨⟨k,t,nn,to_,[],x,y⟩,none,0⟩:OpV)).toArray 92))
  have HO1:=hide (HO0.out.alloc (.cells (encOp (⟨⟨k,t,nn,to_,[],x,y⟩,none,0⟩:OpV)).toArray 92))
  have HJ1:=hide (Blk.new V0 92 (encOp (⟨⟨k,t,nn,to_,[],x,y⟩,none,0⟩:OpV)).toArray)
  rw [← hV1] at HP1 HO1 HI1 HJ1
  simp only [encOp,List.length_nil] at hV1
  rw [← hV1]
  clear hV1
  refine hK.out _ _ ⟨HP1.out.cells.2.2.2.1,by rw [HI1.out.cell];rfl,by rw [HI1.out.cell];rfl,by rw [HI1.out.cell];rfl,by rw [HI1.out.cell];rfl,by rw [HI1.out.cell];rfl,by rw [HI1.out.cell];rfl,by rw [HI1.out.cell];rfl⟩ (fun hHeld=>?_)
  clear hK K
  try simp only [Act.put,gp]
  refine rdy 8 rfl (fun K hK=>?_)
  have hbs:B≤V1.heap.size:=by have:=HP1.out.lt;omega
  refine aT V1 (by rfl) (.tmp 19) (.tmp 21) _ (by rfl) B 92 ia _ 7 80 Tryz.underlying23 hia hz0 hz1 hz2 rfl (by omega) (.slice p.oA p.L.length p.oc) p.L.length (flat encOp p.L) (by rfl) HP1.out.ops.row aA (some ⟨V0.heap.size,0,none⟩) 1 1 (encOp (⟨⟨k,t,nn,to_,[],x,y⟩,none,0⟩:OpV)) (by rfl) (aY HJ1.out (fun h=>h)) rfl (eQ _) (by simp only [maxLen];have:=HL.out;omega) (by have:=HL.out;omega) hbs ?_
  intro v3 V3 hown2 hgr how2
  obtain ⟨A4,c4,rfl,hc4⟩:=aW hown2
  have HG3:=hide hgr
  have HOw3:=hide hown2
  have HBk3:=hide (HP1.out.grownBlk hgr HP1.out.ops.row (by decide))
  have HI3:=hide (Blk.only HI1.out (aG hgr) (fun hgg=>by rw [aB] at hgg;exact HNb.out b hgg rfl))
  clear hgr hown2 how2
  refine hK.out _ _ ⟨(show V3.cell? ⟨a,3,none⟩=some (.slice p.oA p.L.length p.oc) by rw [HBk3.out.cell];rfl),by rw [HI3.out.cell];rfl,by rw [HI3.out.cell];rfl,by rw [HI3.out.cell];rfl,by rw [HI3.out.cell];rfl,by rw [HI3.out.cell];rfl,by rw [HI3.out.cell];rfl,by rw [HI3.out.cell];rfl⟩ (fun hHeld=>?_)
  clear hK K
  refine tk 9 ?_ rfl ?_ ?_
  rotate_left
  ·(intro w9 hS9;(try simp only [ga]);go_simp<;>rfl)
  refine tk 10 ?_ rfl ?_ ?_
  rotate_left
  ·(intro w9 hS9;(try simp only [ga]);go_simp<;>rfl)
  refine tk 11 ?_ rfl ?_ ?_
  rotate_left
  ·(intro w9 hS9;(try simp only [ga]);go_simp<;>rfl)
  try simp only [Act.put,gp]
  refine wpAnyH_done (by kernel_rfl) ?_ _
  try simp only [Exit.then]
  clear hHeld
  have f4:=HBk3.out.frozen 3
  have k4:V3.cell? ⟨a,3,none⟩=some (.slice p.oA p.L.length p.oc):=by rw [HBk3.out.cell];rfl
  obtain ⟨g,rfl,hgB,hgl⟩:=lN HOw3.out
  have HF:=hide (HP1.out.app (p':={ p with st:=s,L:=p.L++[⟨⟨k,t,nn,to_,[],x,y⟩,none,0⟩],oA:=some ⟨g,0,none⟩,oc:=c4 }) (v:=⟨⟨k,t,nn,to_,[],x,y⟩,none,0⟩) hbs (by rw [← aB p.oA p.L.length p.oc];exact HG3.out) rfl rfl rfl HOw3.out rfl)
  go_upto_region 4 with fail
  generalize hV5:World.setCell V3 _ _=V5
  have HP5:=hide (show PAt V5 B a { p with st:=s,L:=p.L++[⟨⟨k,t,nn,to_,[],x,y⟩,none,0⟩],oA:=some ⟨g,0,none⟩,oc:=c4 } by rw [← hV5];exact HF.out.1)
  have HO5:=hide (show OnB B w V5 by rw [← hV5];exact HO1.out.trans HF.out.2)
  clear hV5 k4 f4
  have k5:V5.cell? ⟨a,3,none⟩=some (.slice (some ⟨g,0,none⟩) (p.L.length + 1) c4):=by have:=HP5.out.cells.2.2.2.1;rw [List.length_append] at this;exact this
  have j1:(0:Int)≤(p.L.length:Int):=by omega
  have j2:(p.L.length:Int) < (p.L.length:Int) + 1:=by omega
  have j3:(p.L.length:Int) < ((p.L.length + 1:Nat):Int):=by omega
  go_region
  go_wp2_with fail
  refine bodyPost_ret (v:=.pointer (some ⟨g,p.L.length * 7,none⟩)) (by simp [results,Tryz.results117,go_sem];try rfl) rfl ?_
  exact ⟨⟨g,rfl,c4,HP5.out.drew⟩,HO5.out.drew⟩
 case neg =>
  have q1:decide ((200:Int)≤(p.L.length:Int))=false:=by simp;omega
  have HE:=hide (show s=p.st by rw [HS.out,if_neg h200])
  clear HS h200
  go_enter Tryz.func117,Tryz.ntmps117
  go_upto_region 3 with fail
  generalize hX:World.alloc w _=X
  have hI:Blk X w.heap.size 92 #[.int .i64 k,.string t,.int .i64 nn,.int .i64 to_,.slice none 0 0,.int .i64 x,.int .i64 y]:=by rw [← hX];exact Blk.new _ _ _
  have hP:PAt X B a { p with st:=s }:=by rw [← hX,HE.out];exact H.out.alloc _
  have hO:OnB B w X:=by rw [← hX];exact (OnB.refl _ w).alloc _
  clear hX c3
  obtain ⟨b,hb⟩:∃ b,b=w.heap.size:=⟨_,rfl⟩
  rw [← hb] at hI ⊢
  have HNb:=hide (show ∀ j,blkA p.oA=some j→j≠b from fun j hj e=>by have:=cO H.out.ops.row (g:=j) (by rw [aB];exact hj);omega)
  have hal2:a≠b:=by omega
  clear hb hal
  obtain ⟨V0,hV0⟩:∃ V9,V9=X.drew:=⟨_,rfl⟩
  have HP0:=hide (hP.drew)
  have HO0:=hide (hO.drew)
  have HI0:=hide (hI.drew)
  rw [← hV0] at HP0 HO0 HI0
  clear hP hO hI
  refine aS (l1:=?_) (l2:=?_) 12 (fun w'=>w'.cell? ⟨a,3,none⟩=some (.slice p.oA p.L.length p.oc)∧w'.cell? ⟨b,0,none⟩=some (.int .i64 k)∧w'.cell? ⟨b,1,none⟩=some (.string t)∧w'.cell? ⟨b,2,none⟩=some (.int .i64 nn)∧w'.cell? ⟨b,3,none⟩=some (.int .i64 to_)∧w'.cell? ⟨b,4,none⟩=some (.slice none 0 0)∧w'.cell? ⟨b,5,none⟩=some (.int .i64 x)∧w'.cell? ⟨b,6,none⟩=some (.int .i64 y)) (by kernel_rfl) ?_ ?_ ?_ ?_ ?_ ?_ (fun hHeld=>?_)
  rotate_left 2
  ·simp
  ·kernel_rfl
  ·kernel_rfl
  ·simp only [List.take_succ_cons,List.take_zero];rfl
  ·simp only [List.drop_succ_cons,List.drop_zero];rfl
  ·rw [← hV0];exact ⟨HP0.out.cells.2.2.2.1,by rw [HI0.out.cell];rfl,by rw [HI0.out.cell];rfl,by rw [HI0.out.cell];rfl,by rw [HI0.out.cell];rfl,by rw [HI0.out.cell];rfl,by rw [HI0.out.cell];rfl,by rw [HI0.out.cell];rfl⟩
  rw [← hV0] at hHeld ⊢
  clear hV0
  refine tk 0 ?_ rfl ?_ ?_
  rotate_left
  ·(intro w9 hS9;(try simp only [ga]);go_simp<;>rfl)
  refine tk 1 ?_ rfl ?_ ?_
  rotate_left
  ·(intro w9 hS9;(try simp only [ga]);go_simp<;>rfl)
  refine tk 2 ?_ rfl ?_ ?_
  rotate_left
  ·(intro w9 hS9;(try simp only [ga]);go_simp<;>rfl)
  refine tk 3 ?_ rfl ?_ ?_
  rotate_left
  ·(intro w9 hS9;(try simp only [ga]);go_simp<;>rfl)
  refine tk 4 ?_ rfl ?_ ?_
  rotate_left
  ·(intro w9 hS9;(try simp only [ga]);go_simp<;>rfl)
  refine tk 5 ?_ rfl ?_ ?_
  rotate_left
  ·(intro w9 hS9;(try simp only [ga]);go_simp<;>rfl)
  refine tk 6 ?_ rfl ?_ ?_
  rotate_left
  ·(intro w9 hS9;(try simp only [ga]);go_simp<;>rfl)
  try simp only [Act.put,gp]
  refine rdy 7 rfl (fun K hK=>?_)
  try simp only [ga]
  try go_simp
  obtain ⟨V1,hV1⟩:∃ V9,V9=V0.alloc (.cells (encOp (⟨⟨k,t,nn,to_,[],x,y⟩,none,0⟩:OpV)).toArray 92):=⟨_,rfl⟩
  have HP1:=hide (HP0.out.alloc (.cells (encOp (⟨⟨k,t,nn,to_,[],x,y⟩,none,0⟩:OpV)).toArray 92))
  have HI1:=hide (HI0.out.alloc (.cells (encOp (⟨⟨k,t,nn,to_,[],x,y⟩,none,0⟩:OpV)).toArray 92))
  have HO1:=hide (HO0.out.alloc (.cells (encOp (⟨⟨k,t,nn,to_,[],x,y⟩,none,0⟩:OpV)).toArray 92))
  have HJ1:=hide (Blk.new V0 92 (encOp (⟨⟨k,t,nn,to_,[],x,y⟩,none,0⟩:OpV)).toArray)
  rw [← hV1] at HP1 HO1 HI1 HJ1
  simp only [encOp,List.length_nil] at hV1
  rw [← hV1]
  clear hV1
  refine hK.out _ _ ⟨HP1.out.cells.2.2.2.1,by rw [HI1.out.cell];rfl,by rw [HI1.out.cell];rfl,by rw [HI1.out.cell];rfl,by rw [HI1.out.cell];rfl,by rw [HI1.out.cell];rfl,by rw [HI1.out.cell];rfl,by rw [HI1.out.cell];rfl⟩ (fun hHeld=>?_)
  clear hK K
  try simp only [Act.put,gp]
  refine rdy 8 rfl (fun K hK=>?_)
  have hbs:B≤V1.heap.size:=by have:=HP1.out.lt;omega
  refine aT V1 (by rfl) (.tmp 19) (.tmp 21) _ (by rfl) B 92 ia _ 7 80 Tryz.underlying23 hia hz0 hz1 hz2 rfl (by omega) (.slice p.oA p.L.length p.oc) p.L.length (flat encOp p.L) (by rfl) HP1.out.ops.row aA (some ⟨V0.heap.size,0,none⟩) 1 1 (encOp (⟨⟨k,t,nn,to_,[],x,y⟩,none,0⟩:OpV)) (by rfl) (aY HJ1.out (fun h=>h)) rfl (eQ _) (by simp only [maxLen];have:=HL.out;omega) (by have:=HL.out;omega) hbs ?_
  intro v3 V3 hown2 hgr how2
  obtain ⟨A4,c4,rfl,hc4⟩:=aW hown2
  have HG3:=hide hgr
  have HOw3:=hide hown2
  have HBk3:=hide (HP1.out.grownBlk hgr HP1.out.ops.row (by decide))
  have HI3:=hide (Blk.only HI1.out (aG hgr) (fun hgg=>by rw [aB] at hgg;exact HNb.out b hgg rfl))
  clear hgr hown2 how2
  refine hK.out _ _ ⟨(show V3.cell? ⟨a,3,none⟩=some (.slice p.oA p.L.length p.oc) by rw [HBk3.out.cell];rfl),by rw [HI3.out.cell];rfl,by rw [HI3.out.cell];rfl,by rw [HI3.out.cell];rfl,by rw [HI3.out.cell];rfl,by rw [HI3.out.cell];rfl,by rw [HI3.out.cell];rfl,by rw [HI3.out.cell];rfl⟩ (fun hHeld=>?_)
  clear hK K
  refine tk 9 ?_ rfl ?_ ?_
  rotate_left
  ·(intro w9 hS9;(try simp only [ga]);go_simp<;>rfl)
  refine tk 10 ?_ rfl ?_ ?_
  rotate_left
  ·(intro w9 hS9;(try simp only [ga]);go_simp<;>rfl)
  refine tk 11 ?_ rfl ?_ ?_
  rotate_left
  ·(intro w9 hS9;(try simp only [ga]);go_simp<;>rfl)
  try simp only [Act.put,gp]
  refine wpAnyH_done (by kernel_rfl) ?_ _
  try simp only [Exit.then]
  clear hHeld
  have f4:=HBk3.out.frozen 3
  have k4:V3.cell? ⟨a,3,none⟩=some (.slice p.oA p.L.length p.oc):=by rw [HBk3.out.cell];rfl
  obtain ⟨g,rfl,hgB,hgl⟩:=lN HOw3.out
  have HF:=hide (HP1.out.app (p':={ p with st:=s,L:=p.L++[⟨⟨k,t,nn,to_,[],x,y⟩,none,0⟩],oA:=some ⟨g,0,none⟩,oc:=c4 }) (v:=⟨⟨k,t,nn,to_,[],x,y⟩,none,0⟩) hbs (by rw [← aB p.oA p.L.length p.oc];exact HG3.out) rfl rfl rfl HOw3.out rfl)
  go_upto_region 4 with fail
  generalize hV5:World.setCell V3 _ _=V5
  have HP5:=hide (show PAt V5 B a { p with st:=s,L:=p.L++[⟨⟨k,t,nn,to_,[],x,y⟩,none,0⟩],oA:=some ⟨g,0,none⟩,oc:=c4 } by rw [← hV5];exact HF.out.1)
  have HO5:=hide (show OnB B w V5 by rw [← hV5];exact HO1.out.trans HF.out.2)
  clear hV5 k4 f4
  have k5:V5.cell? ⟨a,3,none⟩=some (.slice (some ⟨g,0,none⟩) (p.L.length + 1) c4):=by have:=HP5.out.cells.2.2.2.1;rw [List.length_append] at this;exact this
  have j1:(0:Int)≤(p.L.length:Int):=by omega
  have j2:(p.L.length:Int) < (p.L.length:Int) + 1:=by omega
  have j3:(p.L.length:Int) < ((p.L.length + 1:Nat):Int):=by omega
  go_region
  go_wp2_with fail
  refine bodyPost_ret (v:=.pointer (some ⟨g,p.L.length * 7,none⟩)) (by simp [results,Tryz.results117,go_sem];try rfl) rfl ?_
  exact ⟨⟨g,rfl,c4,HP5.out.drew⟩,HO5.out.drew⟩
end Go.Proofs.YtaioaojfdngfdaaGreatDoor
