/- The parser's ops. Conditions: those of each theorem. -/
import Derived.Test.YtaioaojfdngfdaaGreatDoorPg28
set_option linter.unusedVariables false
set_option linter.unusedSimpArgs false
set_option maxHeartbeats 6400000
namespace Go.Proofs.YtaioaojfdngfdaaGreatDoor
open Go.RowKit
theorem cA (L:List OpV) (v:OpV):opAt (L++[v]) L.length=v:=by
 have h:=bO (l:=L++[v]) (k:=L.length) (by simp)
 rw [List.getElem?_append_right (Nat.le_refl _)] at h
 simp at h
 exact h.symm
theorem l8 (L:List OpV) (a b:OpV):(L++[a]).set L.length b=L++[b]:=by simp [List.set_append]
theorem kR (p:Pp) (L:List OpV) (v v2:OpV) (s:St) (h:p.L=L++[v]):eH p.pl v2.o s=({ p with L:=L++[v2],st:=s }:Pp).pl:=by
 unfold eH
 show _=PM.mk _ _ _ ((L++[v2]).map (·.o)) _ _ _ _ _ _ _ _ _ _
 have e:p.pl.ops.set (p.pl.ops.length - 1) v2.o=(L++[v2]).map (·.o):=by
  show (p.L.map (·.o)).set ((p.L.map (·.o)).length - 1) v2.o=_
  rw [h]
  simp [List.set_append]
 rw [e]
 rfl
theorem MSz.op {p:Pp} {n:Nat} {oA:Option Addr} {oc:Nat} {v:OpV} {s:St} (h:MSz p.pl n) (hn:n≤999000) (hv:v.o.arms=[]) (hs:s.nx≤1000000):MSz ({ p with L:=p.L++[v],oA:=oA,oc:=oc,st:=s }:Pp).pl (n + 1):=by
 refine ⟨?_,Nat.le_succ_of_le h.uses,Nat.le_succ_of_le h.labels,?_,h.len,h.at_,h.txt,h.lo,h.hi,hs,by omega⟩
 ·have e:(p.L.map (·.o)).length≤n:=h.ops
  show ((p.L++[v]).map (·.o)).length≤n + 1
  rw [List.length_map] at e ⊢
  rw [List.length_append]
  simp;omega
 ·intro o ho
  have ho2:o ∈ (p.L++[v]).map (·.o):=ho
  rw [List.map_append,List.mem_append] at ho2
  rcases ho2 with h1 | h1
  ·exact Nat.le_succ_of_le (h.arms o h1)
  ·simp at h1
   rw [h1,hv]
   simp
theorem mG (m:PM) (o:OpM):(mOp m o).st.nx=m.st.nx:=by unfold mOp;simp only;split;exact gK _ _ _ _;rfl
theorem mE (p:Pp) (g c:Nat) (k:Int) (t:ByteArray) (nn to_ x y:Int):({ p with L:=p.L++[⟨⟨k,t,nn,to_,[],x,y⟩,none,0⟩],oA:=some ⟨g,0,none⟩,oc:=c,st:=(mOp p.pl ⟨k,t,nn,to_,[],x,y⟩).st }:Pp).pl=mOp p.pl ⟨k,t,nn,to_,[],x,y⟩:=by
 unfold mOp
 show PM.mk _ _ _ (List.map OpV.o (p.L++[_])) _ _ _ _ _ _ _ _ _ _=_
 rw [List.map_append]
 rfl
set_option maxRecDepth 100000 in
theorem pops_c (B a:Nat) (p:Pp) (n:Nat) (t:List UInt8) (w:World) (h:PAt w B a p) (hz:MSz p.pl n) (hn:n≤999000) (hnx:p.st.nx≤10) (hev:ErrV w) (hB : 8 < B):Calls Tryz.prog 73 #[.pointer (some ⟨a,0,none⟩),.string (bs t)] w fun e w'=>e=.returned (.tuple #[])∧Did w w' B a (cL p.pl t):=by
 have hBa:=h.base
 have H:=hide h
 have Hz:=hide hz
 have HV:=hide (fun (X:World) (k:OnB B w X)=>hev.only hB k)
 have c7:=h.cells.2.2.2.2.2.2.2.1
 have f7:=h.frozen 7
 obtain ⟨s,hs⟩:∃ s,s=bs t:=⟨_,rfl⟩
 have hsl:s.toList=t:=by rw [hs,ByteArray.toList_eq]
 rw [← hs]
 obtain ⟨p0,hp0⟩:∃ p0:Pp,p0={ p with opn:=false }:=⟨_,rfl⟩
 have Hp0:=hide hp0
 have HP0:=hide (show PAt (w.setCell ⟨a,7,none⟩ (.bool false)) B a p0 by rw [hp0];exact (h.cell (p':={ p with opn:=false }) 7 _ rfl).1)
 have HO0:=hide (show OnB B w (w.setCell ⟨a,7,none⟩ (.bool false)) from (h.cell (p':={ p with opn:=false }) 7 _ rfl).2)
 have HM:=hide (show dM p.pl=p0.pl by rw [hp0];rfl)
 have Hz0:=hide (show MSz p0.pl n by rw [hp0];exact ⟨hz.ops,hz.uses,hz.labels,hz.arms,hz.len,hz.at_,hz.txt,hz.lo,hz.hi,hz.nx,hz.small⟩)
 have hnx0:p0.st.nx≤10:=by rw [hp0];exact hnx
 clear hs h hz hev hp0 hnx
 by_cases hw0:t=dO
 case pos =>
  have hw:=hw0
  clear hw0
  have q0:(s.toList == [115,101,110,100])=true:=by rw [hsl,hw];rfl
  have HEw:=hide (show cL p.pl t=qE p0.pl by unfold cL;rw [hw,if_pos (show dO=dO from rfl),HM.out])
  clear hsl hw
  go_enter Tryz.func73,Tryz.ntmps73
  go_wp2_with fail
  generalize hV:World.setCell w _ _=V
  have hP:PAt V B a p0:=by rw [← hV];exact HP0.out
  have hO:OnB B w V:=by rw [← hV];exact HO0.out
  clear hV c7 f7
  refine (qC B a p0 n 1 ⟨#[]⟩ 0 0 0 0 V hP Hz0.out).mono ?_
  rintro e w1 ⟨⟨g,c,rfl,hP1⟩,ho1⟩
  have HP1:=hide hP1
  have HO1:=hide (hO.trans ho1)
  clear hP1 ho1 hO hP
  obtain ⟨s1,hs1⟩:∃ s1,s1=(mOp p0.pl (⟨1,⟨#[]⟩,0,0,[],0,0⟩)).st:=⟨_,rfl⟩
  have hn1:s1.nx≤10:=by rw [hs1,mG];exact hnx0
  rw [← hs1] at HP1
  have Hs1:=hide hs1
  clear hs1
  have hC:=text_c a ({ p0 with L:=p0.L++[⟨⟨1,⟨#[]⟩,0,0,[],0,0⟩,none,0⟩],oA:=some ⟨g,0,none⟩,oc:=c,st:=s1 }:Pp).fr s1 w1 HP1.out.blk Hz0.out.fr.of HP1.out.wordsOf (by omega)
  obtain ⟨T,hT⟩:∃ T,T=textS p0.line p0.width p0.ws s1:=⟨_,rfl⟩
  rw [show textS ({ p0 with L:=p0.L++[⟨⟨1,⟨#[]⟩,0,0,[],0,0⟩,none,0⟩],oA:=some ⟨g,0,none⟩,oc:=c,st:=s1 }:Pp).fr.line ({ p0 with L:=p0.L++[⟨⟨1,⟨#[]⟩,0,0,[],0,0⟩,none,0⟩],oA:=some ⟨g,0,none⟩,oc:=c,st:=s1 }:Pp).fr.width ({ p0 with L:=p0.L++[⟨⟨1,⟨#[]⟩,0,0,[],0,0⟩,none,0⟩],oA:=some ⟨g,0,none⟩,oc:=c,st:=s1 }:Pp).fr.ws s1=T from hT.symm] at hC
  have HT:=hide hT
  clear hT
  obtain ⟨T1,T2⟩:=T
  go_wp2_with fail
  refine hC.mono ?_
  rintro e w2 ⟨rfl,hb,ho⟩
  have HP2:=hide (show PAt w2 B a { p0 with L:=p0.L++[⟨⟨1,⟨#[]⟩,0,0,[],0,0⟩,none,0⟩],oA:=some ⟨g,0,none⟩,oc:=c,st:=T2 } from HP1.out.st ho hb)
  have HO2:=hide (HO1.out.trans (HP1.out.only ho))
  clear hb ho hC
  have hil:p0.L.length < (p0.L++[(⟨⟨1,⟨#[]⟩,0,0,[],0,0⟩,none,0⟩:OpV)]).length:=by rw [List.length_append];simp
  have hcl:=HP2.out.ops.cells (i:=p0.L.length) hil
  rw [cA] at hcl
  obtain ⟨⟨_,k1,k2,_,_,_,_⟩,kf⟩:=hcl
  have kf1:=kf (p0.L.length * 7 + 1)
  have HF:=hide (HP2.out.setOp (p':={ p0 with L:=p0.L++[⟨⟨1,bs T1,0,0,[],0,0⟩,none,0⟩],oA:=some ⟨g,0,none⟩,oc:=c,st:=T2 }) (g:=g) (i:=p0.L.length) (j:=1) (u:=.string (bs T1)) (v:=⟨⟨1,bs T1,0,0,[],0,0⟩,none,0⟩) rfl hil (by decide) (by rw [cA];rfl) (by rw [cA]) (by rw [cA]) (by rw [cA]) (by rw [l8]))
  clear kf hil
  have HL:=hide (show eH (mOp p0.pl ⟨1,⟨#[]⟩,0,0,[],0,0⟩) ⟨1,bs T1,0,0,[],0,0⟩ T2=({ p0 with L:=p0.L++[⟨⟨1,bs T1,0,0,[],0,0⟩,none,0⟩],oA:=some ⟨g,0,none⟩,oc:=c,st:=T2 }:Pp).pl by
   rw [← mE p0 g c]
   exact kR _ p0.L ⟨⟨1,⟨#[]⟩,0,0,[],0,0⟩,none,0⟩ ⟨⟨1,bs T1,0,0,[],0,0⟩,none,0⟩ T2 rfl)
  have HTe:=hide (show textS (mOp p0.pl ⟨1,⟨#[]⟩,0,0,[],0,0⟩).line (mOp p0.pl ⟨1,⟨#[]⟩,0,0,[],0,0⟩).width (mOp p0.pl ⟨1,⟨#[]⟩,0,0,[],0,0⟩).ws (mOp p0.pl ⟨1,⟨#[]⟩,0,0,[],0,0⟩).st=(T1,T2) by
   have q:=HT.out
   rw [Hs1.out] at q
   exact q.symm)
  go_wp2_with fail
  go_end0
  refine ⟨rfl,⟨_,HF.out.1,?_⟩,HO2.out.trans HF.out.2⟩
  rw [HEw.out]
  unfold qE sW
  rw [show textS (mOp p0.pl (bA 1)).line (mOp p0.pl (bA 1)).width (mOp p0.pl (bA 1)).ws (mOp p0.pl (bA 1)).st=(T1,T2) from HTe.out]
  exact HL.out.symm
 case neg =>
  by_cases hw1:t=bS
  case pos =>
   have hw:=hw1
   clear hw1
   have q0:(s.toList == [115,101,110,100])=false:=by rw [hsl,hw];rfl
   have q1:(s.toList == [101,120,112,101,99,116])=true:=by rw [hsl,hw];rfl
   have HEw:=hide (show cL p.pl t=jY p0.pl by unfold cL;rw [hw,if_neg (show ¬ bS=dO by decide),if_pos (show bS=bS from rfl),HM.out])
   clear hsl hw
   go_enter Tryz.func73,Tryz.ntmps73
   go_wp2_with fail
   generalize hV:World.setCell w _ _=V
   have hP:PAt V B a p0:=by rw [← hV];exact HP0.out
   have hO:OnB B w V:=by rw [← hV];exact HO0.out
   clear hV c7 f7
   refine (qC B a p0 n 2 ⟨#[]⟩ 0 0 (-1) (-1) V hP Hz0.out).mono ?_
   rintro e w1 ⟨⟨g,c,rfl,hP1⟩,ho1⟩
   have HP1:=hide hP1
   have HO1:=hide (hO.trans ho1)
   clear hP1 ho1 hO hP
   obtain ⟨s1,hs1⟩:∃ s1,s1=(mOp p0.pl (⟨2,⟨#[]⟩,0,0,[],-1,-1⟩)).st:=⟨_,rfl⟩
   have hn1:s1.nx≤10:=by rw [hs1,mG];exact hnx0
   rw [← hs1] at HP1
   have Hs1:=hide hs1
   clear hs1
   have hC:=qU a ({ p0 with L:=p0.L++[⟨⟨2,⟨#[]⟩,0,0,[],-1,-1⟩,none,0⟩],oA:=some ⟨g,0,none⟩,oc:=c,st:=s1 }:Pp).fr s1 0 true w1 HP1.out.blk Hz0.out.fr.of HP1.out.wordsOf (by omega) (HV.out w1 HO1.out) (by omega)
   obtain ⟨T,hT⟩:∃ T,T=bT p0.line p0.width p0.ws s1 0 true:=⟨_,rfl⟩
   rw [show bT ({ p0 with L:=p0.L++[⟨⟨2,⟨#[]⟩,0,0,[],-1,-1⟩,none,0⟩],oA:=some ⟨g,0,none⟩,oc:=c,st:=s1 }:Pp).fr.line ({ p0 with L:=p0.L++[⟨⟨2,⟨#[]⟩,0,0,[],-1,-1⟩,none,0⟩],oA:=some ⟨g,0,none⟩,oc:=c,st:=s1 }:Pp).fr.width ({ p0 with L:=p0.L++[⟨⟨2,⟨#[]⟩,0,0,[],-1,-1⟩,none,0⟩],oA:=some ⟨g,0,none⟩,oc:=c,st:=s1 }:Pp).fr.ws s1 0 true=T from hT.symm] at hC
   have HT:=hide hT
   clear hT
   obtain ⟨T1,T2⟩:=T
   go_wp2_with fail
   refine hC.mono ?_
   rintro e w2 ⟨rfl,hb,ho⟩
   have HP2:=hide (show PAt w2 B a { p0 with L:=p0.L++[⟨⟨2,⟨#[]⟩,0,0,[],-1,-1⟩,none,0⟩],oA:=some ⟨g,0,none⟩,oc:=c,st:=T2 } from HP1.out.st ho hb)
   have HO2:=hide (HO1.out.trans (HP1.out.only ho))
   clear hb ho hC
   have hil:p0.L.length < (p0.L++[(⟨⟨2,⟨#[]⟩,0,0,[],-1,-1⟩,none,0⟩:OpV)]).length:=by rw [List.length_append];simp
   have hcl:=HP2.out.ops.cells (i:=p0.L.length) hil
   rw [cA] at hcl
   obtain ⟨⟨_,k1,k2,_,_,_,_⟩,kf⟩:=hcl
   have kf1:=kf (p0.L.length * 7 + 2)
   have HF:=hide (HP2.out.setOp (p':={ p0 with L:=p0.L++[⟨⟨2,⟨#[]⟩,T1,0,[],-1,-1⟩,none,0⟩],oA:=some ⟨g,0,none⟩,oc:=c,st:=T2 }) (g:=g) (i:=p0.L.length) (j:=2) (u:=.int .i64 T1) (v:=⟨⟨2,⟨#[]⟩,T1,0,[],-1,-1⟩,none,0⟩) rfl hil (by decide) (by rw [cA];rfl) (by rw [cA]) (by rw [cA]) (by rw [cA]) (by rw [l8]))
   clear kf hil
   have HL:=hide (show eH (mOp p0.pl ⟨2,⟨#[]⟩,0,0,[],-1,-1⟩) ⟨2,⟨#[]⟩,T1,0,[],-1,-1⟩ T2=({ p0 with L:=p0.L++[⟨⟨2,⟨#[]⟩,T1,0,[],-1,-1⟩,none,0⟩],oA:=some ⟨g,0,none⟩,oc:=c,st:=T2 }:Pp).pl by
    rw [← mE p0 g c]
    exact kR _ p0.L ⟨⟨2,⟨#[]⟩,0,0,[],-1,-1⟩,none,0⟩ ⟨⟨2,⟨#[]⟩,T1,0,[],-1,-1⟩,none,0⟩ T2 rfl)
   have HTe:=hide (show bT (mOp p0.pl ⟨2,⟨#[]⟩,0,0,[],-1,-1⟩).line (mOp p0.pl ⟨2,⟨#[]⟩,0,0,[],-1,-1⟩).width (mOp p0.pl ⟨2,⟨#[]⟩,0,0,[],-1,-1⟩).ws (mOp p0.pl ⟨2,⟨#[]⟩,0,0,[],-1,-1⟩).st 0 true=(T1,T2) by
    have q:=HT.out
    rw [Hs1.out] at q
    exact q.symm)
   go_upto_region 6 with fail
   generalize hV2:World.setCell w2 _ _=V2
   have HP3:=hide (show PAt V2 B a { p0 with L:=p0.L++[⟨⟨2,⟨#[]⟩,T1,0,[],-1,-1⟩,none,0⟩],oA:=some ⟨g,0,none⟩,oc:=c,st:=T2 } by rw [← hV2];exact HF.out.1)
   have HO3:=hide (show OnB B w V2 by rw [← hV2];exact HO2.out.trans HF.out.2)
   clear hV2 k1 k2 kf1
   have d7:=HP3.out.cells.2.2.2.2.2.2.2.1
   have d8:=HP3.out.cells.2.2.2.2.2.2.2.2.1
   have d9:=HP3.out.cells.2.2.2.2.2.2.2.2.2
   have e7:=HP3.out.frozen 7
   have e8:=HP3.out.frozen 8
   have e9:=HP3.out.frozen 9
   go_wp2_with fail
   go_end0
   have R1:=HP3.out.cell (p':={ p0 with L:=p0.L++[⟨⟨2,⟨#[]⟩,T1,0,[],-1,-1⟩,none,0⟩],oA:=some ⟨g,0,none⟩,oc:=c,st:=T2,opn:=true }) 7 (.bool true) rfl
   have R2:=R1.1.cell (p':={ p0 with L:=p0.L++[⟨⟨2,⟨#[]⟩,T1,0,[],-1,-1⟩,none,0⟩],oA:=some ⟨g,0,none⟩,oc:=c,st:=T2,opn:=true,t0:=false }) 8 (.bool false) rfl
   have R3:=R2.1.cell (p':={ p0 with L:=p0.L++[⟨⟨2,⟨#[]⟩,T1,0,[],-1,-1⟩,none,0⟩],oA:=some ⟨g,0,none⟩,oc:=c,st:=T2,opn:=true,t0:=false,t1:=false }) 9 (.bool false) rfl
   refine ⟨rfl,⟨_,R3.1,?_⟩,((HO3.out.trans R1.2).trans R2.2).trans R3.2⟩
   rw [HEw.out]
   unfold jY eV
   rw [show bT (mOp p0.pl cE).line (mOp p0.pl cE).width (mOp p0.pl cE).ws (mOp p0.pl cE).st 0 true=(T1,T2) from HTe.out]
   rw [show eH (mOp p0.pl cE) { cE with n:=T1 } T2=_ from HL.out]
   rfl
  case neg =>
   by_cases hw2:t=dJ
   case pos =>
    have hw:=hw2
    clear hw2
    have q0:(s.toList == [115,101,110,100])=false:=by rw [hsl,hw];rfl
    have q1:(s.toList == [101,120,112,101,99,116])=false:=by rw [hsl,hw];rfl
    have q2:(s.toList == [103,111,116,111])=true:=by rw [hsl,hw];rfl
    have HEw:=hide (show cL p.pl t=cQ (mOp p0.pl (bA 3)) (-1) by unfold cL;rw [hw,if_neg (show ¬ dJ=dO by decide),if_neg (show ¬ dJ=bS by decide),if_pos (show dJ=dJ from rfl),HM.out])
    clear hsl hw
    go_enter Tryz.func73,Tryz.ntmps73
    go_wp2_with fail
    generalize hV:World.setCell w _ _=V
    have hP:PAt V B a p0:=by rw [← hV];exact HP0.out
    have hO:OnB B w V:=by rw [← hV];exact HO0.out
    clear hV c7 f7
    refine (qC B a p0 n 3 ⟨#[]⟩ 0 0 0 0 V hP Hz0.out).mono ?_
    rintro e w1 ⟨⟨g,c,rfl,hP1⟩,ho1⟩
    have HP1:=hide hP1
    have HO1:=hide (hO.trans ho1)
    clear hP1 ho1 hO hP
    obtain ⟨s1,hs1⟩:∃ s1,s1=(mOp p0.pl (⟨3,⟨#[]⟩,0,0,[],0,0⟩)).st:=⟨_,rfl⟩
    have hn1:s1.nx≤10:=by rw [hs1,mG];exact hnx0
    rw [← hs1] at HP1
    have Hs1:=hide hs1
    clear hs1
    have HPl:=hide (show ({ p0 with L:=p0.L++[⟨⟨3,⟨#[]⟩,0,0,[],0,0⟩,none,0⟩],oA:=some ⟨g,0,none⟩,oc:=c,st:=s1 }:Pp).pl=mOp p0.pl (bA 3) by
     rw [Hs1.out]
     exact mE p0 g c 3 ⟨#[]⟩ 0 0 0 0)
    go_wp2_with fail
    refine (hH B a _ (n + 1) (-1) w1 HP1.out (Hz0.out.op hn rfl (by omega))).mono ?_
    rintro e w6 ⟨rfl,⟨p6,hp6,hpl⟩,ho6⟩
    go_wp2_with fail
    go_end0
    exact ⟨rfl,⟨p6,hp6,by rw [hpl,HEw.out,HPl.out]⟩,HO1.out.trans ho6⟩
   case neg =>
    by_cases hw3:t=cF
    case pos =>
     have hw:=hw3
     clear hw3
     have q0:(s.toList == [115,101,110,100])=false:=by rw [hsl,hw];rfl
     have q1:(s.toList == [101,120,112,101,99,116])=false:=by rw [hsl,hw];rfl
     have q2:(s.toList == [103,111,116,111])=false:=by rw [hsl,hw];rfl
     have q3:(s.toList == [112,97,117,115,101])=true:=by rw [hsl,hw];rfl
     have HEw:=hide (show cL p.pl t=mD p0.pl by unfold cL;rw [hw,if_neg (show ¬ cF=dO by decide),if_neg (show ¬ cF=bS by decide),if_neg (show ¬ cF=dJ by decide),if_pos (show cF=cF from rfl),HM.out])
     clear hsl hw
     go_enter Tryz.func73,Tryz.ntmps73
     go_wp2_with fail
     generalize hV:World.setCell w _ _=V
     have hP:PAt V B a p0:=by rw [← hV];exact HP0.out
     have hO:OnB B w V:=by rw [← hV];exact HO0.out
     clear hV c7 f7
     refine (qC B a p0 n 4 ⟨#[]⟩ 0 0 0 0 V hP Hz0.out).mono ?_
     rintro e w1 ⟨⟨g,c,rfl,hP1⟩,ho1⟩
     have HP1:=hide hP1
     have HO1:=hide (hO.trans ho1)
     clear hP1 ho1 hO hP
     obtain ⟨s1,hs1⟩:∃ s1,s1=(mOp p0.pl (⟨4,⟨#[]⟩,0,0,[],0,0⟩)).st:=⟨_,rfl⟩
     have hn1:s1.nx≤10:=by rw [hs1,mG];exact hnx0
     rw [← hs1] at HP1
     have Hs1:=hide hs1
     clear hs1
     have hC:=qU a ({ p0 with L:=p0.L++[⟨⟨4,⟨#[]⟩,0,0,[],0,0⟩,none,0⟩],oA:=some ⟨g,0,none⟩,oc:=c,st:=s1 }:Pp).fr s1 0 false w1 HP1.out.blk Hz0.out.fr.of HP1.out.wordsOf (by omega) (HV.out w1 HO1.out) (by omega)
     obtain ⟨T,hT⟩:∃ T,T=bT p0.line p0.width p0.ws s1 0 false:=⟨_,rfl⟩
     rw [show bT ({ p0 with L:=p0.L++[⟨⟨4,⟨#[]⟩,0,0,[],0,0⟩,none,0⟩],oA:=some ⟨g,0,none⟩,oc:=c,st:=s1 }:Pp).fr.line ({ p0 with L:=p0.L++[⟨⟨4,⟨#[]⟩,0,0,[],0,0⟩,none,0⟩],oA:=some ⟨g,0,none⟩,oc:=c,st:=s1 }:Pp).fr.width ({ p0 with L:=p0.L++[⟨⟨4,⟨#[]⟩,0,0,[],0,0⟩,none,0⟩],oA:=some ⟨g,0,none⟩,oc:=c,st:=s1 }:Pp).fr.ws s1 0 false=T from hT.symm] at hC
     have HT:=hide hT
     clear hT
     obtain ⟨T1,T2⟩:=T
     go_wp2_with fail
     refine hC.mono ?_
     rintro e w2 ⟨rfl,hb,ho⟩
     have HP2:=hide (show PAt w2 B a { p0 with L:=p0.L++[⟨⟨4,⟨#[]⟩,0,0,[],0,0⟩,none,0⟩],oA:=some ⟨g,0,none⟩,oc:=c,st:=T2 } from HP1.out.st ho hb)
     have HO2:=hide (HO1.out.trans (HP1.out.only ho))
     clear hb ho hC
     have hil:p0.L.length < (p0.L++[(⟨⟨4,⟨#[]⟩,0,0,[],0,0⟩,none,0⟩:OpV)]).length:=by rw [List.length_append];simp
     have hcl:=HP2.out.ops.cells (i:=p0.L.length) hil
     rw [cA] at hcl
     obtain ⟨⟨_,k1,k2,_,_,_,_⟩,kf⟩:=hcl
     have kf1:=kf (p0.L.length * 7 + 2)
     have HF:=hide (HP2.out.setOp (p':={ p0 with L:=p0.L++[⟨⟨4,⟨#[]⟩,T1,0,[],0,0⟩,none,0⟩],oA:=some ⟨g,0,none⟩,oc:=c,st:=T2 }) (g:=g) (i:=p0.L.length) (j:=2) (u:=.int .i64 T1) (v:=⟨⟨4,⟨#[]⟩,T1,0,[],0,0⟩,none,0⟩) rfl hil (by decide) (by rw [cA];rfl) (by rw [cA]) (by rw [cA]) (by rw [cA]) (by rw [l8]))
     clear kf hil
     have HL:=hide (show eH (mOp p0.pl ⟨4,⟨#[]⟩,0,0,[],0,0⟩) ⟨4,⟨#[]⟩,T1,0,[],0,0⟩ T2=({ p0 with L:=p0.L++[⟨⟨4,⟨#[]⟩,T1,0,[],0,0⟩,none,0⟩],oA:=some ⟨g,0,none⟩,oc:=c,st:=T2 }:Pp).pl by
      rw [← mE p0 g c]
      exact kR _ p0.L ⟨⟨4,⟨#[]⟩,0,0,[],0,0⟩,none,0⟩ ⟨⟨4,⟨#[]⟩,T1,0,[],0,0⟩,none,0⟩ T2 rfl)
     have HTe:=hide (show bT (mOp p0.pl ⟨4,⟨#[]⟩,0,0,[],0,0⟩).line (mOp p0.pl ⟨4,⟨#[]⟩,0,0,[],0,0⟩).width (mOp p0.pl ⟨4,⟨#[]⟩,0,0,[],0,0⟩).ws (mOp p0.pl ⟨4,⟨#[]⟩,0,0,[],0,0⟩).st 0 false=(T1,T2) by
      have q:=HT.out
      rw [Hs1.out] at q
      exact q.symm)
     go_wp2_with fail
     go_end0
     refine ⟨rfl,⟨_,HF.out.1,?_⟩,HO2.out.trans HF.out.2⟩
     rw [HEw.out]
     unfold mD eV
     rw [show bT (mOp p0.pl (bA 4)).line (mOp p0.pl (bA 4)).width (mOp p0.pl (bA 4)).ws (mOp p0.pl (bA 4)).st 0 false=(T1,T2) from HTe.out]
     exact HL.out.symm
    case neg =>
     by_cases hw4:t=dQ
     case pos =>
      have hw:=hw4
      clear hw4
      have q0:(s.toList == [115,101,110,100])=false:=by rw [hsl,hw];rfl
      have q1:(s.toList == [101,120,112,101,99,116])=false:=by rw [hsl,hw];rfl
      have q2:(s.toList == [103,111,116,111])=false:=by rw [hsl,hw];rfl
      have q3:(s.toList == [112,97,117,115,101])=false:=by rw [hsl,hw];rfl
      have q4:(s.toList == [100,111,110,101])=true:=by rw [hsl,hw];rfl
      have HEw:=hide (show cL p.pl t=mOp p0.pl (bA 5) by unfold cL;rw [hw,if_neg (show ¬ dQ=dO by decide),if_neg (show ¬ dQ=bS by decide),if_neg (show ¬ dQ=dJ by decide),if_neg (show ¬ dQ=cF by decide),if_pos (show dQ=dQ from rfl),HM.out])
      clear hsl hw
      go_enter Tryz.func73,Tryz.ntmps73
      go_wp2_with fail
      generalize hV:World.setCell w _ _=V
      have hP:PAt V B a p0:=by rw [← hV];exact HP0.out
      have hO:OnB B w V:=by rw [← hV];exact HO0.out
      clear hV c7 f7
      refine (qC B a p0 n 5 ⟨#[]⟩ 0 0 0 0 V hP Hz0.out).mono ?_
      rintro e w1 ⟨⟨g,c,rfl,hP1⟩,ho1⟩
      have HP1:=hide hP1
      have HO1:=hide (hO.trans ho1)
      clear hP1 ho1 hO hP
      obtain ⟨s1,hs1⟩:∃ s1,s1=(mOp p0.pl (⟨5,⟨#[]⟩,0,0,[],0,0⟩)).st:=⟨_,rfl⟩
      have hn1:s1.nx≤10:=by rw [hs1,mG];exact hnx0
      rw [← hs1] at HP1
      have Hs1:=hide hs1
      clear hs1
      have HPl:=hide (show ({ p0 with L:=p0.L++[⟨⟨5,⟨#[]⟩,0,0,[],0,0⟩,none,0⟩],oA:=some ⟨g,0,none⟩,oc:=c,st:=s1 }:Pp).pl=mOp p0.pl (bA 5) by
       rw [Hs1.out]
       exact mE p0 g c 5 ⟨#[]⟩ 0 0 0 0)
      go_wp2_with fail
      go_end0
      exact ⟨rfl,⟨_,HP1.out,by rw [HEw.out,HPl.out]⟩,HO1.out⟩
     case neg =>
      by_cases hw5:t=dP
      case pos =>
       have hw:=hw5
       clear hw5
       have q0:(s.toList == [115,101,110,100])=false:=by rw [hsl,hw];rfl
       have q1:(s.toList == [101,120,112,101,99,116])=false:=by rw [hsl,hw];rfl
       have q2:(s.toList == [103,111,116,111])=false:=by rw [hsl,hw];rfl
       have q3:(s.toList == [112,97,117,115,101])=false:=by rw [hsl,hw];rfl
       have q4:(s.toList == [100,111,110,101])=false:=by rw [hsl,hw];rfl
       have q5:(s.toList == [102,97,105,108])=true:=by rw [hsl,hw];rfl
       have HEw:=hide (show cL p.pl t=mOp p0.pl (bA 6) by unfold cL;rw [hw,if_neg (show ¬ dP=dO by decide),if_neg (show ¬ dP=bS by decide),if_neg (show ¬ dP=dJ by decide),if_neg (show ¬ dP=cF by decide),if_neg (show ¬ dP=dQ by decide),if_pos (show dP=dP from rfl),HM.out])
       clear hsl hw
       go_enter Tryz.func73,Tryz.ntmps73
       go_wp2_with fail
       generalize hV:World.setCell w _ _=V
       have hP:PAt V B a p0:=by rw [← hV];exact HP0.out
       have hO:OnB B w V:=by rw [← hV];exact HO0.out
       clear hV c7 f7
       refine (qC B a p0 n 6 ⟨#[]⟩ 0 0 0 0 V hP Hz0.out).mono ?_
       rintro e w1 ⟨⟨g,c,rfl,hP1⟩,ho1⟩
       have HP1:=hide hP1
       have HO1:=hide (hO.trans ho1)
       clear hP1 ho1 hO hP
       obtain ⟨s1,hs1⟩:∃ s1,s1=(mOp p0.pl (⟨6,⟨#[]⟩,0,0,[],0,0⟩)).st:=⟨_,rfl⟩
       have hn1:s1.nx≤10:=by rw [hs1,mG];exact hnx0
       rw [← hs1] at HP1
       have Hs1:=hide hs1
       clear hs1
       have HPl:=hide (show ({ p0 with L:=p0.L++[⟨⟨6,⟨#[]⟩,0,0,[],0,0⟩,none,0⟩],oA:=some ⟨g,0,none⟩,oc:=c,st:=s1 }:Pp).pl=mOp p0.pl (bA 6) by
        rw [Hs1.out]
        exact mE p0 g c 6 ⟨#[]⟩ 0 0 0 0)
       go_wp2_with fail
       go_end0
       exact ⟨rfl,⟨_,HP1.out,by rw [HEw.out,HPl.out]⟩,HO1.out⟩
      case neg =>
       by_cases hw6:t=bG
       case pos =>
        have hw:=hw6
        clear hw6
        have q0:(s.toList == [115,101,110,100])=false:=by rw [hsl,hw];rfl
        have q1:(s.toList == [101,120,112,101,99,116])=false:=by rw [hsl,hw];rfl
        have q2:(s.toList == [103,111,116,111])=false:=by rw [hsl,hw];rfl
        have q3:(s.toList == [112,97,117,115,101])=false:=by rw [hsl,hw];rfl
        have q4:(s.toList == [100,111,110,101])=false:=by rw [hsl,hw];rfl
        have q5:(s.toList == [102,97,105,108])=false:=by rw [hsl,hw];rfl
        have q6:(s.toList == [108,97,98,101,108])=true:=by rw [hsl,hw];rfl
        have HEw:=hide (show cL p.pl t=rF p0.pl by unfold cL;rw [hw,if_neg (show ¬ bG=dO by decide),if_neg (show ¬ bG=bS by decide),if_neg (show ¬ bG=dJ by decide),if_neg (show ¬ bG=cF by decide),if_neg (show ¬ bG=dQ by decide),if_neg (show ¬ bG=dP by decide),if_pos (show bG=bG from rfl),HM.out])
        obtain ⟨N,hN⟩:∃ N,N=b9 p0.line p0.width p0.ws p0.st:=⟨_,rfl⟩
        have hnm:=sV Hz0.out
        rw [show dN p0.pl=N from hN.symm] at hnm
        have HNm:=hide (fun (X:World) (P:PAt X B a p0)=>uU a p0.fr p0.st X P.blk Hz0.out.fr P.wordsOf (by omega))
        rw [show b9 p0.fr.line p0.fr.width p0.fr.ws p0.st=N from hN.symm] at HNm
        have HEl:=hide (show rF p0.pl=({ p0 with labels:=(N.1.text,((p0.L.length:Nat):Int)) :: p0.labels,st:=if (lbF N.1.text p0.labels).isSome=true then bE p0.line N.2 N.1.at_ 6 else N.2 }:Pp).pl by
         unfold rF
         rw [show dN p0.pl=N from hN.symm]
         show PM.mk _ _ _ _ ((_,(((p0.L.map (·.o)).length:Nat):Int)) :: _) _ _ _ _ _ _ _ _ _=_
         rw [List.length_map]
         rfl)
        have hlen:p0.L.length≤n:=by have e:(p0.L.map (·.o)).length≤n:=Hz0.out.ops;rw [List.length_map] at e;exact e
        have hlab:p0.labels.length≤n:=Hz0.out.labels
        clear hN
        obtain ⟨⟨xt,xq,xa⟩,N2⟩:=N
        simp only at HNm hnm HEl
        clear hsl hw
        go_enter Tryz.func73,Tryz.ntmps73
        go_wp2_with fail
        generalize hV:World.setCell w _ _=V
        have hP:PAt V B a p0:=by rw [← hV];exact HP0.out
        have hO:OnB B w V:=by rw [← hV];exact HO0.out
        clear hV c7 f7
        refine (HNm.out V hP).mono ?_
        rintro e w1 ⟨rfl,hb,ho⟩
        have hP1:=hP.st ho hb
        have hO1:=hO.trans (hP.only ho)
        clear hb ho hP hO
        go_upto_region 18 with fail
        generalize hX:World.alloc w1 _=X
        have hX3:Blk X w1.heap.size 128 #[.string (bs xt),.bool xq,.int .i64 xa]:=by rw [← hX];exact Blk.new _ _ _
        have hP3:PAt X B a { p0 with st:=N2 }:=by rw [← hX];exact hP1.alloc _
        have hO3:OnB B w X:=by rw [← hX];exact hO1.alloc _
        have hal:=hP1.lt
        obtain ⟨g,hg⟩:∃ g,g=w1.heap.size:=⟨_,rfl⟩
        rw [← hg] at hX3 hal ⊢
        clear hX hP1 hO1 hg
        have HX3:=hide hX3
        have HP3:=hide hP3
        have HO3:=hide hO3
        have hag:a≠g:=by omega
        have HNe:=hide hag
        clear hX3 hP3 hO3 hal hag
        obtain ⟨⟨x0,x1,x2⟩,_⟩:=HX3.out.three
        have c4:=HP3.out.cells.2.2.2.2.1
        have hlk:=vT HP3.out.lb.drew xt hnm.1
        go_region
        obtain ⟨Y,hY⟩:∃ Y,Y=X.drew:=⟨_,rfl⟩
        have HX4:=hide (HX3.out.drew)
        have HP4:=hide (HP3.out.drew)
        have HO4:=hide (HO3.out.drew)
        rw [← hY] at HX4 HP4 HO4 ⊢
        clear hY x0 x1 x2 c4 hlk
        cases hh:(lbF xt p0.labels).isSome with
        | true =>
         obtain ⟨⟨x0,x1,x2⟩,_⟩:=HX4.out.three
         go_wp2_with fail
         refine (eA a ({ p0 with st:=N2 }:Pp).fr N2 xa 6 Y HP4.out.blk (by omega) (by omega)).mono ?_
         rintro e w5 ⟨rfl,hb,ho⟩
         have HP5:=hide (show PAt w5 B a { p0 with st:=bE p0.line N2 xa 6 } from HP4.out.st ho hb)
         have HO5:=hide (HO4.out.trans (HP4.out.only ho))
         have HX5:=hide (HX4.out.only ho (fun e=>HNe.out e.symm))
         clear hb ho x0 x1 x2
         go_upto_region 21 with fail
         obtain ⟨⟨y0,y1,y2⟩,_⟩:=HX5.out.three
         have e3:=HP5.out.cells.2.2.2.1
         have e4:=HP5.out.cells.2.2.2.2.1
         obtain ⟨Z,hst,hlb,hoz⟩:=s6 HP5.out.lb.drew (show p0.labels.length≤1000000000 by omega) xt hnm.1 ((p0.L.length:Nat):Int) (by omega) (by omega)
         have HLb:=hide hlb
         have HOz:=hide hoz
         clear hlb hoz
         go_region
         go_wp2_with fail
         go_end0
         have R:=HP5.out.drew.label (p':={ p0 with st:=bE p0.line N2 xa 6,labels:=(xt,((p0.L.length:Nat):Int)) :: p0.labels }) HOz.out HLb.out rfl
         refine ⟨rfl,⟨_,R.1,?_⟩,HO5.out.drew.trans R.2⟩
         rw [HEw.out,HEl.out,hh]
         rfl
        | false =>
         go_upto_region 21 with fail
         obtain ⟨⟨y0,y1,y2⟩,_⟩:=HX4.out.three
         have e3:=HP4.out.cells.2.2.2.1
         have e4:=HP4.out.cells.2.2.2.2.1
         obtain ⟨Z,hst,hlb,hoz⟩:=s6 HP4.out.lb.drew (show p0.labels.length≤1000000000 by omega) xt hnm.1 ((p0.L.length:Nat):Int) (by omega) (by omega)
         have HLb:=hide hlb
         have HOz:=hide hoz
         clear hlb hoz
         go_region
         go_wp2_with fail
         go_end0
         have R:=HP4.out.drew.label (p':={ p0 with st:=N2,labels:=(xt,((p0.L.length:Nat):Int)) :: p0.labels }) HOz.out HLb.out rfl
         refine ⟨rfl,⟨_,R.1,?_⟩,HO4.out.drew.trans R.2⟩
         rw [HEw.out,HEl.out,hh]
         rfl
       case neg =>
        have q0:(s.toList == [115,101,110,100])=false:=by rw [hsl];exact beq_eq_false_iff_ne.2 hw0
        have q1:(s.toList == [101,120,112,101,99,116])=false:=by rw [hsl];exact beq_eq_false_iff_ne.2 hw1
        have q2:(s.toList == [103,111,116,111])=false:=by rw [hsl];exact beq_eq_false_iff_ne.2 hw2
        have q3:(s.toList == [112,97,117,115,101])=false:=by rw [hsl];exact beq_eq_false_iff_ne.2 hw3
        have q4:(s.toList == [100,111,110,101])=false:=by rw [hsl];exact beq_eq_false_iff_ne.2 hw4
        have q5:(s.toList == [102,97,105,108])=false:=by rw [hsl];exact beq_eq_false_iff_ne.2 hw5
        have q6:(s.toList == [108,97,98,101,108])=false:=by rw [hsl];exact beq_eq_false_iff_ne.2 hw6
        have HEw:=hide (show cL p.pl t=p0.pl by unfold cL;rw [if_neg hw0,if_neg hw1,if_neg hw2,if_neg hw3,if_neg hw4,if_neg hw5,if_neg hw6,HM.out])
        clear hsl hw0 hw1 hw2 hw3 hw4 hw5 hw6
        go_enter Tryz.func73,Tryz.ntmps73
        go_wp2_with fail
        go_end0
        exact ⟨rfl,⟨_,HP0.out,by rw [HEw.out]⟩,HO0.out⟩
end Go.Proofs.YtaioaojfdngfdaaGreatDoor
