/- Parts of a chain of lemmas: Par9, Doc4. Conditions: those of each theorem. -/
import Derived.Test.YtaioaojfdngfdaaGreatDoorPg30
import Derived.Test.YtaioaojfdngfdaaGreatDoorPg09
import Derived.Test.YtaioaojfdngfdaaGreatDoorPg31
import Derived.BigRegion
set_option linter.unusedVariables false
set_option linter.unusedSimpArgs false
set_option maxHeartbeats 12800000
namespace Go.Proofs.YtaioaojfdngfdaaGreatDoor
open Go.RowKit
def resOf (m:PM) (R:List OpM × Option UseM):PM:=match R.2 with
 | none=>{ m with ops:=R.1 }
 | some u=>{ m with ops:=R.1,line:=u.line,st:=bE u.line m.st (u.col - 1) 13 }
def resM (m:PM):PM:=resOf m (jJ m.labels m.uses m.ops)
def u0:UseM:=⟨[],0,0,0,0⟩
def eR (l:List UseM) (k:Nat):UseM:=l.getD k u0
theorem jT {l:List UseM} {k:Nat} (hk:k < l.length):l[k]?=some (eR l k):=by simp [eR,List.getD,hk]
theorem lD {l:List UseM} {k:Nat} (hk:k < l.length):eR l k ∈ l:=List.mem_of_getElem? (jT hk)
theorem jU {l:List UseM} {k:Nat} (hk:k < l.length):l.drop k=eR l k :: l.drop (k + 1):=by
 rw [List.drop_eq_getElem_cons hk]
 have:=jT hk
 rw [List.getElem?_eq_getElem hk] at this
 injection this with this
 rw [this]
theorem PAt.useCells {w:World} {B a:Nat} {p:Pp} (h:PAt w B a p) {k:Nat} (hk:k < p.uses.length):∃ b o,p.uA=some ⟨b,o,none⟩∧b < w.heap.size∧w.cell? ⟨b,o + k * 5,none⟩=some (.string (bs (eR p.uses k).name))∧w.cell? ⟨b,o + k * 5 + 1,none⟩=some (.int .i64 (eR p.uses k).line) ∧
 w.cell? ⟨b,o + k * 5 + 2,none⟩=some (.int .i64 (eR p.uses k).col)∧w.cell? ⟨b,o + k * 5 + 3,none⟩=some (.int .i64 (eR p.uses k).op)∧w.cell? ⟨b,o + k * 5 + 4,none⟩=some (.int .i64 (eR p.uses k).how):=by
 have hr:Rd w (fun _=>False) p.uA (flat encUse p.uses):=Rd.of_own h.uses (fun _ h=>h.elim)
 obtain ⟨b,o,hA,_,hb,hc⟩:=cR (n:=5) (enc:=encUse) (fun _=>rfl) hr k _ (jT hk) (by omega)
 exact ⟨b,o,hA,hb,hc 0 (by omega),hc 1 (by omega),hc 2 (by omega),hc 3 (by omega),hc 4 (by omega)⟩
theorem use_at {L:List OpV} {u:UseM} (h:UseOk (L.map (·.o)) u):∃ i:Nat,u.op=i∧i < L.length∧opI (L.map (·.o)) u=(opAt L i).o∧((u.how = -1∧(opAt L i).o.kind=3)∨((opAt L i).o.kind=2∧(u.how = -2∨u.how = -3∨∃ k:Nat,u.how=k∧k < (opAt L i).o.arms.length))):=by
 obtain ⟨h0,h1,h2⟩:=h
 rw [List.length_map] at h1
 have e:opI (L.map (·.o)) u=(opAt L u.op.toNat).o:=by
  unfold opI
  rw [List.getD_eq_getElem?_getD,List.getElem?_map,bO (by omega)]
  rfl
 refine ⟨u.op.toNat,by omega,by omega,e,?_⟩
 rw [e] at h2
 rcases h2 with h2 | ⟨h2,h3⟩
 ·exact Or.inl h2
 ·refine Or.inr ⟨h2,?_⟩
  rcases h3 with h3 | h3 | h3
  ·exact Or.inl h3
  ·exact Or.inr (Or.inl h3)
  ·exact Or.inr (Or.inr ⟨u.how.toNat,by omega,by omega⟩)
theorem nI {L:List OpV} {u:UseM} {i:Nat} {t:Int} {v:OpV} (hi:u.op=i) (hL:i < L.length) (hv:v.o=if u.how = -1 then { (opAt L i).o with «to»:=t } else if u.how = -2 then { (opAt L i).o with onT:=t } else if u.how = -3 then { (opAt L i).o with onE:=t }
 else { (opAt L i).o with arms:=(opAt L i).o.arms.set u.how.toNat ⟨((opAt L i).o.arms.getD u.how.toNat ⟨⟨#[]⟩,0⟩).pat,t⟩ }):eX (L.map (·.o)) u t=(L.set i v).map (·.o):=by
 have e:(L.map (·.o)).getD u.op.toNat op0=(opAt L i).o:=by
  rw [hi,List.getD_eq_getElem?_getD,List.getElem?_map,Int.toNat_natCast,bO hL]
  rfl
 unfold eX
 rw [e,jX,hv,hi,Int.toNat_natCast]
theorem res_step {ls:List (List UInt8 × Int)} {us:List UseM} {ops:List OpM} {k:Nat} {t:Int} (hk:k < us.length) (hl:lbF (eR us k).name ls=some t):jJ ls (us.drop k) ops=jJ ls (us.drop (k + 1)) (eX ops (eR us k) t):=by
 rw [jU hk]
 conv=>lhs;unfold jJ
 rw [hl]
theorem res_miss {ls:List (List UInt8 × Int)} {us:List UseM} {ops:List OpM} {k:Nat} (hk:k < us.length) (hl:lbF (eR us k).name ls=none):jJ ls (us.drop k) ops=(ops,some (eR us k)):=by
 rw [jU hk]
 unfold jJ
 rw [hl]
theorem eK {w:World} {base size n c:Nat} {e:TypeId} {A:Option Addr} {xs:List Value} (h:w.ownsRow base e size (.slice A n c) n xs) (hn:0 < n):∃ g,A=some ⟨g,0,none⟩∧base≤g∧g < w.heap.size:=by
 rcases h.2 with ⟨_,h0⟩ | ⟨g,cap,cur,hv,hb,hh,_⟩
 ·omega
 ·injection hv with h1
  exact ⟨g,h1,hb,Blk.lt (t:=e) (cs:=cur) hh⟩
set_option maxRecDepth 100000 in
theorem uM (B a:Nat) (p:Pp) (w:World) (h:PAt w B a p) (hu:∀ u ∈ p.uses,UseOk (p.L.map (·.o)) u) (hlb:∀ k v,lbF k p.labels=some v→0≤v∧v≤200) (htx:∀ u ∈ p.uses,u.name.length≤1000000000∧1≤u.col∧u.col≤1000000001) (hul:p.uses.length≤1000000) (hol:p.L.length≤1000000) (hal8:∀ v ∈ p.L,v.o.arms.length≤1000000) :
 Calls Tryz.prog 41 #[.pointer (some ⟨a,0,none⟩)] w fun e w'=>e=.returned (.tuple #[])∧Did w w' B a (resM p.pl):=by
 have hBa:=h.base
 have c5:=h.cells.2.2.2.2.2.1
 have H:=hide h
 have HU:=hide hu
 have HLb:=hide hlb
 have HTx:=hide htx
 obtain ⟨R,hR⟩:∃ R,R=jJ p.labels p.uses (p.L.map (·.o)):=⟨_,rfl⟩
 have HR:=hide (show resM p.pl=resOf p.pl R by rw [hR];rfl)
 have HR0:=hide (show jJ p.labels (p.uses.drop 0) (p.L.map (·.o))=R from hR.symm)
 clear hR h hu hlb htx
 obtain ⟨m,hm⟩:∃ m,m=p.uses.length:=⟨_,rfl⟩
 have Hm:=hide hm
 rw [← hm] at c5 hul
 clear hm
 have HOl:=hide (show ∀ Lq:List OpV,Lq.length=p.L.length→Lq.length≤1000000 from fun Lq e=>by omega)
 go_enter Tryz.func41,Tryz.ntmps41
 go_wp2_with fail
 go_loopw [12] (fun i wr=>∃ (q:Nat) (Lq:List OpV),q≤m∧i=.int .i64 q∧Hid (PAt wr B a { p with L:=Lq })∧Hid (OnB B w wr)∧Hid (jJ p.labels (p.uses.drop q) (Lq.map (·.o))=R)∧Hid (∀ u ∈ p.uses,UseOk (Lq.map (·.o)) u)∧Hid (Lq.length=p.L.length)) (fun i _=>m - (intOf i).toNat)
 case atStart=>exact ⟨0,p.L,Nat.zero_le _,rfl,H,hide (OnB.refl _ _),HR0,HU,hide rfl⟩
 case round =>
  obtain ⟨q,Lq,hqm,rfl,HP,HO,HRq,HUq,HLq⟩:=hrel
  by_cases hlt:q < m
  case neg =>
   have d1:decide ((q:Int) < (m:Int))=false:=by simp;omega
   have d2:decide (q < m)=false:=by simp;omega
   have HE:=hide (show ({ p with L:=Lq }:Pp).pl=resM p.pl by
    have e:p.uses.drop q=[]:=List.drop_eq_nil_of_le (by have:=Hm.out;omega)
    have q2:=HRq.out
    rw [e] at q2
    rw [HR.out,← q2]
    rfl)
   clear hlt
   go_wp2_with fail
   go_end0
   exact ⟨rfl,⟨_,HP.out,HE.out⟩,HO.out⟩
  case pos =>
   have d1:decide ((q:Int) < (m:Int))=true:=by simp;omega
   have j1:(0:Int)≤(q:Int):=by omega
   have j2:(q:Int) < (m:Int):=by omega
   have w1:IntKind.i64.wrap ((q:Int) + 1)=(q:Int) + 1:=IntWalk.i64_in _ (by omega)
   have hqu:q < p.uses.length:=by have:=Hm.out;omega
   obtain ⟨b,ob,hA,hb,k0,k1,k2,k3,k4⟩:=HP.out.useCells (k:=q) hqu
   have HA:=hide hA
   rw [hA]
   have HTu:=hide (HTx.out _ (lD hqu))
   have HOk:=hide (HUq.out _ (lD hqu))
   have HSt:=hide (fun (t:Int) (hl:lbF (eR p.uses q).name p.labels=some t)=>res_step (ls:=p.labels) (ops:=Lq.map (·.o)) hqu hl)
   have HMi:=hide (fun (hl:lbF (eR p.uses q).name p.labels=none)=>res_miss (ls:=p.labels) (ops:=Lq.map (·.o)) hqu hl)
   obtain ⟨U,hU⟩:∃ U,U=eR p.uses q:=⟨_,rfl⟩
   rw [← hU] at k0 k1 k2 k3 k4 HTu HOk HSt HMi
   obtain ⟨un,ul,uc,uo,uh⟩:=U
   simp only at k0 k1 k2 k3 k4 HTu HSt HMi
   clear hU hA hlt
   go_upto_region 3 with fail
   generalize hX:World.alloc wr _=X
   have hI:Blk X wr.heap.size 135 #[.string (bs un),.int .i64 ul,.int .i64 uc,.int .i64 uo,.int .i64 uh]:=by rw [← hX];exact Blk.new _ _ _
   have hP:PAt X B a { p with L:=Lq }:=by rw [← hX];exact HP.out.alloc _
   have hO:OnB B w X:=by rw [← hX];exact HO.out.alloc _
   have hal:=HP.out.lt
   obtain ⟨g0,hg0⟩:∃ g0,g0=wr.heap.size:=⟨_,rfl⟩
   rw [← hg0] at hI hal ⊢
   have hNe:a≠g0:=by omega
   have HNe:=hide hNe
   clear hX k0 k1 k2 k3 k4 hg0 hal hb hNe HP HO
   have c4:=hP.cells.2.2.2.2.1
   have e0:X.cell? ⟨g0,0,none⟩=some (.string (bs un)):=hI.cell 0
   have hlk:=vT hP.lb.drew un HTu.out.1
   rw [show ({ p with L:=Lq }:Pp).labels=p.labels from rfl] at hlk
   cases hl:lbF un p.labels with
   | none =>
    rw [hl] at hlk
    simp only [Option.getD_none,Option.isSome_none] at hlk
    have HMi2:=hide (HMi.out hl)
    have HE:=hide (show ({ p with L:=Lq,line:=ul,st:=bE ul p.st (uc - 1) 13 }:Pp).pl=resM p.pl by
     rw [HR.out,← HRq.out,HMi2.out]
     rfl)
    clear hl
    go_region
    obtain ⟨Y,hY⟩:∃ Y,Y=X.drew:=⟨_,rfl⟩
    have HI1:=hide (hI.drew)
    have HP1:=hide (hP.drew)
    have HO1:=hide (hO.drew)
    rw [← hY] at HI1 HP1 HO1 ⊢
    clear hY hI hP hO c4 e0 hlk
    have i1:Y.cell? ⟨g0,1,none⟩=some (.int .i64 ul):=HI1.out.cell 1
    have i2:Y.cell? ⟨g0,2,none⟩=some (.int .i64 uc):=HI1.out.cell 2
    have d10:=HP1.out.cells2.1
    have f10:=HP1.out.frozen 10
    have w2:IntKind.i64.wrap (uc - 1)=uc - 1:=by have:=HTu.out.2;exact IntWalk.i64_in _ (by omega)
    have hc1:0≤uc - 1∧uc - 1≤1000000000:=by have:=HTu.out.2;omega
    go_wp2_with fail
    generalize hZ:World.setCell Y _ _=Z
    have hP2:PAt Z B a { p with L:=Lq,line:=ul }:=by rw [← hZ];exact (HP1.out.cell (p':={ p with L:=Lq,line:=ul }) 10 _ rfl).1
    have hO2:OnB B w Z:=by rw [← hZ];exact HO1.out.trans (HP1.out.cell (p':={ p with L:=Lq,line:=ul }) 10 _ rfl).2
    clear hZ
    refine (eA a ({ p with L:=Lq,line:=ul }:Pp).fr p.st (uc - 1) 13 Z hP2.blk hc1.1 hc1.2).mono ?_
    rintro e w7 ⟨rfl,hb,ho⟩
    go_wp2_with fail
    refine bodyPost_ret (v:=.tuple #[]) (by simp [results,Tryz.results41,go_sem]) rfl ?_
    exact ⟨rfl,⟨_,hP2.st ho hb,by rw [← HE.out];rfl⟩,hO2.trans (hP2.only ho)⟩
   | some t =>
    rw [hl] at hlk
    simp only [Option.getD_some,Option.isSome_some] at hlk
    have HSt2:=hide (HSt.out t hl)
    have ht:=HLb.out _ _ hl
    clear hl
    obtain ⟨i,hui,hiL,hop,hhow⟩:=use_at HOk.out
    simp only at hui hhow
    subst hui
    obtain ⟨g,hoA,hgB,hgl⟩:=hP.ops.at_ (i:=i) hiL
    have hops:=hP.ops
    rw [hoA] at hops
    have hcl:=hops.cells (i:=i) hiL
    have HoA:=hide hoA
    go_region
    obtain ⟨Y,hY⟩:∃ Y,Y=X.drew:=⟨_,rfl⟩
    have HI1:=hide (hI.drew)
    have HP1:=hide (hP.drew)
    have HO1:=hide (hO.drew)
    rw [← hY] at HI1 HP1 HO1 ⊢
    clear hY hI hP hO c4 e0 hlk hcl hops hoA
    have i2:Y.cell? ⟨g0,2,none⟩=some (.int .i64 uc):=HI1.out.cell 2
    have i3:Y.cell? ⟨g0,3,none⟩=some (.int .i64 i):=HI1.out.cell 3
    have i4:Y.cell? ⟨g0,4,none⟩=some (.int .i64 uh):=HI1.out.cell 4
    have d3:Y.cell? ⟨a,3,none⟩=some (.slice (some ⟨g,0,none⟩) Lq.length p.oc):=by have q:=HP1.out.cells.2.2.2.1;rw [show ({ p with L:=Lq }:Pp).oA=some ⟨g,0,none⟩ from HoA.out] at q;exact q
    have j3:(0:Int)≤(i:Int):=by omega
    have j4:(i:Int) < (Lq.length:Int):=by omega
    go_upto_region 7 with fail
    go_region
    obtain ⟨Y2,hY⟩:∃ Y2,Y2=Y.drew:=⟨_,rfl⟩
    have HI2:=hide (HI1.out.drew)
    have HP2:=hide (HP1.out.drew)
    have HO2:=hide (HO1.out.drew)
    rw [← hY] at HI2 HP2 HO2 ⊢
    clear hY i2 i3 i4 d3 HI1 HP1 HO1
    have i4:Y2.cell? ⟨g0,4,none⟩=some (.int .i64 uh):=HI2.out.cell 4
    have hops:=HP2.out.ops
    rw [show ({ p with L:=Lq }:Pp).oA=some ⟨g,0,none⟩ from HoA.out] at hops
    have hcl:=hops.cells (i:=i) hiL
    rw [show ({ p with L:=Lq }:Pp).L=Lq from rfl] at hcl
    obtain ⟨⟨_,_,_,o3,o4,o5,o6⟩,ofr⟩:=hcl
    have of3:=ofr (i * 7 + 3)
    have of5:=ofr (i * 7 + 5)
    have of6:=ofr (i * 7 + 6)
    have HNxt:=hide (fun (v:OpV) (hv:v.o=if uh = -1 then { (opAt Lq i).o with «to»:=t } else if uh = -2 then { (opAt Lq i).o with onT:=t } else if uh = -3 then { (opAt Lq i).o with onE:=t }
     else { (opAt Lq i).o with arms:=(opAt Lq i).o.arms.set uh.toNat ⟨((opAt Lq i).o.arms.getD uh.toNat ⟨⟨#[]⟩,0⟩).pat,t⟩ })=>(show jJ p.labels (p.uses.drop (q + 1)) ((Lq.set i v).map (·.o))=R∧(∀ u ∈ p.uses,UseOk ((Lq.set i v).map (·.o)) u)∧(Lq.set i v).length=p.L.length by
     have e:=nI (L:=Lq) (u:=⟨un,ul,uc,i,uh⟩) (i:=i) (t:=t) (v:=v) rfl hiL hv
     rw [← e]
     exact ⟨by rw [← HSt2.out];exact HRq.out,fun u hu=>l9 (HUq.out u hu),by rw [List.length_set];exact HLq.out⟩))
    clear ofr hops hop j3 j4
    have hal8':=hal8
    rcases hhow with ⟨rfl,_⟩ | ⟨_,rfl | rfl | ⟨k,rfl,hk⟩⟩
    ·have N:=HNxt.out ⟨{ (opAt Lq i).o with «to»:=t },(opAt Lq i).A,(opAt Lq i).c⟩ rfl
     have HN1:=hide N.1
     have HN2:=hide N.2.1
     have HN3:=hide N.2.2
     have HF:=hide (HP2.out.setOp (p':={ p with L:=Lq.set i ⟨{ (opAt Lq i).o with «to»:=t },(opAt Lq i).A,(opAt Lq i).c⟩ }) (g:=g) (i:=i) (j:=3) (u:=.int .i64 t) (v:=⟨{ (opAt Lq i).o with «to»:=t },(opAt Lq i).A,(opAt Lq i).c⟩) HoA.out hiL (by decide) rfl rfl rfl rfl rfl)
     clear N
     go_wp2_with fail
     go_roundw
     ·exact ⟨q + 1,_,by omega,by simp,hide (by rw [← show p.uA=some ⟨b,ob,none⟩ from HA.out];exact HF.out.1),hide (HO2.out.trans HF.out.2),HN1,HN2,HN3⟩
     ·simp only [intOf];omega
    ·have N:=HNxt.out ⟨{ (opAt Lq i).o with onT:=t },(opAt Lq i).A,(opAt Lq i).c⟩ rfl
     have HN1:=hide N.1
     have HN2:=hide N.2.1
     have HN3:=hide N.2.2
     have HF:=hide (HP2.out.setOp (p':={ p with L:=Lq.set i ⟨{ (opAt Lq i).o with onT:=t },(opAt Lq i).A,(opAt Lq i).c⟩ }) (g:=g) (i:=i) (j:=5) (u:=.int .i64 t) (v:=⟨{ (opAt Lq i).o with onT:=t },(opAt Lq i).A,(opAt Lq i).c⟩) HoA.out hiL (by decide) rfl rfl rfl rfl rfl)
     clear N
     go_wp2_with fail
     go_roundw
     ·exact ⟨q + 1,_,by omega,by simp,hide (by rw [← show p.uA=some ⟨b,ob,none⟩ from HA.out];exact HF.out.1),hide (HO2.out.trans HF.out.2),HN1,HN2,HN3⟩
     ·simp only [intOf];omega
    ·have N:=HNxt.out ⟨{ (opAt Lq i).o with onE:=t },(opAt Lq i).A,(opAt Lq i).c⟩ rfl
     have HN1:=hide N.1
     have HN2:=hide N.2.1
     have HN3:=hide N.2.2
     have HF:=hide (HP2.out.setOp (p':={ p with L:=Lq.set i ⟨{ (opAt Lq i).o with onE:=t },(opAt Lq i).A,(opAt Lq i).c⟩ }) (g:=g) (i:=i) (j:=6) (u:=.int .i64 t) (v:=⟨{ (opAt Lq i).o with onE:=t },(opAt Lq i).A,(opAt Lq i).c⟩) HoA.out hiL (by decide) rfl rfl rfl rfl rfl)
     clear N
     go_wp2_with fail
     go_roundw
     ·exact ⟨q + 1,_,by omega,by simp,hide (by rw [← show p.uA=some ⟨b,ob,none⟩ from HA.out];exact HF.out.1),hide (HO2.out.trans HF.out.2),HN1,HN2,HN3⟩
     ·simp only [intOf];omega
    ·have N:=HNxt.out ⟨{ (opAt Lq i).o with arms:=(opAt Lq i).o.arms.set k ⟨(fL (opAt Lq i).o.arms k).pat,t⟩ },(opAt Lq i).A,(opAt Lq i).c⟩ (by
      rw [if_neg (by omega),if_neg (by omega),if_neg (by omega),Int.toNat_natCast]
      rfl)
     have HN1:=hide N.1
     have HN2:=hide N.2.1
     have HN3:=hide N.2.2
     have harm:=HP2.out.ops.arms _ (cJ (l:=Lq) (k:=i) hiL)
     unfold armsV at harm
     obtain ⟨ga,hga,hgaB,hgal⟩:=eK harm (by omega)
     rw [hga] at harm o4
     have hcell:=harm.cellAt (k * 2 + 1) (by omega)
     obtain ⟨cv,hcv⟩:∃ cv,(flat encArm (opAt Lq i).o.arms)[k * 2 + 1]?=some cv:=⟨_,List.getElem?_eq_getElem (by rw [harm.1];omega)⟩
     rw [hcv] at hcell
     have hfr:=harm.frozenAt (k * 2 + 1)
     have HF:=hide (HP2.out.drew.armSet (p':={ p with L:=Lq.set i ⟨{ (opAt Lq i).o with arms:=(opAt Lq i).o.arms.set k ⟨(fL (opAt Lq i).o.arms k).pat,t⟩ },(opAt Lq i).A,(opAt Lq i).c⟩ }) (g:=ga) (i:=i) (k:=k) (t:=t) (v:=⟨{ (opAt Lq i).o with arms:=(opAt Lq i).o.arms.set k ⟨(fL (opAt Lq i).o.arms k).pat,t⟩ },(opAt Lq i).A,(opAt Lq i).c⟩) hiL hga hk rfl rfl rfl (by simp [encOp]) rfl)
     have r1:((k:Int) == -1)=false:=by simp
     have r2:((k:Int) == -2)=false:=by simp
     have r3:((k:Int) == -3)=false:=by simp
     have j3:(0:Int)≤(k:Int):=by omega
     have j4:(k:Int) < ((opAt Lq i).o.arms.length:Int):=by omega
     have HG:=hide hga
     clear N hcv hga harm
     go_upto_region 9 with fail
     go_region
     go_wp2_with fail
     go_roundw
     ·exact ⟨q + 1,_,by omega,by simp,hide (by rw [← show p.uA=some ⟨b,ob,none⟩ from HA.out];exact HF.out.1),hide (HO2.out.drew.trans HF.out.2),HN1,HN2,HN3⟩
     ·simp only [intOf];omega
set_option maxRecDepth 100000
theorem Tryz.infoDUse:(Tryz.prog.info? 88).map (fun i=>(i.zero,i.size,i.bytes))=some (some (.agg #[.string ⟨#[]⟩,.int .i64 0,.int .i64 0,.int .i64 0,.int .i64 0]),5,48):=by kernel_rfl
theorem Tryz.infoDLb:(Tryz.prog.info? 146).map (fun i=>(i.zero,i.size,i.bytes))=some (some (.agg #[.string ⟨#[]⟩,.int .i64 0]),2,24):=by kernel_rfl
theorem OnB.own {B:Nat} {w w':World} {base size n:Nat} {e:TypeId} {v:Value} {xs:List Value} (h:OnB B w w') (ho:w.ownsRow base e size v n xs) (hm:MutT e=false):w'.ownsRow base e size v n xs:=by
 obtain ⟨h1,h2⟩:=ho
 refine ⟨h1,?_⟩
 rcases h2 with h2 | ⟨g,cap,cur,hv,hg,hb,r⟩
 ·exact Or.inl h2
 ·exact Or.inr ⟨g,cap,cur,hv,hg,h.keep g e cur hb hm,r⟩
structure Grew (w w':World) (B:Nat) (T:TypeId) (v v':Value):Prop where
 by_:w.grownBy w' v.ownBlock
theorem pJ (B a:Nat) (d:Dp) (x0 x1:WordM) (A:Option Addr) (c:Nat) (line:Int) (bw:Nat) (w:World) (h:DAt w B a d) (ho:w.ownsRow bw 141 3 (.slice A 2 c) 2 (flat encW [x0,x1])) (ht:x0.text=bG) (hx:∀ x ∈ [x0,x1],x.text.length≤1000000000∧x.at_≤1000000000)
 (hL:d.L.length≤1000000) (hU:d.uses.length≤1000000) (hB:d.labels.length≤1000000) (ha:∀ v ∈ d.L,v.o.arms.length≤1000000):Calls Tryz.prog 78 #[.pointer (some ⟨a,0,none⟩),.slice A 2 c,.int .i64 line] w fun e w'=>e=.returned (.tuple #[])∧mN w w' B a (takeD d.pl [x0,x1] line):=by
 have hBa:=h.base
 have H:=hide h
 obtain ⟨gw,rfl,hbw,hgw⟩:=eK ho (by omega)
 have HWo:=hide ho
 have hx0:=hx x0 (by simp)
 have hx1:=hx x1 (by simp)
 obtain ⟨s,hs⟩:∃ s,s=bs x0.text:=⟨_,rfl⟩
 have Hs:=hide hs
 have hsl:s.toList=x0.text:=by rw [hs,ByteArray.toList_eq]
 have HKd:=hide (fun (X:World)=>dG x0.text X)
 rw [ht,← ht,← hs] at HKd
 rw [show eI x0.text=0 by rw [ht];rfl] at HKd
 have q0:(s.toList == [115,99,114,105,112,116])=false:=by rw [hsl,ht];rfl
 have q1:(s.toList == [108,97,98,101,108])=true:=by rw [hsl,ht];rfl
 have HE:=hide (show takeD d.pl [x0,x1] line=({ d with opn:=false,labels:=d.labels++[(x1.text,((d.L.length:Nat):Int))] }:Dp).pl by
  have e:takeD d.pl [x0,x1] line={ d.pl with opn:=false,labels:=d.pl.labels++[(x1.text,((d.pl.ops.length:Nat):Int))] }:=by
   have ht':(aC [x0,x1] 0).text=bG:=ht
   unfold takeD dOp cD
   rw [ht']
   rfl
  rw [e,show d.pl.ops.length=d.L.length from List.length_map _]
  rfl)
 have k0:w.cell? ⟨gw,0,none⟩=some (.string (bs x0.text)):=HWo.out.cellAt 0 (by omega)
 have k1:w.cell? ⟨gw,1,none⟩=some (.bool x0.quoted):=HWo.out.cellAt 1 (by omega)
 have k2:w.cell? ⟨gw,2,none⟩=some (.int .i64 x0.at_):=HWo.out.cellAt 2 (by omega)
 rw [← Hs.out] at k0
 clear hsl ht hs h ho hx
 go_enter Tryz.func78,Tryz.ntmps78
 go_wp2_with fail
 refine (HKd.out w).mono ?_
 rintro e wz ⟨rfl,hbz⟩
 have oz:OnB B w wz:=OnB.none (Only.of_below hbz _)
 have HDz:=hide (H.out.same (Only.of_below hbz aA))
 have HOz:=hide oz
 have HWz:=hide (oz.own HWo.out rfl)
 clear k0 k1 k2 hbz oz
 have w1:IntKind.i64.wrap ((d.L.length:Int) - 1)=(d.L.length:Int) - 1:=IntWalk.i64_in _ (by omega)
 have w2:IntKind.i64.wrap ((d.L.length:Int) - 1 + 1)=(d.L.length:Int):=by rw [Int.sub_add_cancel];exact IntWalk.i64_in _ (by omega)
 have w3:IntKind.i64.wrap (d.L.length:Int)=(d.L.length:Int):=IntWalk.i64_in _ (by omega)
 have m0:wz.cell? ⟨gw,3,none⟩=some (.string (bs x1.text)):=HWz.out.cellAt 3 (by omega)
 have m1:wz.cell? ⟨gw,4,none⟩=some (.bool x1.quoted):=HWz.out.cellAt 4 (by omega)
 have m2:wz.cell? ⟨gw,5,none⟩=some (.int .i64 x1.at_):=HWz.out.cellAt 5 (by omega)
 have d3:=HDz.out.cells.2.2.2.1
 have HGw:=hide (show gw < wz.heap.size by have:=HOz.out.on.size;omega)
 go_upto_region 14 with fail
 generalize hX:World.alloc wz _=X
 have HLx:=hide (show Blk X wz.heap.size 141 #[.string (bs x1.text),.bool x1.quoted,.int .i64 x1.at_] by rw [← hX];exact Blk.new _ _ _)
 have HDx:=hide (show DAt X B a d by rw [← hX];exact HDz.out.alloc _)
 have HOx:=hide (show OnB B w X by rw [← hX];exact HOz.out.alloc _)
 have HWx:=hide ((show OnB B wz X by rw [← hX];exact (OnB.refl _ _).alloc _).own HWz.out rfl)
 obtain ⟨g9,hg9⟩:∃ g9,g9=wz.heap.size:=⟨_,rfl⟩
 have HN9:=hide (show ¬ a=g9 by have:=HDz.out.lt;omega)
 rw [← hg9] at HLx ⊢
 clear hX hg9 d3 m0 m1 m2 HGw
 have k0:X.cell? ⟨gw,0,none⟩=some (.string (bs x0.text)):=HWx.out.cellAt 0 (by omega)
 have k1:X.cell? ⟨gw,1,none⟩=some (.bool x0.quoted):=HWx.out.cellAt 1 (by omega)
 have k2:X.cell? ⟨gw,2,none⟩=some (.int .i64 x0.at_):=HWx.out.cellAt 2 (by omega)
 rw [← Hs.out] at k0
 go_upto_region 21 with fail
 clear k0 k1 k2
 have m0:X.cell? ⟨gw,3,none⟩=some (.string (bs x1.text)):=HWx.out.cellAt 3 (by omega)
 have m1:X.cell? ⟨gw,4,none⟩=some (.bool x1.quoted):=HWx.out.cellAt 4 (by omega)
 have m2:X.cell? ⟨gw,5,none⟩=some (.int .i64 x1.at_):=HWx.out.cellAt 5 (by omega)
 obtain ⟨ia,hia,hz0,hz1,hz2⟩:=info_parts Tryz.infoDLb
 have hax:=HDx.out.lt
 have hgx:gw < X.heap.size:=by have:=HOx.out.on.size;omega
 obtain ⟨V0,hV0⟩:∃ V9,V9=X.drew:=⟨_,rfl⟩
 have HD0:=hide (HDx.out.drew)
 have HO0:=hide (HOx.out.drew)
 have M0:V0.cell? ⟨gw,3,none⟩=some (.string (bs x1.text)):=by rw [hV0];exact m0
 have HX0:=hide (show OnB B X V0 by rw [hV0];exact (OnB.refl _ _).drew)
 rw [← hV0] at HD0 HO0
 have hgV:gw < V0.heap.size:=by rw [hV0];exact hgx
 have haV:a < V0.heap.size:=HD0.out.lt
 refine wp_region_held (S:=fun w'=>w'.cell? ⟨gw,3,none⟩=some (.string (bs x1.text))) (by kernel_rfl) ?_
 change wpAnyH _ _ _ _ _ _ _ _ X.drew
 have hHeld:(fun w'=>w'.cell? ⟨gw,3,none⟩=some (.string (bs x1.text))) X.drew:=(by rw [← hV0];exact M0)
 rw [← hV0] at hHeld ⊢
 simp only [List.size_toArray,List.length_cons,List.length_nil,Nat.zero_add,Nat.reduceAdd]
 clear hV0
 refine tk 0 ?_ rfl ?_ ?_
 rotate_left
 ·(intro w9 hS9;(try simp only [ga]);go_simp<;>rfl)
 refine tk 1 ?_ rfl ?_ ?_
 rotate_left
 ·(intro w9 hS9;(try simp only [ga]);go_simp<;>rfl)
 refine tk 2 ?_ rfl ?_ ?_
 rotate_left
 ·(intro w9 hS9;(try simp only [ga]);go_simp<;>rfl)
 refine tk 3 ?_ rfl ?_ ?_
 rotate_left
 ·(intro w9 hS9;(try simp only [ga]);go_simp<;>rfl)
 refine tk 4 ?_ rfl ?_ ?_
 rotate_left
 ·(intro w9 hS9;(try simp only [ga]);go_simp<;>rfl)
 refine tk 6 ?_ rfl ?_ ?_
 rotate_left
 ·(intro w9 hS9;(try simp only [ga]);go_simp<;>rfl)
 refine tk 7 ?_ rfl ?_ ?_
 rotate_left
 ·(intro w9 hS9;(try simp only [ga]);go_simp<;>rfl)
 refine tk 8 ?_ rfl ?_ ?_
 rotate_left
 ·(intro w9 hS9;(try simp only [ga]);go_simp<;>rfl)
 refine tk 9 ?_ rfl ?_ ?_
 rotate_left
 ·(intro w9 hS9;(try simp only [ga]);go_simp<;>rfl)
 refine tk 10 ?_ rfl ?_ ?_
 rotate_left
 ·(intro w9 hS9;(try simp only [ga]);go_simp<;>rfl)
 refine tk 11 ?_ rfl ?_ ?_
 rotate_left
 ·(intro w9 hS9;(try simp only [ga]);go_simp<;>rfl)
 refine tk 12 ?_ rfl ?_ ?_
 rotate_left
 ·(intro w9 hS9;(try simp only [ga]);go_simp<;>rfl)
 try simp only [Act.put,gp]
 refine wpAnyH_ready (rs:=[5,13]) (by kernel_rfl) (by simp) ?_
 refine AllReadyH.cons rfl (fun K hK=>?_) (AllReadyH.cons rfl (fun K hK=>?_) AllReadyH.nil)
 ·
   have c4:=HD0.out.cells.2.2.2.2.1
   try simp only [ga]
   try go_simp
   refine hK.out _ _ M0 (fun hHeld=>?_)
   clear hK K
   try simp only [Act.put,gp]
   refine rdy 13 rfl (fun K hK=>?_)
   obtain ⟨V1,hV1⟩:∃ V9,V9=V0.alloc (.cells (encLb (x1.text,((d.L.length:Nat):Int))).toArray 146):=⟨_,rfl⟩
   have HD1:=hide (HD0.out.alloc (.cells (encLb (x1.text,((d.L.length:Nat):Int))).toArray 146))
   have HO1:=hide (HO0.out.alloc (.cells (encLb (x1.text,((d.L.length:Nat):Int))).toArray 146))
   have HI1:=hide (Blk.new V0 146 (encLb (x1.text,((d.L.length:Nat):Int))).toArray)
   have HX1:=hide (show OnB B X V1 by rw [hV1];exact HX0.out.alloc _)
   have M1:V1.cell? ⟨gw,3,none⟩=some (.string (bs x1.text)):=by rw [hV1];exact wI ((Below.refl _ V0).alloc (Nat.le_refl _) _) M0
   try simp only [ga]
   try go_simp
   rw [← hV1] at HD1 HO1 HI1
   simp only [encLb] at hV1
   rw [← hV1]
   clear hV1
   refine hK.out _ _ M1 (fun hHeld=>?_)
   clear hK K
   try simp only [Act.put,gp]
   refine rdy 14 rfl (fun K hK=>?_)
   have hbs:B≤V1.heap.size:=by have:=HD1.out.lt;omega
   refine aT V1 (by rfl) (.tmp 138) (.tmp 146) _ (by rfl) B 146 ia _ 2 24 Tryz.underlying81 hia hz0 hz1 hz2 rfl (by omega) (.slice d.lA d.labels.length d.lc) d.labels.length (flat encLb d.labels) (by rfl) HD1.out.labels aA (some ⟨V0.heap.size,0,none⟩) 1 1 (encLb (x1.text,((d.L.length:Nat):Int))) (by rfl) (aY HI1.out (fun h=>h)) rfl (qO _) (by simp only [maxLen];omega) (by omega) hbs ?_
   intro v3 V3 hown2 hgr how2
   obtain ⟨A4,c4,rfl,hc4⟩:=aW hown2
   rw [aB] at hgr
   have HG3:=hide hgr
   have HOw3:=hide hown2
   have HBk3:=hide (grownBlk (v:=.slice d.lA d.labels.length d.lc) HD1.out.blk (by rw [aB];exact hgr) HD1.out.labels (by decide))
   have hM3:V3.cell? ⟨gw,3,none⟩=some (.string (bs x1.text)):=by
    have q:=(OnB.of (B:=B) (aG hgr) (fun g hg=>aU HD1.out.labels g (by rw [aB];exact hg)) (fun g hg=>aZ HD1.out.labels (by rw [aB];exact hg)) (T:=146) rfl).own ((show OnB B X V1 by exact HX1.out).own HWx.out rfl) rfl
    exact q.cellAt 3 (by omega)
   clear hgr hown2 how2
   refine hK.out _ _ hM3 (fun hHeld=>?_)
   clear hK K
   refine tk 15 ?_ rfl ?_ ?_
   rotate_left
   ·(intro w9 hS9;(try simp only [ga]);go_simp<;>rfl)
   refine tk 16 ?_ rfl ?_ ?_
   rotate_left
   ·(intro w9 hS9;(try simp only [ga]);go_simp<;>rfl)
   try simp only [Act.put,gp]
   refine rdy 17 rfl (fun K hK=>?_)
   have z4:V3.cell? ⟨a,4,none⟩=some (.slice d.lA d.labels.length d.lc):=by rw [HBk3.out.cell];rfl
   have y4:=HBk3.out.frozen 4
   try simp only [ga]
   try go_simp
   have HL:=hide (HD1.out.label (d':={ d with labels:=d.labels++[(x1.text,((d.L.length:Nat):Int))],lA:=A4,lc:=c4 }) HG3.out HOw3.out rfl)
   have hM4:(V3.setCell ⟨a,4,none⟩ (.slice A4 (d.labels.length + 1) c4)).cell? ⟨gw,3,none⟩=some (.string (bs x1.text)):=by
    have q:=HL.out.2.own ((show OnB B X V1 by exact HX1.out).own HWx.out rfl) rfl
    exact q.cellAt 3 (by omega)
   refine hK.out _ _ hM4 (fun hHeld=>?_)
   clear hK K
   refine tk 18 ?_ rfl ?_ ?_
   rotate_left
   ·(intro w9 hS9;(try simp only [ga]);go_simp<;>rfl)
   refine tk 19 ?_ rfl ?_ ?_
   rotate_left
   ·(intro w9 hS9;(try simp only [ga]);go_simp<;>rfl)
   try simp only [Act.put,gp]
   refine rdy 20 rfl (fun K hK=>?_)
   obtain ⟨V5,hV5⟩:∃ V9,V9=V3.setCell ⟨a,4,none⟩ (.slice A4 (d.labels.length + 1) c4):=⟨_,rfl⟩
   have HD5:=hide (show DAt V5 B a { d with labels:=d.labels++[(x1.text,((d.L.length:Nat):Int))],lA:=A4,lc:=c4 } by rw [hV5];exact HL.out.1)
   have HO5:=hide (show OnB B w V5 by rw [hV5];exact HO1.out.trans HL.out.2)
   have HX5:=hide (show OnB B X V5 by rw [hV5];exact (show OnB B X V1 by exact HX1.out).trans HL.out.2)
   rw [← hV5]
   clear hV5 z4 y4
   have z7:=HD5.out.cells.2.2.2.2.2.2.2.1
   have y7:=HD5.out.frozen 7
   try simp only [ga]
   try go_simp
   have HC:=hide (HD5.out.cell (d':={ d with labels:=d.labels++[(x1.text,((d.L.length:Nat):Int))],lA:=A4,lc:=c4,opn:=false }) 7 (.bool false) rfl)
   have hM6:(V5.setCell ⟨a,7,none⟩ (.bool false)).cell? ⟨gw,3,none⟩=some (.string (bs x1.text)):=by
    have q:=HC.out.2.own (HX5.out.own HWx.out rfl) rfl
    exact q.cellAt 3 (by omega)
   refine hK.out _ _ hM6 (fun hHeld=>?_)
   clear hK K
   try simp only [Act.put,gp]
   refine wpAnyH_done (by kernel_rfl) ?_ _
   try simp only [Exit.then]
   clear hHeld
   go_wp2_with fail
   refine bodyPost_ret (v:=.tuple #[]) (by simp [results,Tryz.results78,go_sem]) rfl ?_
   exact ⟨rfl,⟨_,HC.out.1,by rw [HE.out];rfl⟩,HO5.out.trans HC.out.2⟩
 ·
   obtain ⟨V1,hV1⟩:∃ V9,V9=V0.alloc (.cells (encLb (x1.text,((d.L.length:Nat):Int))).toArray 146):=⟨_,rfl⟩
   have HD1:=hide (HD0.out.alloc (.cells (encLb (x1.text,((d.L.length:Nat):Int))).toArray 146))
   have HO1:=hide (HO0.out.alloc (.cells (encLb (x1.text,((d.L.length:Nat):Int))).toArray 146))
   have HI1:=hide (Blk.new V0 146 (encLb (x1.text,((d.L.length:Nat):Int))).toArray)
   have HX1:=hide (show OnB B X V1 by rw [hV1];exact HX0.out.alloc _)
   have M1:V1.cell? ⟨gw,3,none⟩=some (.string (bs x1.text)):=by rw [hV1];exact wI ((Below.refl _ V0).alloc (Nat.le_refl _) _) M0
   try simp only [ga]
   try go_simp
   rw [← hV1] at HD1 HO1 HI1
   simp only [encLb] at hV1
   rw [← hV1]
   clear hV1
   refine hK.out _ _ M1 (fun hHeld=>?_)
   clear hK K
   try simp only [Act.put,gp]
   refine rdy 5 rfl (fun K hK=>?_)
   have c4:=HD1.out.cells.2.2.2.2.1
   try simp only [ga]
   try go_simp
   refine hK.out _ _ M1 (fun hHeld=>?_)
   clear hK K
   try simp only [Act.put,gp]
   refine rdy 14 rfl (fun K hK=>?_)
   have hbs:B≤V1.heap.size:=by have:=HD1.out.lt;omega
   refine aT V1 (by rfl) (.tmp 138) (.tmp 146) _ (by rfl) B 146 ia _ 2 24 Tryz.underlying81 hia hz0 hz1 hz2 rfl (by omega) (.slice d.lA d.labels.length d.lc) d.labels.length (flat encLb d.labels) (by rfl) HD1.out.labels aA (some ⟨V0.heap.size,0,none⟩) 1 1 (encLb (x1.text,((d.L.length:Nat):Int))) (by rfl) (aY HI1.out (fun h=>h)) rfl (qO _) (by simp only [maxLen];omega) (by omega) hbs ?_
   intro v3 V3 hown2 hgr how2
   obtain ⟨A4,c4,rfl,hc4⟩:=aW hown2
   rw [aB] at hgr
   have HG3:=hide hgr
   have HOw3:=hide hown2
   have HBk3:=hide (grownBlk (v:=.slice d.lA d.labels.length d.lc) HD1.out.blk (by rw [aB];exact hgr) HD1.out.labels (by decide))
   have hM3:V3.cell? ⟨gw,3,none⟩=some (.string (bs x1.text)):=by
    have q:=(OnB.of (B:=B) (aG hgr) (fun g hg=>aU HD1.out.labels g (by rw [aB];exact hg)) (fun g hg=>aZ HD1.out.labels (by rw [aB];exact hg)) (T:=146) rfl).own ((show OnB B X V1 by exact HX1.out).own HWx.out rfl) rfl
    exact q.cellAt 3 (by omega)
   clear hgr hown2 how2
   refine hK.out _ _ hM3 (fun hHeld=>?_)
   clear hK K
   refine tk 15 ?_ rfl ?_ ?_
   rotate_left
   ·(intro w9 hS9;(try simp only [ga]);go_simp<;>rfl)
   refine tk 16 ?_ rfl ?_ ?_
   rotate_left
   ·(intro w9 hS9;(try simp only [ga]);go_simp<;>rfl)
   try simp only [Act.put,gp]
   refine rdy 17 rfl (fun K hK=>?_)
   have z4:V3.cell? ⟨a,4,none⟩=some (.slice d.lA d.labels.length d.lc):=by rw [HBk3.out.cell];rfl
   have y4:=HBk3.out.frozen 4
   try simp only [ga]
   try go_simp
   have HL:=hide (HD1.out.label (d':={ d with labels:=d.labels++[(x1.text,((d.L.length:Nat):Int))],lA:=A4,lc:=c4 }) HG3.out HOw3.out rfl)
   have hM4:(V3.setCell ⟨a,4,none⟩ (.slice A4 (d.labels.length + 1) c4)).cell? ⟨gw,3,none⟩=some (.string (bs x1.text)):=by
    have q:=HL.out.2.own ((show OnB B X V1 by exact HX1.out).own HWx.out rfl) rfl
    exact q.cellAt 3 (by omega)
   refine hK.out _ _ hM4 (fun hHeld=>?_)
   clear hK K
   refine tk 18 ?_ rfl ?_ ?_
   rotate_left
   ·(intro w9 hS9;(try simp only [ga]);go_simp<;>rfl)
   refine tk 19 ?_ rfl ?_ ?_
   rotate_left
   ·(intro w9 hS9;(try simp only [ga]);go_simp<;>rfl)
   try simp only [Act.put,gp]
   refine rdy 20 rfl (fun K hK=>?_)
   obtain ⟨V5,hV5⟩:∃ V9,V9=V3.setCell ⟨a,4,none⟩ (.slice A4 (d.labels.length + 1) c4):=⟨_,rfl⟩
   have HD5:=hide (show DAt V5 B a { d with labels:=d.labels++[(x1.text,((d.L.length:Nat):Int))],lA:=A4,lc:=c4 } by rw [hV5];exact HL.out.1)
   have HO5:=hide (show OnB B w V5 by rw [hV5];exact HO1.out.trans HL.out.2)
   have HX5:=hide (show OnB B X V5 by rw [hV5];exact (show OnB B X V1 by exact HX1.out).trans HL.out.2)
   rw [← hV5]
   clear hV5 z4 y4
   have z7:=HD5.out.cells.2.2.2.2.2.2.2.1
   have y7:=HD5.out.frozen 7
   try simp only [ga]
   try go_simp
   have HC:=hide (HD5.out.cell (d':={ d with labels:=d.labels++[(x1.text,((d.L.length:Nat):Int))],lA:=A4,lc:=c4,opn:=false }) 7 (.bool false) rfl)
   have hM6:(V5.setCell ⟨a,7,none⟩ (.bool false)).cell? ⟨gw,3,none⟩=some (.string (bs x1.text)):=by
    have q:=HC.out.2.own (HX5.out.own HWx.out rfl) rfl
    exact q.cellAt 3 (by omega)
   refine hK.out _ _ hM6 (fun hHeld=>?_)
   clear hK K
   try simp only [Act.put,gp]
   refine wpAnyH_done (by kernel_rfl) ?_ _
   try simp only [Exit.then]
   clear hHeld
   go_wp2_with fail
   refine bodyPost_ret (v:=.tuple #[]) (by simp [results,Tryz.results78,go_sem]) rfl ?_
   exact ⟨rfl,⟨_,HC.out.1,by rw [HE.out];rfl⟩,HO5.out.trans HC.out.2⟩
end Go.Proofs.YtaioaojfdngfdaaGreatDoor
