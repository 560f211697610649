/- Parts of a chain of lemmas: Ld9, Live17, LoadFaultsW. Conditions: those of each theorem. -/
import Derived.Test.YtaioaojfdngfdaaGreatDoorPg47
import Derived.BigRegion
import Derived.Test.YtaioaojfdngfdaaGreatDoorPg49
import Derived.Test.YtaioaojfdngfdaaGreatDoorPg42
import Derived.Test.YtaioaojfdngfdaaGreatDoorPg09
set_option linter.unusedVariables false
set_option linter.unusedSimpArgs false
set_option maxHeartbeats 51200000
namespace Go.Proofs.YtaioaojfdngfdaaGreatDoor
open Go.RowKit
def okS (s:ScrM):Bool:=decide (s.err=0)
def fZ (l:List ScrM):Nat:=l.countP okS
theorem t6 (V:List ScrV) (k:Nat) (h:k < V.length):fZ ((V.take (k + 1)).map (·.m))=fZ ((V.take k).map (·.m)) + (if (eD V k).err=0 then 1 else 0):=by
 unfold fZ
 rw [List.take_add_one,iL h,List.map_append,List.countP_append]
 congr 1
 by_cases he:(eD V k).err=0
 ·rw [if_pos he]
  simp [okS,ScrV.m,he]
 ·rw [if_neg he]
  simp [okS,ScrV.m,he]
theorem right_le (l:List ScrM):fZ l≤l.length:=List.countP_le_length
def sB (p:ProgM):Prop:=p.ops.length≤200∧∀ o ∈ p.ops,o.arms.length≤100
theorem uJ (p:PartM) (o:List ScrM):sB (gR p o).prog:=by
 unfold gR fF
 have h0:sB cI:=⟨by simp [cI],fun o h=>by cases h⟩
 split
 ·exact h0
 ·next h =>
  split
  ·exact h0
  ·have h1:(dH (Lib.join p.l [10])).2.2=0:=by
    rcases Decidable.em ((dH (Lib.join p.l [10])).2.2=0) with h2 | h2
    ·exact h2
    ·exact absurd h2 h
   have h2:=good_sz (p:=(dH (Lib.join p.l [10])).1) (by rw [kO] at h1 ⊢;exact sM _ h1)
   exact ⟨h2.1,fun o ho=>(h2.2.2 o ho).1⟩
theorem lI:∀ (l:List PartM) (o:List ScrM),(∀ s ∈ o,sB s.prog)→∀ s ∈ readAll l o,sB s.prog
 | [],o,h=>h
 | p :: r,o,h=>lI r _ fun s hs=>by
  rcases List.mem_append.1 hs with hs | hs
  ·exact h s hs
  ·rw [List.mem_singleton] at hs
   subst hs
   exact uJ p o
theorem load_tame (t:List UInt8):∀ s ∈ (eW t).1,sB s.prog:=by
 unfold eW
 split
 ·intro s hs;cases hs
 ·split
  ·intro s hs;cases hs
  ·exact lI _ _ (fun s hs=>by cases hs)
theorem load_len (t:List UInt8):(eW t).1.length≤64:=by
 unfold eW
 split
 ·simp
 ·split
  ·simp
  ·next h =>
   simp only
   rw [jD]
   simp
   omega
set_option maxRecDepth 100000 in
theorem Right_c (M:Nat→Prop) (A:Option Addr) (c:Nat) (l:List ScrV) (w:World) (hr:Rd w M A (flat encScr l)) (hn0:l.length≤1000000) :
 Calls Tryz.prog 23 #[.slice A l.length c] w fun e w'=>e=.returned (.int .i64 (fZ (l.map (·.m)):Nat))∧Below w.heap.size w w':=by
 have Hc:=hide (fun k hk=>eN hr k hk)
 have HNx:=hide (t6 l)
 have HLe:=hide (fun k=>right_le ((l.take k).map (·.m)))
 obtain ⟨n,hnl⟩:∃ n,n=l.length:=⟨_,rfl⟩
 have HR:=hide (show fZ (l.map (·.m))=fZ ((l.take n).map (·.m)) by rw [hnl,List.take_length])
 obtain ⟨R,hR⟩:∃ R,R=fZ (l.map (·.m)):=⟨_,rfl⟩
 rw [← hR] at HR ⊢
 rw [← hnl] at hn0 HNx Hc ⊢
 clear hr hnl hR
 go_enter Tryz.func23,Tryz.ntmps23
 go_wp2_with fail
 go_loopw [3,5,8] (fun q _ i wr=>∃ k N:Nat,k≤n∧N≤k∧i=.int .i64 k∧q=.int .i64 N∧Hid (N=fZ ((l.take k).map (·.m)))∧Hid (Below w.heap.size w wr)) (fun _ _ i _=>n - (intOf i).toNat)
 case atStart=>exact ⟨0,0,Nat.zero_le _,Nat.le_refl _,rfl,rfl,hide (by rfl),hide (Below.refl _ _)⟩
 case round =>
  obtain ⟨k,N,hk,hNk,rfl,rfl,HN,hbel⟩:=hrel
  have w1:IntKind.i64.wrap ((k:Int) + 1)=(k:Int) + 1:=IntWalk.i64_in _ (by omega)
  have w2:IntKind.i64.wrap ((N:Int) + 1)=(N:Int) + 1:=IntWalk.i64_in _ (by omega)
  by_cases hlt2:k < n
  ·obtain ⟨b2,o,rfl,hb2,_,hc⟩:=Hc.out k hlt2
   have hnx:=HNx.out k hlt2
   obtain ⟨v,hv⟩:∃ v,v=eD l k:=⟨_,rfl⟩
   rw [← hv] at hc hnx
   have gc:∀ j,j < 8→wr.cell? ⟨b2,o + k * 8 + j,none⟩=(encScr v)[j]?:=fun j hj=>(Only.cell (Only.of_below hbel.out aA) (p:=⟨b2,o + k * 8 + j,none⟩) hb2 (fun h=>h)).trans (hc j hj)
   have g0:wr.cell? ⟨b2,o + k * 8,none⟩=some (.string v.nm):=gc 0 (by omega)
   have g1:wr.cell? ⟨b2,o + k * 8 + 1,none⟩=some (.int .i64 v.d):=gc 1 (by omega)
   have g2:wr.cell? ⟨b2,o + k * 8 + 2,none⟩=some (.int .i64 v.j):=gc 2 (by omega)
   have g3:wr.cell? ⟨b2,o + k * 8 + 3,none⟩=some (.slice v.A v.L.length v.c):=gc 3 (by omega)
   have g4:wr.cell? ⟨b2,o + k * 8 + 4,none⟩=some (.int .i64 v.line):=gc 4 (by omega)
   have g5:wr.cell? ⟨b2,o + k * 8 + 5,none⟩=some (.int .i64 v.x):=gc 5 (by omega)
   have g6:wr.cell? ⟨b2,o + k * 8 + 6,none⟩=some (.int .i64 v.y):=gc 6 (by omega)
   have g7:wr.cell? ⟨b2,o + k * 8 + 7,none⟩=some (.int .i64 v.err):=gc 7 (by omega)
   have d1:decide ((k:Int) < (n:Int))=true:=by simp;exact hlt2
   have d2:decide (k < n)=true:=by simp;exact hlt2
   have j1:(0:Int)≤(k:Int):=by omega
   have j2:(k:Int) < (n:Int):=by omega
   have HBn:=hide (hbel.out.alloc hbel.out.size (.cells (encScr v).toArray 45))
   by_cases he:v.err=0
   ·have HN2:=hide (show N + 1=fZ ((l.take (k + 1)).map (·.m)) by rw [hnx,← HN.out,if_pos he])
    have q1:(v.err == 0)=true:=by rw [he];rfl
    clear hc gc hv hnx he hlt2
    go_wp2_with fail
    go_roundw
    case rel=>exact ⟨k + 1,N + 1,by omega,by omega,by go_num,by go_num,HN2,HBn⟩
    case measure=>simp [intOf]<;>omega
   ·have HN2:=hide (show N=fZ ((l.take (k + 1)).map (·.m)) by rw [hnx,← HN.out,if_neg he];rfl)
    have q1:(v.err == 0)=false:=beq_eq_false_iff_ne.2 he
    clear hc gc hv hnx he hlt2
    go_wp2_with fail
    go_roundw
    case rel=>exact ⟨k + 1,N,by omega,by omega,by go_num,rfl,HN2,HBn⟩
    case measure=>simp [intOf]<;>omega
  ·obtain rfl:k=n:=by omega
   have HI:=hide (show N=R by rw [HN.out,HR.out])
   have d1:decide ((k:Int) < (k:Int))=false:=by simp
   have d2:decide (k < k)=false:=by simp
   go_wp2_with fail
   go_ret
   exact ⟨by rw [← HI.out];rfl,hbel.out⟩
def oG:List UInt8:=[115,99,114,105,112,116,32,97,32,57,32,48,10,115,99,114,105,112,116,32,98,32,120,32,48,10,115,99,114,105,112,116,32,99,32,57,32,48,10]
theorem uY:(eW oG).2=0:=by decide +kernel
theorem x7:(eW oG).1.map (fun s=>(s.prog.name.data.toList,s.x,s.y,s.err))=[([97],0,0,0),([],2,10,2),([99],0,0,0)]:=by decide +kernel
theorem live17_c (w:World) (h:Vars w):Calls Tryz.prog 21 #[.string ⟨#[115,99,114,105,112,116,32,97,32,57,32,48,10,115,99,114,105,112,116,32,98,32,120,32,48,10,115,99,114,105,112,116,32,99,32,57,32,48,10]⟩] w fun e w'=>(∃ b o c,e=.returned (.tuple #[.slice (some ⟨b,o,none⟩) 3 c,.int .i64 0])∧w'.cell? ⟨b,o,none⟩=some (.string ⟨#[97]⟩)∧w'.cell? ⟨b,o + 8 + 7,none⟩=some (.int .i64 2)∧w'.cell? ⟨b,o + 8 + 5,none⟩=some (.int .i64 2)∧w'.cell? ⟨b,o + 8 + 6,none⟩=some (.int .i64 10)∧w'.cell? ⟨b,o + 16,none⟩=some (.string ⟨#[99]⟩))∧Only aA w w':=by
 refine (Load_c ⟨oG.toArray⟩ w (by decide) h).mono ?_
 rintro e w' ⟨⟨A,c,S,rfl,hS,hr,_⟩,k⟩
 refine ⟨?_,k⟩
 have hS':S.map (·.m)=(eW oG).1:=hS
 have e1:=x7
 rw [← hS',List.map_map] at e1
 have hl:S.length=3:=by have:=congrArg List.length e1;rw [List.length_map] at this;exact this
 obtain ⟨v0,v1,v2,rfl⟩:∃ v0 v1 v2,S=[v0,v1,v2]:=by
  match S,hl with
  | [a,b,c],_=>exact ⟨a,b,c,rfl⟩
 obtain ⟨b,o,rfl,_,_,hc0⟩:=eN hr 0 (by simp)
 obtain ⟨b',o',hA,_,_,hc1⟩:=eN hr 1 (by simp)
 injection hA with hA;injection hA with h1 h2;subst h1 h2
 obtain ⟨b',o',hA,_,_,hc2⟩:=eN hr 2 (by simp)
 injection hA with hA;injection hA with h1 h2;subst h1 h2
 have q0:=congrArg (fun l=>l[0]?) e1
 have q1:=congrArg (fun l=>l[1]?) e1
 have q2:=congrArg (fun l=>l[2]?) e1
 have q0':=Option.some.inj q0
 have q1':=Option.some.inj q1
 have q2':=Option.some.inj q2
 have n0:v0.m.prog.name.data.toList=[97]:=congrArg (·.1) q0'
 have n2:v2.m.prog.name.data.toList=[99]:=congrArg (·.1) q2'
 have x1:v1.m.x=2:=congrArg (·.2.1) q1'
 have y1:v1.m.y=10:=congrArg (·.2.2.1) q1'
 have r1:v1.m.err=2:=congrArg (·.2.2.2) q1'
 have hn:∀ (v:ScrV) (l:List UInt8),(v.m.prog.name.data.toList)=l→v.nm=⟨l.toArray⟩:=fun v l h=>by subst h;rfl
 refine ⟨b,o,c,?_,?_,?_,?_,?_,?_⟩
 ·show Ending.returned (.tuple #[_,.int .i64 (eW oG).2])=_
  rw [uY];rfl
 ·have:=hc0 0 (by omega)
  simp only [Nat.zero_mul,Nat.add_zero] at this
  rw [this]
  show some (Value.string v0.nm)=_
  rw [hn v0 _ n0]
 ·have:=hc1 7 (by omega)
  rw [this]
  show some (Value.int .i64 v1.err)=_
  rw [show v1.err=2 from r1]
 ·have:=hc1 5 (by omega)
  rw [this]
  show some (Value.int .i64 v1.x)=_
  rw [show v1.x=2 from x1]
 ·have:=hc1 6 (by omega)
  rw [this]
  show some (Value.int .i64 v1.y)=_
  rw [show v1.y=10 from y1]
 ·have:=hc2 0 (by omega)
  rw [show o + 16=o + 2 * 8 + 0 by omega,this]
  show some (Value.string v2.nm)=_
  rw [hn v2 _ n2]
set_option maxRecDepth 100000 in
theorem x6 (w:World) (h:Vars w):Calls Tryz.prog 22 #[] w fun e w'=>e=.returned (.bool true)∧Only aA w w':=by
 have H1:=hide (live17_c w h)
 clear h
 go_enter Tryz.func22,Tryz.ntmps22
 go_wp2_with fail
 refine H1.out.mono ?_
 rintro e w1 ⟨⟨b,o,c,rfl,c0,c1,c2,c3,c4⟩,k1⟩
 have K1:=hide k1
 clear k1
 have c1':w1.cell? ⟨b,o + 15,none⟩=some (.int .i64 2):=c1
 have c2':w1.cell? ⟨b,o + 13,none⟩=some (.int .i64 2):=c2
 have c3':w1.cell? ⟨b,o + 14,none⟩=some (.int .i64 10):=c3
 go_wp2_with fail
 go_ret
 exact ⟨rfl,K1.out⟩
set_option maxRecDepth 100000 in
theorem LoadFaults_walk (s0:ByteArray) (w:World) (hs:s0.size≤9223372036854775807) (hv:Vars w) (ht:Tab w) (hE:EV w):Calls Tryz.prog 9 #[.string s0] w fun e w'=>e=.returned (.bool true)∧Only aA w w':=by
 have HV:=hide hv
 have HTb:=hide (fun (X:World) (k:Only aA w X)=>(show Tab X from ht.only k))
 have HEv:=hide (fun (X:World) (k:Only aA w X)=>hE.only k)
 have HCt:=hide (cut02_c s0 700 w hs)
 clear hv hs ht hE
 go_enter Tryz.func9,Tryz.ntmps9
 go_wp2_with fail
 refine HCt.out.mono ?_
 rintro e wz ⟨⟨t,rfl,ht⟩,hwz⟩
 obtain rfl:=hwz.symm
 have HP1:=hide (fun (X:World) (k:Only aA w X)=>Load_c t X (by omega) (HV.out.only k))
 have HP2:=hide (fun (X:World)=>xF t X (by omega))
 rw [← x5] at HP2
 have HLn:=hide (load_len t.data.toList)
 obtain ⟨P,hP⟩:∃ P,P=eW t.data.toList:=⟨_,rfl⟩
 rw [← hP] at HP1 HP2 HLn
 obtain ⟨C,E⟩:=P
 simp only at HP1 HP2 HLn
 clear hP ht HCt
 go_wp2_with fail
 refine (HP1.out _ (Only.refl _ _)).mono ?_
 rintro e w1 ⟨⟨A1,c1,S1,rfl,hS1,hr1,ho1⟩,k1⟩
 have HS1:=hide hS1
 have HR1:=hide (show Rd w1 aA A1 (flat encScr S1) from hr1.mono (fun _ h=>h.elim))
 have K1:=hide k1
 clear hS1 hr1 ho1 k1
 go_wp2_with fail
 refine (HP2.out w1).mono ?_
 rintro e w2 ⟨⟨A2,c2,S2,rfl,hS2,hr2,ho2⟩,k2⟩
 have HS2:=hide hS2
 have HR2:=hide (show Rd w2 aA A2 (flat encScr S2) from hr2.mono (fun _ h=>h.elim))
 have K2:=hide (K1.out.trans k2)
 have HR12:=hide (HR1.out.only k2 (fun _ h=>h))
 have hn1:S1.length≤64:=by have:=HLn.out;rw [← HS1.out,List.length_map] at this;exact this
 have hl12:S1.length=S2.length:=by have h:=congrArg List.length (HS1.out.trans HS2.out.symm);rw [List.length_map,List.length_map] at h;exact h
 obtain ⟨f,hf⟩:∃ f:Nat→ScrM,f=fun k=>(eD S2 k).m:=⟨_,rfl⟩
 have hfe:fA (fun k=>(eD S1 k).m) S1.length=fA f S2.length:=by
  rw [hl12]
  refine oJ _ (fun j hj=>?_)
  rw [hf]
  show (eD S1 j).m=(eD S2 j).m
  rw [mA (show j < S1.length by omega),mA hj]
  have e1:(S1.map (·.m))[j]?=(S2.map (·.m))[j]?:=by rw [HS1.out,HS2.out]
  rw [List.getElem?_map,List.getElem?_map,List.getElem?_eq_getElem (show j < S1.length by omega),List.getElem?_eq_getElem hj] at e1
  exact Option.some.inj e1
 have HFc:=hide (Faults_c A1 c1 S1 w2 HR12.out hn1 (HTb.out _ K2.out))
 rw [hfe] at HFc
 have hn2:S2.length≤64:=by omega
 have HF:=hide (show ∀ k,f k=(eD S2 k).m from fun k=>by rw [hf])
 clear hS2 hr2 ho2 k2 HR1 HR12 HP1 HP2 hfe hf hn1 hl12 HS1 HS2 HLn K1
 go_wp2_with fail
 refine HFc.out.mono ?_
 rintro e w3 ⟨⟨Bx,cx,vals,rfl,hrx,hfx⟩,k3⟩
 have K3:=hide (K2.out.trans k3)
 have HR3:=hide (HR2.out.only k3 (fun _ h=>h))
 have HRx:=hide hrx
 have HFx:=hide hfx
 have hvl:vals.length=(fA f S2.length).length:=hfx.1
 obtain ⟨n,hn⟩:∃ n,n=S2.length:=⟨_,rfl⟩
 rw [← hn] at hvl hn2 HFx ⊢
 have Hc:=hide (fun k (hk:k < n)=>eN HR3.out k (by rw [← hn];exact hk))
 obtain ⟨m,hm⟩:∃ m,m=vals.length:=⟨_,rfl⟩
 rw [← hm] at hvl ⊢
 have Hm:=hide hm
 have HVl:=hide hvl
 have hm64:m≤64:=by have:=tD f n;omega
 have HLv:=hide (fun (X:World) (q:Only aA w X)=>x6 X (HV.out.only q))
 clear k3 hrx hfx hn hm hvl HFc HR2 HR3 HV HTb K2
 go_wp2_with fail
 go_loopw [8,9,10,11,12,13] (fun kk ii _ _ _ _ wr=>∃ i K:Nat,i≤n∧K≤i∧ii=.int .i64 i∧kk=.int .i64 K∧Hid (K=(fA f i).length)∧Hid (Only aA w3 wr)) (fun _ ii _ _ _ _ _=>n - (intOf ii).toNat)
 case atStart=>exact ⟨0,0,Nat.zero_le _,Nat.le_refl _,rfl,rfl,hide (by rfl),hide (Only.refl _ _)⟩
 case round =>
  obtain ⟨i,K,hi,hK,rfl,rfl,HK,HO⟩:=hrel
  have u1:IntKind.i64.wrap ((i:Int) + 1)=(i:Int) + 1:=IntWalk.i64_in _ (by omega)
  have u2:IntKind.i64.wrap ((K:Int) + 1)=(K:Int) + 1:=IntWalk.i64_in _ (by omega)
  by_cases hlt:i < n
  case neg =>
   obtain rfl:n=i:=by omega
   have d1:decide ((n:Int) < (n:Int))=false:=by simp
   have d2:decide (n < n)=false:=by simp
   have hKm:K=m:=by rw [HK.out,HVl.out]
   have e1:((K:Int) == (m:Int))=true:=by rw [hKm];simp
   clear hKm hlt
   go_wp2_with fail
   refine (HLv.out _ (K3.out.trans HO.out)).mono ?_
   rintro e w9 ⟨rfl,k9⟩
   have K9:=hide (K3.out.trans (HO.out.trans k9))
   clear k9
   go_wp2_with fail
   go_ret
   exact ⟨rfl,K9.out⟩
  case pos =>
   obtain ⟨b2,o2,rfl,hb2,_,hc⟩:=Hc.out i hlt
   have hfi:=HF.out i
   obtain ⟨v,hv⟩:∃ v,v=eD S2 i:=⟨_,rfl⟩
   rw [← hv] at hc hfi
   have hc':∀ X,Only aA w3 X→∀ j,j < 8→X.cell? ⟨b2,o2 + i * 8 + j,none⟩=(encScr v)[j]?:=fun X q j hj=>(q.cell (p:=⟨b2,o2 + i * 8 + j,none⟩) hb2 (fun h=>h)).trans (hc j hj)
   have g7:wr.cell? ⟨b2,o2 + i * 8 + 7,none⟩=some (.int .i64 v.err):=hc' wr HO.out 7 (by omega)
   have HC8:=hide hc'
   have d1:decide ((i:Int) < (n:Int))=true:=by simp;exact hlt
   have d2:decide (i < n)=true:=by simp;exact hlt
   have j1:(0:Int)≤(i:Int):=by omega
   have j2:(i:Int) < (n:Int):=by omega
   have Hfi:=hide hfi
   clear hc hc' hv hfi hb2
   by_cases he:v.err=0
   case pos =>
    have q1:(v.err == 0)=true:=by rw [he];rfl
    have HK2:=hide (show K=(fA f (i + 1)).length by rw [iG,Hfi.out,if_pos (show v.m.err=0 from he),List.append_nil];exact HK.out)
    clear he
    go_wp2_with fail
    go_roundw
    case rel=>exact ⟨i + 1,K,by omega,by omega,by go_num,rfl,HK2,HO⟩
    case measure=>simp [intOf]<;>omega
   case neg =>
    have q1:(v.err == 0)=false:=beq_eq_false_iff_ne.2 he
    have HK2:=hide (show K + 1=(fA f (i + 1)).length by rw [iG,Hfi.out,if_neg (show ¬ v.m.err=0 from he),List.length_append,← HK.out];rfl)
    have hat:=fltT_at f hlt (by rw [Hfi.out];exact he)
    rw [← HK.out,Hfi.out] at hat
    have hKm:K < m:=by
     rw [HVl.out]
     rcases Nat.lt_or_ge K (fA f n).length with h | h
     ·exact h
     ·rw [List.getElem?_eq_none h] at hat;cases hat
    have hKv:K < vals.length:=by rw [← Hm.out];exact hKm
    obtain ⟨bx,ox,rfl,_,hbx,hcx⟩:=HRx.out.at_ (j:=K) hKv
    have hin:=HFx.out.2 K vals[K] (i,v.m) (List.getElem?_eq_getElem hKv) hat
    obtain ⟨vv,hvv⟩:∃ vv,vv=vals[K]:=⟨_,rfl⟩
    have hx0:w3.cell? ⟨bx,ox + K,none⟩=some vv:=by rw [hcx K hKv,hvv,List.getElem?_eq_getElem hKv]
    rw [← hvv] at hin
    obtain ⟨ib,uu,rfl,hin2⟩:=hin
    have hin:InV w3 (.iface 111 (.pointer (some ⟨ib,0,none⟩))) (bs (Lib.decDigits i)) v.x v.y v.err:=⟨ib,uu,rfl,hin2⟩
    obtain ⟨vt,hvt⟩:∃ vt,vt = 111:=⟨_,rfl⟩
    obtain ⟨vp,hvp⟩:∃ vp:Value,vp=.pointer (some ⟨ib,0,none⟩):=⟨_,rfl⟩
    rw [← hvt,← hvp] at hin hx0
    have HIn:=hide (fun (X:World) (q:Only aA w3 X)=>hin.only q)
    have HXc:=hide (fun (X:World) (q:Only aA w3 X)=>(q.cell (p:=⟨bx,ox + K,none⟩) hbx (fun h=>h)).trans hx0)
    have HEr:=hide (fun (X:World) (q:Only aA w3 X)=>HEv.out X (K3.out.trans q))
    have x0:=HXc.out wr HO.out
    have e1:decide ((K:Int) ≥ (m:Int))=false:=by simp;omega
    have e2:decide ((m:Int)≤(K:Int))=false:=by simp;omega
    have e3:decide (m≤K)=false:=by simp;omega
    have j3:(0:Int)≤(K:Int):=by omega
    have j4:(K:Int) < (m:Int):=by omega
    have HWh:=hide (where_c _ _ _ _ _ wr (HIn.out wr HO.out) (HEr.out wr HO.out))
    clear he hin hin2 hvv hvt hvp hat hKv hcx hbx hx0
    go_wp2_with fail
    refine HWh.out.mono ?_
    rintro e w4 ⟨rfl,k4⟩
    have HO4:=hide (HO.out.trans k4)
    clear k4 x0 g7 HWh
    go_upto_region 12 with fail
    obtain ⟨Y,hY⟩:∃ Y,Y=w4.alloc (.cells #[.int .i64 v.x,.int .i64 v.y] 27):=⟨_,rfl⟩
    obtain ⟨g,hg⟩:∃ g,g=w4.heap.size:=⟨_,rfl⟩
    have HYb:=hide (show Blk Y g 27 #[.int .i64 v.x,.int .i64 v.y] by rw [hY,hg];exact Blk.new _ _ _)
    have HO5:=hide (show Only aA w3 Y by rw [hY];exact HO4.out.alloc _)
    rw [← hY,← hg]
    clear hY hg
    have x0:=HXc.out Y HO5.out
    have HWo:=hide (who_c _ _ _ _ _ Y (HIn.out Y HO5.out) (HEr.out Y HO5.out))
    go_wp2_with fail
    refine HWo.out.mono ?_
    rintro e w6 ⟨rfl,k6⟩
    have HO6:=hide (HO5.out.trans k6)
    have HY6:=hide (HYb.out.only k6 (fun h=>h))
    clear k6 x0 HWo
    have HCl:=hide (fun (X:World) (q:Only aA w6 X)=>(show X.cell? ⟨bx,ox + K,none⟩=some (.iface vt vp)∧X.cell? ⟨b2,o2 + i * 8 + 5,none⟩=some (.int .i64 v.x)∧X.cell? ⟨b2,o2 + i * 8 + 6,none⟩=some (.int .i64 v.y)∧X.cell? ⟨b2,o2 + i * 8 + 7,none⟩=some (.int .i64 v.err)∧X.cell? ⟨g,0,none⟩=some (.int .i64 v.x)∧X.cell? ⟨g,1,none⟩=some (.int .i64 v.y) from ⟨HXc.out X (HO6.out.trans q),HC8.out X (HO6.out.trans q) 5 (by omega),HC8.out X (HO6.out.trans q) 6 (by omega),HC8.out X (HO6.out.trans q) 7 (by omega),(HY6.out.only q (fun h=>h)).cell 0,(HY6.out.only q (fun h=>h)).cell 1⟩))
    have HCo:=hide (fun (X:World) (q:Only aA w6 X)=>code_c _ _ _ _ _ X (HIn.out X (HO6.out.trans q)) (HEr.out X (HO6.out.trans q)))
    have HNu:=hide (fun (X:World)=>num16_c i X (by omega))
    obtain ⟨D,hD⟩:∃ D,D=Lib.decDigits i:=⟨_,rfl⟩
    rw [← hD] at HNu ⊢
    clear hD
    have r1:(v.err != v.err)=false:=by simp
    have r2:(v.x == v.x)=true:=by simp
    have r3:(v.y == v.y)=true:=by simp
    go_upto_region 13 with fail
    refine wp_region_held (S:=fun X=>X.cell? ⟨bx,ox + K,none⟩=some (.iface vt vp)∧X.cell? ⟨b2,o2 + i * 8 + 5,none⟩=some (.int .i64 v.x)∧X.cell? ⟨b2,o2 + i * 8 + 6,none⟩=some (.int .i64 v.y)∧X.cell? ⟨b2,o2 + i * 8 + 7,none⟩=some (.int .i64 v.err)∧X.cell? ⟨g,0,none⟩=some (.int .i64 v.x)∧X.cell? ⟨g,1,none⟩=some (.int .i64 v.y)) (by kernel_rfl) ?_
    change wpAnyH _ _ _ _ _ _ _ _ w6.drew
    obtain ⟨V0,hV0⟩:∃ V0,V0=w6.drew:=⟨_,rfl⟩
    have J0:=hide (show Only aA w6 V0 by rw [hV0];exact (Only.refl aA w6).drew)
    have hHeld:=HCl.out V0 J0.out
    rw [← hV0]
    simp only [List.size_toArray,List.length_cons,List.length_nil,Nat.zero_add,Nat.reduceAdd]
    clear hV0
    refine tk 0 ?_ rfl ?_ ?_
    rotate_left
    ·(intro w9 hS9;(try simp only [ga]);go_simp<;>rfl)
    try simp only [Act.put,gp]
    refine tk 1 ?_ rfl ?_ ?_
    rotate_left
    ·(intro w9 hS9;(try simp only [ga]);go_simp<;>rfl)
    try simp only [Act.put,gp]
    refine tk 2 ?_ rfl ?_ ?_
    rotate_left
    ·(intro w9 hS9;(try simp only [ga]);go_simp<;>rfl)
    try simp only [Act.put,gp]
    refine tk 3 ?_ rfl ?_ ?_
    rotate_left
    ·(intro w9 hS9;(try simp only [ga]);go_simp<;>rfl)
    try simp only [Act.put,gp]
    refine tk 5 ?_ rfl ?_ ?_
    rotate_left
    ·(intro w9 hS9;(try simp only [ga]);go_simp<;>rfl)
    try simp only [Act.put,gp]
    refine tk 6 ?_ rfl ?_ ?_
    rotate_left
    ·(intro w9 hS9;(try simp only [ga]);go_simp<;>rfl)
    try simp only [Act.put,gp]
    refine tk 7 ?_ rfl ?_ ?_
    rotate_left
    ·(intro w9 hS9;(try simp only [ga]);go_simp<;>rfl)
    try simp only [Act.put,gp]
    refine tk 8 ?_ rfl ?_ ?_
    rotate_left
    ·(intro w9 hS9;(try simp only [ga]);go_simp<;>rfl)
    try simp only [Act.put,gp]
    refine tk 9 ?_ rfl ?_ ?_
    rotate_left
    ·(intro w9 hS9;(try simp only [ga]);go_simp<;>rfl)
    try simp only [Act.put,gp]
    refine rdy 4 rfl (fun K9 hK=>?_)
    try simp only [ga]
    try go_simp
    refine (HCo.out _ J0.out).mono ?_
    rintro e V1 ⟨rfl,k1⟩
    have J1:=hide (J0.out.trans k1)
    clear k1 hHeld
    refine hK.out _ _ (HCl.out V1 J1.out) (fun hHeld=>?_)
    clear hK K9
    try simp only [Act.put,gp]
    refine tk 10 ?_ rfl ?_ ?_
    rotate_left
    ·(intro w9 hS9;(try simp only [ga]);go_simp<;>rfl)
    try simp only [Act.put,gp]
    refine tk 11 ?_ rfl ?_ ?_
    rotate_left
    ·(intro w9 hS9;(try simp only [ga]);go_simp<;>rfl)
    try simp only [Act.put,gp]
    refine tk 12 ?_ rfl ?_ ?_
    rotate_left
    ·(intro w9 hS9;(try simp only [ga]);go_simp<;>rfl)
    try simp only [Act.put,gp]
    refine tk 13 ?_ rfl ?_ ?_
    rotate_left
    ·(intro w9 hS9;(try simp only [ga]);go_simp<;>rfl)
    try simp only [Act.put,gp]
    refine tk 14 ?_ rfl ?_ ?_
    rotate_left
    ·(intro w9 hS9;(try simp only [ga]);go_simp<;>rfl)
    try simp only [Act.put,gp]
    refine tk 15 ?_ rfl ?_ ?_
    rotate_left
    ·(intro w9 hS9;(try simp only [ga]);go_simp<;>rfl)
    try simp only [Act.put,gp]
    refine tk 16 ?_ rfl ?_ ?_
    rotate_left
    ·(intro w9 hS9;(try simp only [ga]);go_simp<;>rfl)
    try simp only [Act.put,gp]
    refine tk 17 ?_ rfl ?_ ?_
    rotate_left
    ·(intro w9 hS9;(try simp only [ga]);go_simp<;>rfl)
    try simp only [Act.put,gp]
    refine tk 18 ?_ rfl ?_ ?_
    rotate_left
    ·(intro w9 hS9;(try simp only [ga]);go_simp<;>rfl)
    try simp only [Act.put,gp]
    refine tk 19 ?_ rfl ?_ ?_
    rotate_left
    ·(intro w9 hS9;(try simp only [ga]);go_simp<;>rfl)
    try simp only [Act.put,gp]
    refine tk 20 ?_ rfl ?_ ?_
    rotate_left
    ·(intro w9 hS9;(try simp only [ga]);go_simp<;>rfl)
    try simp only [Act.put,gp]
    refine tk 21 ?_ rfl ?_ ?_
    rotate_left
    ·(intro w9 hS9;(try simp only [ga]);go_simp<;>rfl)
    try simp only [Act.put,gp]
    refine tk 22 ?_ rfl ?_ ?_
    rotate_left
    ·(intro w9 hS9;(try simp only [ga]);go_simp<;>rfl)
    try simp only [Act.put,gp]
    refine tk 23 ?_ rfl ?_ ?_
    rotate_left
    ·(intro w9 hS9;(try simp only [ga]);go_simp<;>rfl)
    try simp only [Act.put,gp]
    refine tk 24 ?_ rfl ?_ ?_
    rotate_left
    ·(intro w9 hS9;(try simp only [ga]);go_simp<;>rfl)
    try simp only [Act.put,gp]
    refine tk 25 ?_ rfl ?_ ?_
    rotate_left
    ·(intro w9 hS9;(try simp only [ga]);go_simp<;>rfl)
    try simp only [Act.put,gp]
    refine tk 26 ?_ rfl ?_ ?_
    rotate_left
    ·(intro w9 hS9;(try simp only [ga]);go_simp<;>rfl)
    try simp only [Act.put,gp]
    refine rdy 27 rfl (fun K9 hK=>?_)
    try simp only [ga]
    try go_simp
    refine (HNu.out _).mono ?_
    rintro e V2 ⟨rfl,k1⟩
    obtain rfl:=k1.symm
    refine hK.out _ _ (HCl.out V1 J1.out) (fun hHeld=>?_)
    clear hK K9
    try simp only [Act.put,gp]
    refine tk 28 ?_ rfl ?_ ?_
    rotate_left
    ·(intro w9 hS9;(try simp only [ga]);go_simp<;>rfl)
    try simp only [Act.put,gp]
    refine tk 29 ?_ rfl ?_ ?_
    rotate_left
    ·(intro w9 hS9;(try simp only [ga]);go_simp<;>rfl)
    try simp only [Act.put,gp]
    refine tk 30 ?_ rfl ?_ ?_
    rotate_left
    ·(intro w9 hS9;(try simp only [ga]);go_simp<;>rfl)
    try simp only [Act.put,gp]
    refine tk 31 ?_ rfl ?_ ?_
    rotate_left
    ·(intro w9 hS9;(try simp only [ga]);go_simp<;>rfl)
    try simp only [Act.put,gp]
    refine tk 32 ?_ rfl ?_ ?_
    rotate_left
    ·(intro w9 hS9;(try simp only [ga]);go_simp<;>rfl)
    try simp only [Act.put,gp]
    refine tk 33 ?_ rfl ?_ ?_
    rotate_left
    ·(intro w9 hS9;(try simp only [ga]);go_simp<;>rfl)
    try simp only [Act.put,gp]
    refine wpAnyH_done (by kernel_rfl) ?_ _
    try simp only [Exit.then]
    clear hHeld
    go_wp2_with fail
    go_roundw
    case rel=>exact ⟨i + 1,K + 1,by omega,by omega,by go_num,by go_num,HK2,hide (HO6.out.trans J1.out)⟩
    case measure=>simp [intOf]<;>omega
end Go.Proofs.YtaioaojfdngfdaaGreatDoor
