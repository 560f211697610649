/- A script of lines, by the document. Conditions: those of each theorem. -/
import Derived.Test.YtaioaojfdngfdaaGreatDoorPg47
import Derived.Test.YtaioaojfdngfdaaGreatDoorPg46
import Derived.BigRegion
set_option linter.unusedVariables false
set_option linter.unusedSimpArgs false
set_option maxHeartbeats 25600000
namespace Go.Proofs.YtaioaojfdngfdaaGreatDoor
open Go.RowKit
theorem idxS_one (l:List (List UInt8)):0≤dL l∨dL l = -1:=by
 unfold dL
 split
 ·left;omega
 ·right;rfl
set_option maxRecDepth 100000 in
theorem nM (ln:Nat) (A:Option Addr) (c:Nat) (l:List (List UInt8)) (oA:Option Addr) (oc:Nat) (V:List ScrV) (w:World) (hr:Rd w aA A (flat encLn l)) (hz:szP l≤50000) (hln:ln≤50000)
 (hv:Rd w aA oA (flat encScr V)) (hn:V.length≤100000) :
 Calls Tryz.prog 50 #[.slice A l.length c,.int .i64 (ln:Nat),.slice oA V.length oc] w fun e w'=>(∃ v:ScrV,e=.returned (.tuple #[.agg (encScr v).toArray,.bool (dV l)])∧v.m=gR ⟨ln,l⟩ (V.map (·.m))∧OpsRd w' (· < w.heap.size) v.A v.L)∧Only aA w w':=by
 have hil:=lE l
 have HPc:=hide (fun (X:World)=>rC (bs (Lib.join l [10])) X (by have:=hG l;show (Lib.join l [10]).length≤_;omega))
 have HFd:=hide (fun (X:World) (k:Only aA w X) (nm:ByteArray)=>sJ aA oA oc V nm X (hv.only k (fun _ h=>h)) (by omega))
 have HIdl:=hide (fun (s:List UInt8) (X:World)=>pZ (bs s) X)
 have hxl:=nV (Lib.join l [10])
 have hxl2:=eP (Lib.join l [10]) []
 have hxl3:=hG l
 have hid : -1≤dL l∧dL l≤1000000:=by rcases rH l with h | h<;>omega
 have HRM:=hide (show gR ⟨ln,l⟩ (V.map (·.m))=fF (dH (Lib.join l [10])) ⟨ln,l⟩ (V.map (·.m)) from rfl)
 have HSz:=hide (fun (k:Nat) (hk:k≤l.length)=>(show (Lib.join (l.take k) [10]).length≤50000 by
  have h1:=hG (l.take k)
  have h2:szP l=szP (l.take k) + szP (l.drop k):=by rw [← fD,List.take_append_drop]
  omega))
 have HSl:=hide (fun (k:Nat) (hk:k < l.length)=>(show (l.getD k []).length≤50000 by
  have e:l.getD k []=l[k]:=by simp [List.getD,hk]
  have h2:szP l=szP (l.take k) + szP (l.drop k):=by rw [← fD,List.take_append_drop]
  have h3:szP (l.drop k)=szP [l[k]] + szP (l.drop (k + 1)):=by rw [← fD,List.drop_eq_getElem_cons hk];rfl
  have h4:szP [l[k]]=l[k].length + 1:=by simp [szP]
  rw [e];omega))
 have HJ1:=hide (fun (h:0 < l.length)=>(show Lib.join (l.take 1) [10]=l.getD 0 [] by
  cases l with
  | nil=>simp at h
  | cons x r=>exact zC x r))
 have HJn:=hide (yE l)
 have HIx:=hide (yI l)
 have HSy:=hide (show decide (0≤dL l)=dV l from vV l)
 obtain ⟨P,hP⟩:∃ P,P=dH (Lib.join l [10]):=⟨_,rfl⟩
 have hPc:eT (bs (Lib.join l [10])).data.toList=P:=by rw [← kO];exact hP.symm
 rw [hPc] at HPc
 rw [← hP] at HRM hxl
 obtain ⟨⟨nm,dl,jm,ops⟩,⟨x,y⟩,E⟩:=P
 simp only at HPc hxl
 have hxb:0≤x∧x≤1000000:=by
  have h1:bI (Lib.join l [10])=aV (Lib.join l [10]) []:=rfl
  rw [h1] at hxl
  omega
 have Hc:=hide (fun (k:Nat) (hk:k < l.length)=>hr.at_ (j:=k) (by rw [bW];exact hk))
 have Hl:=hide (fun (k:Nat) (hk:k < l.length)=>cN l k hk)
 obtain ⟨n,hn2⟩:∃ n,n=l.length:=⟨_,rfl⟩
 have hnz:n≤50000:=by omega
 have Hn:=hide hn2
 obtain ⟨g,hg⟩:∃ g,g=w.heap.size:=⟨_,rfl⟩
 rw [← hn2]
 clear hP hPc hxl hxl2 hxl3 hr hv hz hil hn2
 go_enter Tryz.func50,Tryz.ntmps50
 go_upto_region 1 with fail
 generalize hX:World.alloc w _=X
 have HK:=hide (show Only aA w X by rw [← hX];exact (Only.refl _ w).alloc _)
 have HR4:=hide (show Blk X g 53 #[.string ⟨#[]⟩,.int .i64 0,.int .i64 0,.slice none 0 0,.int .i64 0,.int .i64 0,.int .i64 0,.int .i64 0] by rw [← hX,hg];exact Blk.new _ _ _)
 rw [← hg]
 have HGe:=hide hg
 clear hX hg
 go_wp2_with fail
 go_loopw [8,9,10] (fun t f i wr=>∃ (k:Nat) (T:ByteArray) (F:Int),k≤n∧t=.string T∧f=.int .i64 F∧i=.int .i64 k∧Hid (T=bs (Lib.join (l.take k) [10]))∧Hid (F=dL (l.take k))∧Hid (wr=X)) (fun _ _ i _=>n - (intOf i).toNat)
 case atStart=>exact ⟨0,⟨#[]⟩,-1,Nat.zero_le _,rfl,rfl,rfl,hide (by rfl),hide (by rfl),hide rfl⟩
 case round =>
  obtain ⟨k,T,F,hk,rfl,rfl,rfl,HT,HF,HW⟩:=hrel
  rw [HW.out]
  by_cases hlt:k < n
  case pos =>
   have hkl:k < l.length:=by rw [← Hn.out];exact hlt
   obtain ⟨b,q,rfl,_,hb,hc⟩:=Hc.out k hkl
   have g0:X.cell? ⟨b,q + k,none⟩=some (.string (bs (l.getD k []))):=cM HK.out (fun h=>h) (by rw [hc k (by rw [bW];exact hkl),Hl.out k hkl])
   have hs1:=HSz.out k (by omega)
   have hs2:=HSl.out k hkl
   have HTs:=hide (show T.size≤50000 by rw [HT.out];exact hs1)
   have HN:=hide (HIx.out k hkl)
   have HFr:=hide (idxS_one (l.take k))
   rw [← HF.out] at HN HFr
   have HJk:=hide (fun (h0:0 < k)=>HJn.out k h0 hkl)
   have HJ0:=hide (fun (h0:k=0)=>(show Lib.join (l.take (k + 1)) [10]=l.getD k [] by subst h0;exact HJ1.out hkl))
   obtain ⟨s,hs⟩:∃ s,s=l.getD k []:=⟨_,rfl⟩
   rw [← hs] at g0 hs2 HN HJk HJ0
   have hci:=HIdl.out s X
   have HSb:=hide (show fR s = !idleB s from rfl)
   change Calls _ _ _ _ (fun e w'=>e=.returned (.bool (idleB s))∧w'=X) at hci
   obtain ⟨I,hI⟩:∃ I,I=idleB s:=⟨_,rfl⟩
   rw [← hI] at hci HSb
   have HCI:=hide hci
   have d1:decide ((k:Int) < (n:Int))=true:=by simp;exact hlt
   have d2:decide (k < n)=true:=by simp;exact hlt
   have j1:(0:Int)≤(k:Int):=by omega
   have j2:(k:Int) < (n:Int):=by omega
   have w1:IntKind.i64.wrap ((k:Int) + 1)=(k:Int) + 1:=IntWalk.i64_in _ (by omega)
   have hts:=HTs.out
   have hb1:(bs s).size≤50000:=hs2
   have t1:(⟨#[10]⟩:ByteArray).size=1:=rfl
   clear hc hkl hlt hs hs1 hs2 hI hci hb HTs
   by_cases h0:k=0
   case pos =>
    have e1:decide ((0:Int) < (k:Int))=false:=by simp;omega
    have e2:decide (0 < k)=false:=by simp;omega
    have HT0:=hide (show T=⟨#[]⟩ by rw [HT.out,h0];rfl)
    have z0:T.size + (bs s).size≤9223372036854775807:=by omega
    have HT1:=hide (show T++bs s=bs (Lib.join (l.take (k + 1)) [10]) by rw [HJ0.out h0,HT0.out];show bs []++bs s=_;rw [iI];rfl)
    clear HJ0 HJk HT0 HT h0
    go_upto_region 8 with fail
    generalize hT2:T++bs s=T' at HT1 ⊢
    have HT2:=HT1
    clear z0 hT2 e1 e2 hts hb1
    by_cases hF:F < 0
    case pos =>
     have f1:decide (F < 0)=true:=by simp;exact hF
     cases I with
     | true =>
      have HF2:=hide (show (-1:Int)=dL (l.take (k + 1)) by rw [HN.out,if_pos hF,HSb.out];rfl)
      have HFe:=hide (show F = -1 by rcases HFr.out with h | h<;>omega)
      clear hF HN HFr
      go_wp2_with (go_at_call 42;refine HCI.out.mono ?_;rintro e w2 ⟨rfl,hw2⟩;obtain rfl:=hw2.symm)
      go_roundw
      case rel=>exact ⟨k + 1,T',F,by omega,rfl,rfl,by go_num,HT2,hide (by rw [HFe.out];exact HF2.out),hide trivial⟩
      case measure=>simp [intOf];omega
     | false =>
      have HF2:=hide (show (k:Int)=dL (l.take (k + 1)) by rw [HN.out,if_pos hF,HSb.out];rfl)
      clear hF HN HFr
      go_wp2_with (go_at_call 42;refine HCI.out.mono ?_;rintro e w2 ⟨rfl,hw2⟩;obtain rfl:=hw2.symm)
      go_roundw
      case rel=>exact ⟨k + 1,T',k,by omega,rfl,rfl,by go_num,HT2,HF2,hide trivial⟩
      case measure=>simp [intOf];omega
    case neg =>
     have f1:decide (F < 0)=false:=by simp;omega
     have HF2:=hide (show F=dL (l.take (k + 1)) by rw [HN.out,if_neg hF])
     clear hF HN HFr HCI
     go_wp2_with fail
     go_roundw
     case rel=>exact ⟨k + 1,T',F,by omega,rfl,rfl,by go_num,HT2,HF2,hide trivial⟩
     case measure=>simp [intOf];omega
   case neg =>
    have e1:decide ((0:Int) < (k:Int))=true:=by simp;omega
    have e2:decide (0 < k)=true:=by simp;omega
    have z0:T.size + (⟨#[10]⟩:ByteArray).size≤9223372036854775807:=by omega
    have z1:(T++(⟨#[10]⟩:ByteArray)).size + (bs s).size≤9223372036854775807:=by rw [ByteArray.size_append];omega
    have HT1:=hide (show T++(⟨#[10]⟩:ByteArray)++bs s=bs (Lib.join (l.take (k + 1)) [10]) by rw [HJk.out (by omega),HT.out];show bs _++bs [10]++bs s=_;rw [iI,iI])
    clear HJ0 HJk HT h0
    go_upto_region 8 with fail
    generalize hT2:T++(⟨#[10]⟩:ByteArray)++bs s=T' at HT1 ⊢
    have HT2:=HT1
    clear z0 z1 hT2 e1 e2 hts hb1
    by_cases hF:F < 0
    case pos =>
     have f1:decide (F < 0)=true:=by simp;exact hF
     cases I with
     | true =>
      have HF2:=hide (show (-1:Int)=dL (l.take (k + 1)) by rw [HN.out,if_pos hF,HSb.out];rfl)
      have HFe:=hide (show F = -1 by rcases HFr.out with h | h<;>omega)
      clear hF HN HFr
      go_wp2_with (go_at_call 42;refine HCI.out.mono ?_;rintro e w2 ⟨rfl,hw2⟩;obtain rfl:=hw2.symm)
      go_roundw
      case rel=>exact ⟨k + 1,T',F,by omega,rfl,rfl,by go_num,HT2,hide (by rw [HFe.out];exact HF2.out),hide trivial⟩
      case measure=>simp [intOf];omega
     | false =>
      have HF2:=hide (show (k:Int)=dL (l.take (k + 1)) by rw [HN.out,if_pos hF,HSb.out];rfl)
      clear hF HN HFr
      go_wp2_with (go_at_call 42;refine HCI.out.mono ?_;rintro e w2 ⟨rfl,hw2⟩;obtain rfl:=hw2.symm)
      go_roundw
      case rel=>exact ⟨k + 1,T',k,by omega,rfl,rfl,by go_num,HT2,HF2,hide trivial⟩
      case measure=>simp [intOf];omega
    case neg =>
     have f1:decide (F < 0)=false:=by simp;omega
     have HF2:=hide (show F=dL (l.take (k + 1)) by rw [HN.out,if_neg hF])
     clear hF HN HFr HCI
     go_wp2_with fail
     go_roundw
     case rel=>exact ⟨k + 1,T',F,by omega,rfl,rfl,by go_num,HT2,HF2,hide trivial⟩
     case measure=>simp [intOf];omega
  case neg =>
   obtain rfl:n=k:=by omega
   have d1:decide ((n:Int) < (n:Int))=false:=by simp
   have d2:decide (n < n)=false:=by simp
   have HT2:=hide (show T=bs (Lib.join l [10]) by rw [HT.out,Hn.out,List.take_length])
   replace HF:=hide (show F=dL l by rw [HF.out,Hn.out,List.take_length])
   have hFb : -1≤F∧F≤1000000:=by rw [HF.out];exact hid
   rw [← HT2.out] at HPc
   clear HT HJ1 HJn HIx HSl HSz HIdl Hc Hl HW
   go_upto_region 11 with fail
   generalize hX1:World.alloc X _=X1
   obtain ⟨h5,hh5⟩:∃ h5,h5=X.heap.size:=⟨_,rfl⟩
   have JX1:=hide (show Only aA X X1 by rw [← hX1];exact (Only.refl _ X).alloc _)
   have HO5:=hide (show Blk X1 h5 53 #[.string ⟨#[]⟩,.int .i64 0,.int .i64 0,.slice none 0 0,.int .i64 (ln:Nat),.int .i64 0,.int .i64 0,.int .i64 0] by rw [← hX1,hh5];exact Blk.new _ _ _)
   have hg5:g < h5:=by rw [hh5];exact HR4.out.lt
   rw [← hh5]
   have HR41:=hide (HR4.out.only JX1.out (fun h=>h))
   have K1:=hide (HK.out.trans JX1.out)
   clear hX1 hh5 HR4 HK
   go_wp2_with fail
   refine (HPc.out X1).mono ?_
   rintro e w2 ⟨⟨pA,pc,L,rfl,hL,ho⟩,k2⟩
   have hg3:h5 < X1.heap.size:=HO5.out.lt
   have HOps:=hide (show OpsRd w2 (· < h5 + 1) pA L from ⟨ho.1.mono (fun b hb=>by have:b < h5 + 1:=hb;show b < X1.heap.size;omega),fun v hv=>(ho.2 v hv).mono (fun b hb=>by have:b < h5 + 1:=hb;show b < X1.heap.size;omega)⟩)
   have K2:=hide (K1.out.trans k2)
   have J2:=hide k2
   have HL:=hide hL
   clear hL ho k2
   go_upto_region 12 with fail
   generalize hY:World.alloc (World.alloc w2 _) _=Y
   obtain ⟨h,hh⟩:∃ h,h=w2.heap.size:=⟨_,rfl⟩
   have JY:=hide (show Only aA w2 Y by rw [← hY];exact ((Only.refl _ w2).alloc _).alloc _)
   have K3:=hide (K2.out.trans JY.out)
   have J3:=hide (J2.out.trans JY.out)
   have HPg:=hide (show Blk Y h 25 #[.string nm,.int .i64 dl,.int .i64 jm,.slice pA L.length pc] by rw [← hY,hh];exact (Blk.new _ _ _).alloc _)
   have HSp:=hide (show Blk Y (h + 1) 27 #[.int .i64 x,.int .i64 y] by rw [← hY,hh];exact Blk.new' (by simp))
   have HR43:=hide (HR41.out.only J3.out (fun h=>h))
   have HO53:=hide (HO5.out.only J3.out (fun h=>h))
   have HOps3:=hide (HOps.out.only JY.out (fun b h=>h.elim))
   have hgh:h5 < h:=by rw [hh];exact (HO5.out.only J2.out (fun h=>h)).lt
   rw [← hh]
   clear hY hh HR41 HO5 J2 J3 K2 K1 HOps JY
   obtain ⟨s0,s1⟩:=HSp.out.two
   obtain ⟨⟨c0,c1,c2,c3,c4,c5,c6,c7⟩,f0,f1,f2,f3,f4,f5,f6,f7⟩:=HO53.out.eightC
   have d0:Y.cell? ⟨h,0,none⟩=some (.string nm):=by rw [HPg.out.cell];rfl
   by_cases hE:E=0
   case neg =>
    have q1:(E == 0)=false:=beq_eq_false_iff_ne.2 hE
    have w1':IntKind.i64.wrap ((ln:Int) + x)=(ln:Int) + x:=IntWalk.i64_in _ (by omega)
    have w2':IntKind.i64.wrap ((ln:Int) + x - 1)=(ln:Int) + x - 1:=IntWalk.i64_in _ (by omega)
    have hm:=hide hE
    clear hE
    go_upto_region 17 with fail
    have HZ5:=hide (((HO53.out.set_ 5 (.int .i64 ((ln:Int) + x - 1))).set_ 6 (.int .i64 y)).set_ 7 (.int .i64 E))
    have JZ:=hide (Only.setCell (S:=(· = h5)) (Only.setCell (S:=(· = h5)) (Only.setCell (S:=(· = h5)) (Only.refl _ Y) (p:=⟨h5,5,none⟩) (Or.inl rfl) (.int .i64 ((ln:Int) + x - 1))) (p:=⟨h5,6,none⟩) (Or.inl rfl) (.int .i64 y)) (p:=⟨h5,7,none⟩) (Or.inl rfl) (.int .i64 E))
    generalize hZ:World.setCell (World.setCell (World.setCell Y _ _) _ _) _ _=Z
    rw [hZ] at HZ5 JZ
    clear hZ
    have HZ4:=hide (HR43.out.only JZ.out (fun h=>by have h':g=h5:=h;omega))
    have KZ:=hide (K3.out.fresh JZ.out (fun i _ h=>Or.inr (by have h':i=h5:=h;have:=HGe.out;omega)))
    clear c0 c1 c2 c3 c4 c5 c6 c7 f0 f1 f2 f3 f4 f5 f6 f7
    have HZ5':Blk Z h5 53 #[.string ⟨#[]⟩,.int .i64 0,.int .i64 0,.slice none 0 0,.int .i64 (ln:Nat),.int .i64 ((ln:Int) + x - 1),.int .i64 (y),.int .i64 (E)]:=HZ5.out
    obtain ⟨⟨c0,c1,c2,c3,c4,c5,c6,c7⟩,-⟩:=HZ5'.eightC
    obtain ⟨⟨r0,r1,r2,r3,r4,r5,r6,r7⟩,f0,f1,f2,f3,f4,f5,f6,f7⟩:=HZ4.out.eightC
    have HRt:=hide (show Blk (aE Z g 0 (encScr (⟨⟨#[]⟩,0,0,none,0,[],(ln:Nat),(ln:Int) + x - 1,y,E⟩:ScrV))) g 53 (encScr (⟨⟨#[]⟩,0,0,none,0,[],(ln:Nat),(ln:Int) + x - 1,y,E⟩:ScrV)).toArray from HZ4.out.put _ rfl)
    have KF:=hide (KZ.out.fresh (aP (encScr (⟨⟨#[]⟩,0,0,none,0,[],(ln:Nat),(ln:Int) + x - 1,y,E⟩:ScrV)) 0 Z g) (fun i _ h=>Or.inr (by have h':i=g:=h;have:=HGe.out;omega)))
    have HOf:=hide (show OpsRd (aE Z g 0 (encScr (⟨⟨#[]⟩,0,0,none,0,[],(ln:Nat),(ln:Int) + x - 1,y,E⟩:ScrV))) (· < w.heap.size) (ScrV.A (⟨⟨#[]⟩,0,0,none,0,[],(ln:Nat),(ln:Int) + x - 1,y,E⟩:ScrV)) (ScrV.L (⟨⟨#[]⟩,0,0,none,0,[],(ln:Nat),(ln:Int) + x - 1,y,E⟩:ScrV)) from ⟨Or.inl rfl,fun v hv=>(by cases hv)⟩)
    have HZ5h:=hide HZ5'
    clear HZ5'
    go_wp2_with fail
    rw [xK]
    generalize hQ:aE Z g 0 _=Q
    have hQ':aE Z g 0 (encScr (⟨⟨#[]⟩,0,0,none,0,[],(ln:Nat),(ln:Int) + x - 1,y,E⟩:ScrV))=Q:=hQ
    rw [hQ'] at HRt KF HOf
    clear hQ hQ' c0 c1 c2 c3 c4 c5 c6 c7 r0 r1 r2 r3 r4 r5 r6 r7 f0 f1 f2 f3 f4 f5 f6 f7
    have HRt':Blk Q g 53 #[.string ⟨#[]⟩,.int .i64 0,.int .i64 0,.slice none 0 0,.int .i64 (ln:Nat),.int .i64 ((ln:Int) + x - 1),.int .i64 (y),.int .i64 (E)]:=HRt.out
    obtain ⟨⟨r0,r1,r2,r3,r4,r5,r6,r7⟩,-⟩:=HRt'.eightC
    refine bodyPost_ret (v:=.tuple #[.agg (encScr (⟨⟨#[]⟩,0,0,none,0,[],(ln:Nat),(ln:Int) + x - 1,y,E⟩:ScrV)).toArray,.bool (decide (0≤F))]) (by simp [results,Tryz.results50,go_sem,encScr,r0,r1,r2,r3,r4,r5,r6,r7];try rfl) rfl ?_
    exact ⟨⟨(⟨⟨#[]⟩,0,0,none,0,[],(ln:Nat),(ln:Int) + x - 1,y,E⟩:ScrV),by rw [← HSy.out,HF.out],by rw [HRM.out];unfold fF;rw [if_pos hm.out];show (⟨cI,ln,(ln:Int) + x - 1,y,E⟩:ScrM)=⟨cI,ln,x + (ln:Int) - 1,y,E⟩;rw [Int.add_comm (ln:Int) x],HOf.out⟩,KF.out⟩
   case pos =>
    subst hE
    have q1:((0:Int) == 0)=true:=rfl
    have hfd:=HFd.out Y K3.out nm
    have HRd:=hide (show fF (⟨nm,dl,jm,ops⟩,(x,y),0) ⟨ln,l⟩ (V.map (·.m))=if iW (V.map (·.m)) nm=true then ⟨cI,ln,ln + dL l,8,6⟩ else ⟨⟨nm,dl,jm,ops⟩,ln,0,0,0⟩ by unfold fF;rw [if_neg (by simp)])
    have HGe2:=hide (vY nm (V.map (·.m)))
    obtain ⟨fx,hfx⟩:∃ fx,fx=mU nm (V.map (·.m)):=⟨_,rfl⟩
    obtain ⟨B,hB⟩:∃ B,B=iW (V.map (·.m)) nm:=⟨_,rfl⟩
    rw [← hfx] at hfd HGe2
    rw [← hB] at HGe2 HRd
    have HFc:=hide hfd
    clear hfd hB hfx
    cases B with
    | true =>
     have b1:=HGe2.out
     obtain ⟨sf0,sf1⟩:=And.intro (HSp.out.frozen 0) (HSp.out.frozen 1)
     have w1':IntKind.i64.wrap (1 + F)=1 + F:=IntWalk.i64_in _ (by omega)
     have w2':IntKind.i64.wrap ((ln:Int) + (1 + F))=(ln:Int) + (1 + F):=IntWalk.i64_in _ (by omega)
     have w3':IntKind.i64.wrap ((ln:Int) + (1 + F) - 1)=(ln:Int) + (1 + F) - 1:=IntWalk.i64_in _ (by omega)
     go_upto_region 14 with (go_at_call 27;refine HFc.out.mono ?_;rintro e Y2 ⟨rfl,hy2⟩;obtain rfl:=hy2.symm)
     have HS2:=hide ((HSp.out.set_ 0 (.int .i64 (1 + F))).set_ 1 (.int .i64 8))
     have JS:=hide (Only.setCell (S:=(· = h + 1)) (Only.setCell (S:=(· = h + 1)) (Only.refl _ Y) (p:=⟨h + 1,0,none⟩) (Or.inl rfl) (.int .i64 (1 + F))) (p:=⟨h + 1,1,none⟩) (Or.inl rfl) (.int .i64 8))
     generalize hY2:World.setCell (World.setCell Y _ _) _ _=Y2
     rw [hY2] at HS2 JS
     replace HR43:=hide (HR43.out.only JS.out (fun hx=>by have h':g=h + 1:=hx;omega))
     replace HO53:=hide (HO53.out.only JS.out (fun hx=>by have h':h5=h + 1:=hx;omega))
     replace K3:=hide (K3.out.fresh JS.out (fun i _ hx=>Or.inr (by have h':i=h + 1:=hx;have:=HGe.out;omega)))
     clear hY2 s0 s1 sf0 sf1 d0 HFc c0 c1 c2 c3 c4 c5 c6 c7 f0 f1 f2 f3 f4 f5 f6 f7
     obtain ⟨s0,s1⟩:=(show Blk Y2 (h + 1) 27 #[.int .i64 (1 + F),.int .i64 8] from HS2.out).two
     obtain ⟨⟨c0,c1,c2,c3,c4,c5,c6,c7⟩,f0,f1,f2,f3,f4,f5,f6,f7⟩:=HO53.out.eightC
     go_upto_region 17 with fail
     have HZ5:=hide (((HO53.out.set_ 5 (.int .i64 ((ln:Int) + (1 + F) - 1))).set_ 6 (.int .i64 8)).set_ 7 (.int .i64 6))
     have JZ:=hide (Only.setCell (S:=(· = h5)) (Only.setCell (S:=(· = h5)) (Only.setCell (S:=(· = h5)) (Only.refl _ Y2) (p:=⟨h5,5,none⟩) (Or.inl rfl) (.int .i64 ((ln:Int) + (1 + F) - 1))) (p:=⟨h5,6,none⟩) (Or.inl rfl) (.int .i64 8)) (p:=⟨h5,7,none⟩) (Or.inl rfl) (.int .i64 6))
     generalize hZ:World.setCell (World.setCell (World.setCell Y2 _ _) _ _) _ _=Z
     rw [hZ] at HZ5 JZ
     clear hZ
     have HZ4:=hide (HR43.out.only JZ.out (fun h=>by have h':g=h5:=h;omega))
     have KZ:=hide (K3.out.fresh JZ.out (fun i _ h=>Or.inr (by have h':i=h5:=h;have:=HGe.out;omega)))
     clear c0 c1 c2 c3 c4 c5 c6 c7 f0 f1 f2 f3 f4 f5 f6 f7
     have HZ5':Blk Z h5 53 #[.string ⟨#[]⟩,.int .i64 0,.int .i64 0,.slice none 0 0,.int .i64 (ln:Nat),.int .i64 ((ln:Int) + (1 + F) - 1),.int .i64 (8),.int .i64 (6)]:=HZ5.out
     obtain ⟨⟨c0,c1,c2,c3,c4,c5,c6,c7⟩,-⟩:=HZ5'.eightC
     obtain ⟨⟨r0,r1,r2,r3,r4,r5,r6,r7⟩,f0,f1,f2,f3,f4,f5,f6,f7⟩:=HZ4.out.eightC
     have HRt:=hide (show Blk (aE Z g 0 (encScr (⟨⟨#[]⟩,0,0,none,0,[],(ln:Nat),(ln:Int) + (1 + F) - 1,8,6⟩:ScrV))) g 53 (encScr (⟨⟨#[]⟩,0,0,none,0,[],(ln:Nat),(ln:Int) + (1 + F) - 1,8,6⟩:ScrV)).toArray from HZ4.out.put _ rfl)
     have KF:=hide (KZ.out.fresh (aP (encScr (⟨⟨#[]⟩,0,0,none,0,[],(ln:Nat),(ln:Int) + (1 + F) - 1,8,6⟩:ScrV)) 0 Z g) (fun i _ h=>Or.inr (by have h':i=g:=h;have:=HGe.out;omega)))
     have HOf:=hide (show OpsRd (aE Z g 0 (encScr (⟨⟨#[]⟩,0,0,none,0,[],(ln:Nat),(ln:Int) + (1 + F) - 1,8,6⟩:ScrV))) (· < w.heap.size) (ScrV.A (⟨⟨#[]⟩,0,0,none,0,[],(ln:Nat),(ln:Int) + (1 + F) - 1,8,6⟩:ScrV)) (ScrV.L (⟨⟨#[]⟩,0,0,none,0,[],(ln:Nat),(ln:Int) + (1 + F) - 1,8,6⟩:ScrV)) from ⟨Or.inl rfl,fun v hv=>(by cases hv)⟩)
     have HZ5h:=hide HZ5'
     clear HZ5'
     go_wp2_with fail
     rw [xK]
     generalize hQ:aE Z g 0 _=Q
     have hQ':aE Z g 0 (encScr (⟨⟨#[]⟩,0,0,none,0,[],(ln:Nat),(ln:Int) + (1 + F) - 1,8,6⟩:ScrV))=Q:=hQ
     rw [hQ'] at HRt KF HOf
     clear hQ hQ' c0 c1 c2 c3 c4 c5 c6 c7 r0 r1 r2 r3 r4 r5 r6 r7 f0 f1 f2 f3 f4 f5 f6 f7
     have HRt':Blk Q g 53 #[.string ⟨#[]⟩,.int .i64 0,.int .i64 0,.slice none 0 0,.int .i64 (ln:Nat),.int .i64 ((ln:Int) + (1 + F) - 1),.int .i64 (8),.int .i64 (6)]:=HRt.out
     obtain ⟨⟨r0,r1,r2,r3,r4,r5,r6,r7⟩,-⟩:=HRt'.eightC
     refine bodyPost_ret (v:=.tuple #[.agg (encScr (⟨⟨#[]⟩,0,0,none,0,[],(ln:Nat),(ln:Int) + (1 + F) - 1,8,6⟩:ScrV)).toArray,.bool (decide (0≤F))]) (by simp [results,Tryz.results50,go_sem,encScr,r0,r1,r2,r3,r4,r5,r6,r7];try rfl) rfl ?_
     exact ⟨⟨(⟨⟨#[]⟩,0,0,none,0,[],(ln:Nat),(ln:Int) + (1 + F) - 1,8,6⟩:ScrV),by rw [← HSy.out,HF.out],by rw [HRM.out,HRd.out,if_pos trivial,← HF.out];show (⟨cI,ln,(ln:Int) + (1 + F) - 1,8,6⟩:ScrM)=⟨cI,ln,(ln:Int) + F,8,6⟩;rw [show (ln:Int) + (1 + F) - 1=(ln:Int) + F by omega],HOf.out⟩,KF.out⟩
    | false =>
     have b1:=HGe2.out
     obtain ⟨⟨-,d1',d2',d3'⟩,-⟩:=HPg.out.four
     go_upto_region 17 with (go_at_call 27;refine HFc.out.mono ?_;rintro e Y2 ⟨rfl,hy2⟩;obtain rfl:=hy2.symm)
     rw [dW]
     have HZ5:=hide (HO53.out.putFrom_ [.string nm,.int .i64 dl,.int .i64 jm,.slice pA L.length pc] 0)
     have JZ:=hide (aP [.string nm,.int .i64 dl,.int .i64 jm,.slice pA L.length pc] 0 Y h5)
     generalize hZ:aE Y h5 0 _=Z
     rw [hZ] at HZ5 JZ
     clear hZ d0 d1' d2' d3'
     have HZ4:=hide (HR43.out.only JZ.out (fun h=>by have h':g=h5:=h;omega))
     have KZ:=hide (K3.out.fresh JZ.out (fun i _ h=>Or.inr (by have h':i=h5:=h;have:=HGe.out;omega)))
     have HOpZ:=hide (HOps3.out.only JZ.out (fun b h=>by have h':b=h5:=h;show b < h5 + 1;omega))
     clear c0 c1 c2 c3 c4 c5 c6 c7 f0 f1 f2 f3 f4 f5 f6 f7
     have HZ5':Blk Z h5 53 #[.string nm,.int .i64 dl,.int .i64 jm,.slice pA L.length pc,.int .i64 (ln:Nat),.int .i64 (0),.int .i64 (0),.int .i64 (0)]:=HZ5.out
     obtain ⟨⟨c0,c1,c2,c3,c4,c5,c6,c7⟩,-⟩:=HZ5'.eightC
     obtain ⟨⟨r0,r1,r2,r3,r4,r5,r6,r7⟩,f0,f1,f2,f3,f4,f5,f6,f7⟩:=HZ4.out.eightC
     have HRt:=hide (show Blk (aE Z g 0 (encScr (⟨nm,dl,jm,pA,pc,L,(ln:Nat),0,0,0⟩:ScrV))) g 53 (encScr (⟨nm,dl,jm,pA,pc,L,(ln:Nat),0,0,0⟩:ScrV)).toArray from HZ4.out.put _ rfl)
     have KF:=hide (KZ.out.fresh (aP (encScr (⟨nm,dl,jm,pA,pc,L,(ln:Nat),0,0,0⟩:ScrV)) 0 Z g) (fun i _ h=>Or.inr (by have h':i=g:=h;have:=HGe.out;omega)))
     have HOf:=hide (show OpsRd (aE Z g 0 (encScr (⟨nm,dl,jm,pA,pc,L,(ln:Nat),0,0,0⟩:ScrV))) (· < w.heap.size) (ScrV.A (⟨nm,dl,jm,pA,pc,L,(ln:Nat),0,0,0⟩:ScrV)) (ScrV.L (⟨nm,dl,jm,pA,pc,L,(ln:Nat),0,0,0⟩:ScrV)) from (HOpZ.out.only (aP _ 0 Z g) (fun b h=>by have h':b=g:=h;show b < h5 + 1;omega)).monoP (fun b hb=>by have h':b < w.heap.size:=hb;have:=HGe.out;show b < h5 + 1;omega))
     have HZ5h:=hide HZ5'
     clear HZ5'
     go_wp2_with fail
     rw [xK]
     generalize hQ:aE Z g 0 _=Q
     have hQ':aE Z g 0 (encScr (⟨nm,dl,jm,pA,pc,L,(ln:Nat),0,0,0⟩:ScrV))=Q:=hQ
     rw [hQ'] at HRt KF HOf
     clear hQ hQ' c0 c1 c2 c3 c4 c5 c6 c7 r0 r1 r2 r3 r4 r5 r6 r7 f0 f1 f2 f3 f4 f5 f6 f7
     have HRt':Blk Q g 53 #[.string nm,.int .i64 dl,.int .i64 jm,.slice pA L.length pc,.int .i64 (ln:Nat),.int .i64 (0),.int .i64 (0),.int .i64 (0)]:=HRt.out
     obtain ⟨⟨r0,r1,r2,r3,r4,r5,r6,r7⟩,-⟩:=HRt'.eightC
     refine bodyPost_ret (v:=.tuple #[.agg (encScr (⟨nm,dl,jm,pA,pc,L,(ln:Nat),0,0,0⟩:ScrV)).toArray,.bool (decide (0≤F))]) (by simp [results,Tryz.results50,go_sem,encScr,r0,r1,r2,r3,r4,r5,r6,r7];try rfl) rfl ?_
     exact ⟨⟨(⟨nm,dl,jm,pA,pc,L,(ln:Nat),0,0,0⟩:ScrV),by rw [← HSy.out,HF.out],by rw [HRM.out,HRd.out,if_neg (by decide)];unfold ScrV.m progM;rw [HL.out],HOf.out⟩,KF.out⟩
end Go.Proofs.YtaioaojfdngfdaaGreatDoor
