/- Parts of a chain of lemmas: Doc8, DocS. Conditions: those of each theorem. -/
import Derived.Test.YtaioaojfdngfdaaGreatDoorPg09
import Derived.Test.YtaioaojfdngfdaaGreatDoorPg35
import Derived.Test.YtaioaojfdngfdaaGreatDoorPg38
import Derived.BigRegion
set_option linter.unusedVariables false
set_option linter.unusedSimpArgs false
set_option maxHeartbeats 12800000
namespace Go.Proofs.YtaioaojfdngfdaaGreatDoor
open Go.RowKit
set_option maxRecDepth 100000
theorem len1 {α:Type} {l:List α} (h:l.length=1):∃ a,l=[a]:=by
 rcases l with _ | ⟨a,_ | ⟨b,r⟩⟩
 ·cases h
 ·exact ⟨a,rfl⟩
 ·simp at h
theorem sZ {α:Type} {l:List α} (h:l.length=2):∃ a b,l=[a,b]:=by
 rcases l with _ | ⟨a,r⟩
 ·cases h
 ·obtain ⟨b,rfl⟩:=len1 (l:=r) (by simpa using h)
  exact ⟨a,b,rfl⟩
theorem len3 {α:Type} {l:List α} (h:l.length=3):∃ a b c,l=[a,b,c]:=by
 rcases l with _ | ⟨a,r⟩
 ·cases h
 ·obtain ⟨b,c,rfl⟩:=sZ (l:=r) (by simpa using h)
  exact ⟨a,b,c,rfl⟩
theorem len4 {α:Type} {l:List α} (h:l.length=4):∃ a b c d,l=[a,b,c,d]:=by
 rcases l with _ | ⟨a,r⟩
 ·cases h
 ·obtain ⟨b,c,d,rfl⟩:=len3 (l:=r) (by simpa using h)
  exact ⟨a,b,c,d,rfl⟩
theorem mI {t:List UInt8} (h:(bZ t).2=true):t=aH∨t=kOn∨t=aQ∨t=dK∨t=dO∨t=bS∨t=dJ∨t=cF∨t=dQ∨t=dP∨t=bG:=by
 rw [eM] at h
 unfold bN dY at h
 simp only [Bool.or_eq_true,decide_eq_true_eq] at h
 rcases h with h | (h | h | h) | h | h | h | h | h | h | h
 ·exact Or.inl h
 ·exact Or.inr (Or.inl h)
 ·exact Or.inr (Or.inr (Or.inl h))
 ·exact Or.inr (Or.inr (Or.inr (Or.inl h)))
 ·exact Or.inr (Or.inr (Or.inr (Or.inr (Or.inl h))))
 ·exact Or.inr (Or.inr (Or.inr (Or.inr (Or.inr (Or.inl h)))))
 ·exact Or.inr (Or.inr (Or.inr (Or.inr (Or.inr (Or.inr (Or.inl h))))))
 ·exact Or.inr (Or.inr (Or.inr (Or.inr (Or.inr (Or.inr (Or.inr (Or.inl h)))))))
 ·exact Or.inr (Or.inr (Or.inr (Or.inr (Or.inr (Or.inr (Or.inr (Or.inr (Or.inl h))))))))
 ·exact Or.inr (Or.inr (Or.inr (Or.inr (Or.inr (Or.inr (Or.inr (Or.inr (Or.inr (Or.inl h)))))))))
 ·exact Or.inr (Or.inr (Or.inr (Or.inr (Or.inr (Or.inr (Or.inr (Or.inr (Or.inr (Or.inr h)))))))))
theorem rJ {t:List UInt8} (h:(bZ t).2=true):∀ c ∈ (bZ t).1,c=110∨c=108∨c=113∨c=112∨c=100∨c=101∨c=116∨c=106:=by
 rcases mI h with rfl | rfl | rfl | rfl | rfl | rfl | rfl | rfl | rfl | rfl | rfl<;>(intro c hc;revert c;decide)
theorem zD {t:List UInt8} (h:(bZ t).2=true):(bZ t).1.length≤3:=by
 rcases mI h with rfl | rfl | rfl | rfl | rfl | rfl | rfl | rfl | rfl | rfl | rfl<;>decide
theorem wW (B a:Nat) (d:Dp) (l:List WordM) (A:Option Addr) (c:Nat) (line:Int) (bw:Nat) (w:World) (h:DAt w B a d) (ho:w.ownsRow bw 141 3 (.slice A l.length c) l.length (flat encW l)) (hk:(bZ (aC l 0).text).2=true) (hlen:l.length=(bZ (aC l 0).text).1.length + 1) (hx:∀ x ∈ l,x.text.length≤1000000000∧x.at_≤1000000000)
 (hL:d.L.length≤1000000) (hU:d.uses.length≤1000000) (hB:d.labels.length≤1000000) (ha:∀ v ∈ d.L,v.o.arms.length≤1000000) (hsf:bN (aC l 0).text=true→d.L≠[]):Calls Tryz.prog 78 #[.pointer (some ⟨a,0,none⟩),.slice A l.length c,.int .i64 line] w fun e w'=>e=.returned (.tuple #[])∧mN w w' B a (takeD d.pl l line):=by
 rcases mI hk with ht | ht | ht | ht | ht | ht | ht | ht | ht | ht | ht<;>rw [ht] at hlen
 ·obtain ⟨x0,x1,x2,x3,rfl⟩:=len4 (show l.length=4 from hlen)
  exact nJ B a d x0 x1 x2 x3 A c line bw w h ho ht hx hL hU hB ha
 ·obtain ⟨x0,x1,x2,rfl⟩:=len3 (show l.length=3 from hlen)
  exact uB B a d x0 x1 x2 A c line bw w h ho ht hx hL hU hB ha (hsf (by rw [ht];rfl))
 ·obtain ⟨x0,x1,rfl⟩:=sZ (show l.length=2 from hlen)
  exact mT B a d x0 x1 A c line bw w h ho ht hx hL hU hB ha (hsf (by rw [ht];rfl))
 ·obtain ⟨x0,x1,rfl⟩:=sZ (show l.length=2 from hlen)
  exact sG B a d x0 x1 A c line bw w h ho ht hx hL hU hB ha (hsf (by rw [ht];rfl))
 ·obtain ⟨x0,x1,rfl⟩:=sZ (show l.length=2 from hlen)
  exact qY B a d x0 x1 A c line bw w h ho ht hx hL hU hB ha
 ·obtain ⟨x0,x1,rfl⟩:=sZ (show l.length=2 from hlen)
  exact nK B a d x0 x1 A c line bw w h ho ht hx hL hU hB ha
 ·obtain ⟨x0,x1,rfl⟩:=sZ (show l.length=2 from hlen)
  exact qZ B a d x0 x1 A c line bw w h ho ht hx hL hU hB ha
 ·obtain ⟨x0,x1,rfl⟩:=sZ (show l.length=2 from hlen)
  exact pI B a d x0 x1 A c line bw w h ho ht hx hL hU hB ha
 ·obtain ⟨x0,rfl⟩:=len1 (show l.length=1 from hlen)
  exact rB B a d x0 A c line bw w h ho ht hx hL hU hB ha
 ·obtain ⟨x0,rfl⟩:=len1 (show l.length=1 from hlen)
  exact rA B a d x0 A c line bw w h ho ht hx hL hU hB ha
 ·obtain ⟨x0,x1,rfl⟩:=sZ (show l.length=2 from hlen)
  exact pJ B a d x0 x1 A c line bw w h ho ht hx hL hU hB ha
theorem qB {M:Nat→Prop} (A:Option Addr) (c:Nat) (l:List (List UInt8 × Int)) (k:List UInt8) (w:World) (hr:Rd w M A (flat encLb l)) (hn:l.length≤1000000):Calls Tryz.prog 44 #[.slice A l.length c,.string (bs k)] w fun e w'=>e=.returned (.int .i64 (findD k l))∧∃ q,w'=w.drewN q :=
 (xG A c l k w hr hn).mono (by rintro e w' ⟨rfl,rfl⟩;exact ⟨rfl,0,rfl⟩)
theorem form_at {F:List UInt8} {q:Nat} (hq:q < F.length):F.drop q=F.getD q 0 :: F.drop (q + 1):=by
 rw [List.drop_eq_getElem_cons hq]
 simp [List.getD,hq]
theorem form_mem {F:List UInt8} {q:Nat} (hq:q < F.length):F.getD q 0 ∈ F:=by
 have:F[q]?=some (F.getD q 0):=by simp [List.getD,hq]
 exact List.mem_of_getElem? this
theorem idle_ne {x:List UInt8} (he:(aL x).2.2=0) (hi:idleB x=false):0 < (aL x).1.length:=List.length_pos_iff.2 (l4 he hi)
theorem uC (B a:Nat) (d:Dp) (x:List UInt8) (line:Int) (w:World) (h:DAt w B a d) (hi:idleB x=false) (hxl:x.length≤1000000) (hsf:d.opn=true→d.L≠[])
 (hL:d.L.length≤1000000) (hU:d.uses.length≤1000000) (hB:d.labels.length≤1000000) (ha:∀ v ∈ d.L,v.o.arms.length≤1000000):Calls Tryz.prog 43 #[.pointer (some ⟨a,0,none⟩),.string (bs x),.int .i64 line] w fun e w' =>
  e=.returned (.tuple #[.int .i64 ((eO d.pl x).1:Nat),.int .i64 ((eO d.pl x).2:Nat)])∧mN w w' B a (if (eO d.pl x).2=0 then takeD d.pl (aL x).1 line else d.pl):=by
 have hBa:=h.base
 have H:=hide h
 have HSf:=hide hsf
 have HWs:=hide (fun (X:World)=>t8 (bs x) X (by rw [bJ];omega))
 rw [show (bs x).data.toList=x from rfl] at HWs
 have hsz:=gY x
 have hne:=fun he=>idle_ne (x:=x) he hi
 obtain ⟨RE,hRd⟩:∃ RE,RE=eO d.pl x:=⟨_,rfl⟩
 have HRd:=hide (show RE=if (aL x).2.2≠0 then ((aL x).2.1,(aL x).2.2) else if cH d.pl (aC (aL x).1 0)≠0 then (0,cH d.pl (aC (aL x).1 0)) else cB d.pl (aL x).1 x.length (bZ (aC (aL x).1 0).text).1 0 from hRd)
 rw [← hRd]
 obtain ⟨W,hW⟩:∃ W,W=aL x:=⟨_,rfl⟩
 rw [← hW] at HWs hsz hne HRd ⊢
 obtain ⟨l,Wa,We⟩:=W
 simp only at HWs hsz hne HRd ⊢
 obtain ⟨DN,hDN⟩:∃ DN,DN=if RE.2=0 then takeD d.pl l line else d.pl:=⟨_,rfl⟩
 have HDN:=hide hDN
 rw [← hDN]
 clear hRd hW h hsf hi hDN
 obtain ⟨s,hs⟩:∃ s,s=bs x:=⟨_,rfl⟩
 have hss:s.size=x.length:=by rw [hs];exact bJ x
 rw [← hs] at HWs ⊢
 clear hs
 have hx:∀ y ∈ l,y.text.length≤1000000000∧y.at_≤1000000000:=fun y hy=>by have:=hsz.1 y hy;exact ⟨by omega,by omega⟩
 have hll:l.length≤1000001:=by omega
 have Hx:=hide hx
 clear hsz hx
 go_enter Tryz.func43,Tryz.ntmps43
 go_wp2_with fail
 refine (HWs.out _).mono ?_
 rintro e wz ⟨⟨A,c,rfl,how⟩,hbz⟩
 have HDz:=hide (H.out.same (Only.of_below hbz aA))
 have HOz:=hide (show OnB B w wz from OnB.none (Only.of_below hbz aA))
 have HWz:=hide how
 clear hbz how
 by_cases hWe:We=0
 case neg =>
  have q0:(((We:Nat):Int) != 0)=true:=bne_iff_ne.2 (by omega)
  have HE:=hide (show RE=(Wa,We) by rw [HRd.out,if_pos hWe])
  have HE0:=hide (show ¬ We=0 from hWe)
  clear hWe
  go_wp2_with fail
  refine bodyPost_ret (v:=.tuple #[.int .i64 (Wa:Nat),.int .i64 (We:Nat)]) (by simp [results,Tryz.results43,go_sem];try rfl) rfl ?_
  exact ⟨by rw [HE.out],⟨_,HDz.out,by rw [HDN.out,HE.out,if_neg HE0.out]⟩,HOz.out⟩
 case pos =>
  subst hWe
  have hl0:=hne rfl
  replace HRd:=hide (HRd.out.trans (if_neg (by simp)))
  clear hne HWs
  obtain ⟨gw,rfl,hbw,hgw⟩:=eK HWz.out hl0
  have HWc:=hide (fun (Y:World) (Q:Y.ownsRow w.heap.size 141 3 (.slice (some ⟨gw,0,none⟩) l.length c) l.length (flat encW l)) (q:Nat) (hq:q < l.length)=>(show Y.cell? ⟨gw,q * 3,none⟩=some (.string (bs (aC l q).text))∧Y.cell? ⟨gw,q * 3 + 1,none⟩=some (.bool (aC l q).quoted)∧Y.cell? ⟨gw,q * 3 + 2,none⟩=some (.int .i64 (aC l q).at_) from by
   have hr:Rd Y (fun _=>False) (some ⟨gw,0,none⟩) (flat encW l):=Rd.of_own Q (fun _ h=>h.elim)
   obtain ⟨b,ob,hA,_,hb,hc⟩:=cR (n:=3) (enc:=encW) (fun _=>rfl) hr q _ (lZ hq) (by omega)
   injection hA with hA
   injection hA with h1 h2
   subst h1 h2
   have h0:=hc 0 (by omega)
   have h1:=hc 1 (by omega)
   have h2:=hc 2 (by omega)
   simp only [Nat.zero_add,Nat.add_zero] at h0 h1 h2
   exact ⟨h0,h1,h2⟩))
  have hk:=HWc.out wz HWz.out 0 hl0
  simp only [Nat.zero_mul,Nat.add_zero] at hk
  obtain ⟨k0,k1,k2⟩:=hk
  obtain ⟨y,hy⟩:∃ y,y=aC l 0:=⟨_,rfl⟩
  have Hy:=hide hy
  have hyl:=Hx.out _ (eC hl0)
  rw [← hy] at k0 k1 k2 HRd hyl
  clear hy
  obtain ⟨yt,yq,ya⟩:=y
  simp only at k0 k1 k2 hyl
  have HPl:=hide (uE B a d yt yq ya wz HDz.out HSf.out hL)
  obtain ⟨PL,hPL⟩:∃ PL,PL=cH d.pl ⟨yt,yq,ya⟩:=⟨_,rfl⟩
  have HPe:=hide hPL
  rw [← hPL] at HPl HRd
  clear hPL
  have j1:(0:Int) < (l.length:Int):=by omega
  have j2:0 < l.length:=hl0
  go_wp2_with fail
  refine HPl.out.mono ?_
  rintro e wp ⟨rfl,hop⟩
  have oz:OnB B wz wp:=OnB.none hop
  have HDp:=hide (HDz.out.same hop)
  have HOp:=hide (HOz.out.trans oz)
  have HWp:=hide (oz.own HWz.out rfl)
  clear hop oz k0 k1 k2
  by_cases hP0:PL=0
  case neg =>
   have q0:(((PL:Nat):Int) != 0)=true:=bne_iff_ne.2 (by omega)
   have HE:=hide (show RE=(0,PL) by rw [HRd.out,if_pos hP0])
   have HE0:=hide (show ¬ PL=0 from hP0)
   clear hP0
   go_wp2_with fail
   refine bodyPost_ret (v:=.tuple #[.int .i64 0,.int .i64 (PL:Nat)]) (by simp [results,Tryz.results43,go_sem];try rfl) rfl ?_
   exact ⟨by rw [HE.out];rfl,⟨_,HDp.out,by rw [HDN.out,HE.out,if_neg HE0.out]⟩,HOp.out⟩
  case pos =>
   have HP0:=hide (show cH d.pl ⟨yt,yq,ya⟩=0 by rw [← HPe.out];exact hP0)
   subst hP0
   replace HRd:=hide (HRd.out.trans (if_neg (by simp)))
   have hkn:(bZ yt).2=true:=by
    rw [eM]
    rcases mP (w:=⟨yt,yq,ya⟩) HP0.out with h | h | h
    ·rw [decide_eq_true (show yt=aH from h),Bool.true_or]
    ·rw [show bN yt=true from h];simp
    ·rw [show dY yt=true from h];simp
   have HKn:=hide hkn
   have HLt:=hide (rJ hkn)
   have hF3:=zD hkn
   have HSh:=hide (fun (X:World)=>nL yt X)
   obtain ⟨F,hF⟩:∃ F,F=(bZ yt).1:=⟨_,rfl⟩
   have HF:=hide hF
   rw [hkn] at HSh
   rw [← hF] at HSh HLt hF3 HRd
   clear hkn hF
   have hk:=HWc.out wp HWp.out 0 hl0
   simp only [Nat.zero_mul,Nat.add_zero] at hk
   obtain ⟨k0,k1,k2⟩:=hk
   rw [← Hy.out] at k0 k1 k2
   simp only at k0 k1 k2
   go_wp2_with fail
   refine (HSh.out _).mono ?_
   rintro e wq ⟨rfl,hbq⟩
   have oq:OnB B wp wq:=OnB.none (Only.of_below hbq aA)
   have HDq:=hide (HDp.out.same (Only.of_below hbq aA))
   have HOq:=hide (HOp.out.trans oq)
   have HWq:=hide (oq.own HWp.out rfl)
   clear hbq oq k0 k1 k2
   obtain ⟨f,hf⟩:∃ f,f=bs F:=⟨_,rfl⟩
   have Hf:=hide hf
   have hfs:f.size=F.length:=by rw [hf];exact bJ F
   rw [← hf]
   clear hf
   obtain ⟨m,hm⟩:∃ m,m=F.length:=⟨_,rfl⟩
   have Hm:=hide hm
   rw [← hm] at hfs hF3
   clear hm
   have HR0:=hide (show cB d.pl l x.length (F.drop 0) 0=RE from HRd.out.symm)
   go_wp2_with fail
   go_loopw [14] (fun i wr=>∃ q:Nat,q≤m∧i=.int .i64 q∧Hid (DAt wr B a d)∧Hid (OnB B w wr)∧Hid (wr.ownsRow w.heap.size 141 3 (.slice (some ⟨gw,0,none⟩) l.length c) l.length (flat encW l))∧Hid (cB d.pl l x.length (F.drop q) q=RE)∧Hid (q < l.length)) (fun i _=>m - (intOf i).toNat)
   case atStart=>exact ⟨0,Nat.zero_le _,rfl,HDq,HOq,HWq,HR0,hide hl0⟩
   case round =>
    obtain ⟨q,hqm,rfl,HD,HO,HW,HR,HQ⟩:=hrel
    by_cases hlt:q < m
    case neg =>
     have d1:decide ((q:Int) < (m:Int))=false:=by simp;omega
     have d2:decide (q < m)=false:=by simp;omega
     obtain rfl:q=m:=by omega
     have hRn:=HR.out
     rw [List.drop_eq_nil_of_le (by have:=Hm.out;omega)] at hRn
     have w1:IntKind.i64.wrap ((q:Int) + 1)=(q:Int) + 1:=IntWalk.i64_in _ (by omega)
     clear d1 d2 hlt hqm
     by_cases hmore:q + 1 < l.length
     case pos =>
      have q1:decide ((q:Int) + 1 < (l.length:Int))=true:=by simp;omega
      have q2:decide (q + 1 < l.length)=true:=by simp;omega
      have j3:(0:Int)≤(q:Int) + 1:=by omega
      have j4:(q:Int) + 1 < (l.length:Int):=by omega
      have HE:=hide (show RE=((aC l (q + 1)).at_,2) by rw [← hRn];unfold cB;rw [if_pos hmore])
      obtain ⟨_,_,m2⟩:=HWc.out wr HW.out (q + 1) hmore
      have m3:wr.cell? ⟨gw,((q:Int) + 1).toNat * 3 + 2,none⟩=some (.int .i64 (aC l (q + 1)).at_):=by rw [show ((q:Int) + 1).toNat=q + 1 by omega];exact m2
      clear hRn hmore
      go_wp2_with fail
      refine bodyPost_ret (v:=.tuple #[.int .i64 ((aC l (q + 1)).at_:Nat),.int .i64 2]) (by simp [results,Tryz.results43,go_sem];try rfl) rfl ?_
      exact ⟨by rw [HE.out];rfl,⟨_,HD.out,by rw [HDN.out,HE.out,if_neg (Nat.succ_ne_zero 1)]⟩,HO.out⟩
     case neg =>
      have q1:decide ((q:Int) + 1 < (l.length:Int))=false:=by simp;omega
      have q2:decide (q + 1 < l.length)=false:=by simp;omega
      have HE:=hide (show RE=(0,0) by rw [← hRn];unfold cB;rw [if_neg hmore])
      have hlen:l.length=q + 1:=by have:=HQ.out;omega
      have HTk:=hide (wW B a d l (some ⟨gw,0,none⟩) c line w.heap.size wr HD.out HW.out (by rw [← Hy.out];exact HKn.out) (by rw [← Hy.out];show l.length=(bZ yt).1.length + 1;rw [← HF.out,← Hm.out];exact hlen) Hx.out hL hU hB ha (fun harm=>HSf.out (by
       rw [← Hy.out] at harm
       exact (qD HP0.out harm).1)))
      clear hRn hmore hlen
      go_wp2_with fail
      refine HTk.out.mono ?_
      rintro e w9 ⟨rfl,⟨d9,hd9,hpl⟩,ho9⟩
      go_wp2_with fail
      refine bodyPost_ret (v:=.tuple #[.int .i64 0,.int .i64 0]) (by simp [results,Tryz.results43,go_sem];try rfl) rfl ?_
      exact ⟨by rw [HE.out];rfl,⟨d9,hd9,by rw [HDN.out,HE.out,if_pos rfl];exact hpl⟩,HO.out.trans ho9⟩
    case pos =>
     have d1:decide ((q:Int) < (m:Int))=true:=by simp;omega
     have d2:decide (q < m)=true:=by simp;omega
     have j3:(0:Int)≤(q:Int):=by omega
     have j4:(q:Int) < (m:Int):=by omega
     have w1:IntKind.i64.wrap ((q:Int) + 1)=(q:Int) + 1:=IntWalk.i64_in _ (by omega)
     have hqF:q < F.length:=by have:=Hm.out;omega
     have hRn:=HR.out
     rw [form_at hqF] at hRn
     have hlet:=HLt.out _ (form_mem hqF)
     have HFa:=hide (show ∀ (h:q < f.size),f[q]'h=F.getD q 0 from fun h=>by
      rw [byte_at f q h,Hf.out]
      rfl)
     by_cases hend:l.length≤q + 1
     case pos =>
      have q1:decide ((l.length:Int)≤(q:Int) + 1)=true:=by simp;omega
      have q2:decide (l.length≤q + 1)=true:=by simp;omega
      have HE:=hide (show RE=(x.length,3) by rw [← hRn];unfold cB;rw [if_pos hend])
      clear hRn hend hlt
      go_wp2_with fail
      refine bodyPost_ret (v:=.tuple #[.int .i64 (x.length:Nat),.int .i64 3]) (by simp [results,Tryz.results43,go_sem];try rfl) rfl ?_
      exact ⟨by rw [HE.out];rfl,⟨_,HD.out,by rw [HDN.out,HE.out,if_neg (Nat.succ_ne_zero 2)]⟩,HO.out⟩
     case neg =>
      have q1:decide ((l.length:Int)≤(q:Int) + 1)=false:=by simp;omega
      have q2:decide (l.length≤q + 1)=false:=by simp;omega
      have hq1:q + 1 < l.length:=by omega
      have j5:(0:Int)≤(q:Int) + 1:=by omega
      have j6:(q:Int) + 1 < (l.length:Int):=by omega
      obtain ⟨m0,m1,m2⟩:=HWc.out wr HW.out (q + 1) hq1
      have hzl:=Hx.out _ (eC hq1)
      obtain ⟨z,hz⟩:∃ z,z=aC l (q + 1):=⟨_,rfl⟩
      have Hz:=hide hz
      rw [← hz] at m0 m1 m2 hzl
      clear hz
      obtain ⟨zt,zq,za⟩:=z
      simp only at m0 m1 m2 hzl
      have HWr:=hide (fun (X:World)=>t7 (F.getD q 0) hlet zt zq za X hzl.1)
      obtain ⟨WE,hWE⟩:∃ WE,WE=aO (F.getD q 0) ⟨zt,zq,za⟩:=⟨_,rfl⟩
      rw [← hWE] at HWr
      have HWE:=hide hWE
      have Hq1:=hide hq1
      have Hend:=hide hend
      clear hWE hend hlt
      go_upto_region 13 with fail
      obtain ⟨V0,hV0⟩:∃ V9,V9=wr.drew:=⟨_,rfl⟩
      have HD0:=hide (HD.out.drew)
      have HO0:=hide (HO.out.drew)
      have HW0:=hide ((show OnB B wr wr.drew from (OnB.refl _ _).drew).own HW.out rfl)
      rw [← hV0] at HD0 HO0 HW0
      have hqf:q < f.size:=by omega
      have j7:(q:Int) < (f.size:Int):=by omega
      refine aS (l1:=?_) (l2:=?_) 8 (fun w'=>w'.cell? ⟨gw,(q + 1) * 3,none⟩=some (.string (bs zt))∧w'.cell? ⟨gw,(q + 1) * 3 + 1,none⟩=some (.bool zq)∧w'.cell? ⟨gw,(q + 1) * 3 + 2,none⟩=some (.int .i64 za)) (by kernel_rfl) ?_ ?_ ?_ ?_ ?_ ?_ (fun hHeld=>?_)
      rotate_left 2
      ·simp
      ·kernel_rfl
      ·kernel_rfl
      ·simp only [List.take_succ_cons,List.take_zero];rfl
      ·simp only [List.drop_succ_cons,List.drop_zero];rfl
      ·rw [← hV0,hV0];exact ⟨m0,m1,m2⟩
      rw [← hV0] at hHeld ⊢
      clear hV0
      refine tk 0 ?_ rfl ?_ ?_
      rotate_left
      ·(intro w9 hS9;(try simp only [ga]);go_simp<;>rfl)
      refine tk 1 ?_ rfl ?_ ?_
      rotate_left
      ·(intro w9 hS9;(try simp only [ga]);go_simp<;>rfl)
      refine tk 2 ?_ rfl ?_ ?_
      rotate_left
      ·(intro w9 hS9;(try simp only [ga]);go_simp<;>rfl)
      refine tk 3 ?_ rfl ?_ ?_
      rotate_left
      ·(intro w9 hS9;(try simp only [ga]);go_simp<;>rfl)
      refine tk 4 ?_ rfl ?_ ?_
      rotate_left
      ·(intro w9 hS9;(try simp only [ga]);go_simp<;>rfl)
      refine tk 5 ?_ rfl ?_ ?_
      rotate_left
      ·(intro w9 hS9;(try simp only [ga]);go_simp<;>rfl)
      refine tk 6 ?_ rfl ?_ ?_
      rotate_left
      ·(intro w9 hS9;(try simp only [ga]);go_simp<;>rfl)
      refine tk 7 ?_ rfl ?_ ?_
      rotate_left
      ·(intro w9 hS9;(try simp only [ga]);go_simp<;>rfl)
      try simp only [Act.put,gp]
      refine wpAnyH_done (by kernel_rfl) ?_ _
      try simp only [Exit.then]
      clear hHeld
      have hc:=HWr.out V0
      rw [← HFa.out hqf] at hc
      go_wp2_with fail
      refine hc.mono ?_
      rintro e wv ⟨rfl,hov⟩
      have ov:OnB B V0 wv:=OnB.none hov
      have HDv:=hide (HD0.out.same hov)
      have HOv:=hide (HO0.out.trans ov)
      have HWv:=hide (ov.own HW0.out rfl)
      have hc1:=HWc.out wv HWv.out (q + 1) Hq1.out
      have hc0:=HWc.out wv HWv.out 0 hl0
      rw [← Hz.out] at hc1
      rw [← Hy.out] at hc0
      simp only [Nat.zero_mul,Nat.add_zero] at hc1 hc0
      obtain ⟨_,_,n2⟩:=hc1
      obtain ⟨k0,_,_⟩:=hc0
      clear hc hov ov m0 m1 m2 j7
      by_cases hWE0:WE=0
      case neg =>
       have q3:(((WE:Nat):Int) != 0)=true:=bne_iff_ne.2 (by omega)
       have HE:=hide (show RE=(za,WE) by
        rw [← hRn]
        unfold cB
        rw [if_neg Hend.out,← Hz.out,← HWE.out,if_pos hWE0])
       have HE0:=hide (show ¬ WE=0 from hWE0)
       clear hRn hWE0
       go_wp2_with fail
       refine bodyPost_ret (v:=.tuple #[.int .i64 (za:Nat),.int .i64 (WE:Nat)]) (by simp [results,Tryz.results43,go_sem];try rfl) rfl ?_
       exact ⟨by rw [HE.out],⟨_,HDv.out,by rw [HDN.out,HE.out,if_neg HE0.out]⟩,HOv.out⟩
      case pos =>
       have q3:(((WE:Nat):Int) != 0)=false:=by rw [hWE0];rfl
       have HN:=hide (show RE=if yt=bG∧0≤findD (aC l 1).text d.labels then ((aC l 1).at_,6) else cB d.pl l x.length (F.drop (q + 1)) (q + 1) by
        rw [← hRn]
        conv=>lhs;unfold cB
        rw [if_neg Hend.out,← Hz.out,← HWE.out,if_neg (by omega),← Hy.out]
        rfl)
       obtain ⟨t0,ht0⟩:∃ t0,t0=bs yt:=⟨_,rfl⟩
       have Ht0:=hide (show t0.toList=yt by rw [ht0,ByteArray.toList_eq])
       rw [← ht0] at k0
       clear hRn hWE0 ht0
       by_cases hlab:yt=bG
       case neg =>
        have q4:(t0.toList == [108,97,98,101,108])=false:=by rw [Ht0.out];exact beq_eq_false_iff_ne.2 hlab
        have HE:=hide (show cB d.pl l x.length (F.drop (q + 1)) (q + 1)=RE by rw [HN.out,if_neg (fun h=>hlab h.1)])
        clear hlab
        go_upto_region 16 with fail
        go_quiet (fail)
        go_wp2_with fail
        go_roundw
        ·exact ⟨q + 1,by omega,by simp,hide (HDv.out.same (aN _ _)),hide (HOv.out.drewN _),hide (((OnB.refl B wv).drewN _).own HWv.out rfl),HE,Hq1⟩
        ·simp only [intOf];omega
       case pos =>
        have q4:(t0.toList == [108,97,98,101,108])=true:=by rw [Ht0.out,hlab];rfl
        have hl1:1 < l.length:=by have:=Hq1.out;omega
        have hcc:=HWc.out wv HWv.out 1 hl1
        simp only [Nat.one_mul] at hcc
        obtain ⟨g3,g4,g5⟩:=hcc
        have d4:=HDv.out.cells.2.2.2.2.1
        have j8:(1:Int) < (l.length:Int):=by omega
        have HFd:=hide (fun (n:Nat)=>qB (M:=fun _=>False) d.lA d.lc d.labels (aC l 1).text (wv.drewN n) (Rd.of_own (HDv.out.same (aN _ n)).labels (fun _ h=>h.elim)) hB)
        obtain ⟨FD,hFD⟩:∃ FD,FD=findD (aC l 1).text d.labels:=⟨_,rfl⟩
        rw [← hFD] at HFd HN
        clear hFD
        by_cases h0:0≤FD
        case pos =>
         have q5:decide ((0:Int)≤FD)=true:=decide_eq_true h0
         have HE:=hide (show RE=((aC l 1).at_,6) by rw [HN.out,if_pos ⟨hlab,h0⟩])
         clear hlab h0
         go_upto_region 16 with fail
         go_quiet ((go_at_call 44;exact Calls.quiet_of (HFd.out _)))
         go_wp2_with fail
         refine bodyPost_ret (v:=.tuple #[.int .i64 ((aC l 1).at_:Nat),.int .i64 6]) (by simp [results,Tryz.results43,go_sem];try rfl) rfl ?_
         exact ⟨by rw [HE.out];rfl,⟨_,HDv.out.same (aN _ _),by rw [HDN.out,HE.out,if_neg (Nat.succ_ne_zero 5)]⟩,HOv.out.drewN _⟩
        case neg =>
         have q5:decide ((0:Int)≤FD)=false:=decide_eq_false h0
         have HE:=hide (show cB d.pl l x.length (F.drop (q + 1)) (q + 1)=RE by rw [HN.out,if_neg (fun h=>h0 h.2)])
         clear hlab h0
         go_upto_region 16 with fail
         go_quiet ((go_at_call 44;exact Calls.quiet_of (HFd.out _)))
         go_wp2_with fail
         go_roundw
         ·exact ⟨q + 1,by omega,by simp,hide (HDv.out.same (aN _ _)),hide (HOv.out.drewN _),hide (((OnB.refl B wv).drewN _).own HWv.out rfl),HE,Hq1⟩
         ·simp only [intOf];omega
set_option maxRecDepth 100000
structure DSz (d:DM) (n:Nat):Prop where
 uses:d.uses.length≤n
 labels:d.labels.length≤n
 arms:∀ o ∈ d.ops,o.arms.length≤n
 txt:∀ u ∈ d.uses,u.name.length≤1000000000
theorem DSz.mono {d d':DM} {n k:Nat} (h:DSz d n) (hk:n≤k) (e1:d'.ops=d.ops:=by rfl) (e2:d'.uses=d.uses:=by rfl) (e3:d'.labels=d.labels:=by rfl):DSz d' k :=
 ⟨by rw [e2];exact Nat.le_trans h.uses hk,by rw [e3];exact Nat.le_trans h.labels hk,by rw [e1];exact fun o ho=>Nat.le_trans (h.arms o ho) hk,by rw [e2];exact h.txt⟩
theorem wsAt_sz {l:List WordM} (hx:∀ x ∈ l,x.text.length≤1000000000) (k:Nat):(aC l k).text.length≤1000000000:=by
 by_cases h:k < l.length
 ·exact hx _ (eC h)
 ·unfold aC
  rw [List.getD_eq_getElem?_getD,List.getElem?_eq_none (by omega)]
  decide
theorem DSz.use {d:DM} {n:Nat} (h:DSz d n) (hu:d.uses.length + 1≤n) (l:List WordM) (hx:∀ x ∈ l,x.text.length≤1000000000) (line how:Int):DSz (tX d l line how) n :=
 ⟨by show (d.uses++[_]).length≤n;rw [List.length_append];simpa using hu,h.labels,h.arms,eF h.txt (wsAt_sz hx _)⟩
theorem take_sz {d:DM} {n:Nat} (h:DSz d n) (l:List WordM) (hx:∀ x ∈ l,x.text.length≤1000000000) (line:Int):DSz (takeD d l line) (n + 1):=by
 have h1:DSz (dOp d l) (n + 1)∧(dOp d l).uses.length + 1≤n + 1∧(dOp d l).labels.length + 1≤n + 1∧(∀ o ∈ (dOp d l).ops,o.arms.length≤n):=by
  unfold dOp
  split
  ·exact ⟨⟨Nat.le_succ_of_le h.uses,Nat.le_succ_of_le h.labels,eF (fun o ho=>Nat.le_succ_of_le (h.arms o ho)) (Nat.zero_le _),h.txt⟩,Nat.succ_le_succ h.uses,Nat.succ_le_succ h.labels,eF h.arms (Nat.zero_le _)⟩
  ·exact ⟨h.mono (Nat.le_succ n),Nat.succ_le_succ h.uses,Nat.succ_le_succ h.labels,h.arms⟩
 unfold takeD
 generalize dOp d l=d1 at h1
 obtain ⟨h1,hu,hl,ha⟩:=h1
 unfold cD
 split
 ·exact h1.mono (Nat.le_refl _)
 split
 ·exact ⟨h1.uses,by show (d1.labels++[_]).length≤n + 1;rw [List.length_append];simpa using hl,h1.arms,h1.txt⟩
 split
 ·refine DSz.use (d:={ d1 with ops:=d1.ops.set (d1.ops.length - 1) (bQ (lastD d1) (aC l 1).text) }) ⟨h1.uses,h1.labels,fun o ho=>?_,h1.txt⟩ hu l hx _ _
  rcases List.mem_or_eq_of_mem_set ho with ho | ho
  ·exact h1.arms o ho
  ·rw [ho]
   show ((lastD d1).arms++[_]).length≤n + 1
   rw [List.length_append]
   have:(lastD d1).arms.length≤n:=by
    unfold lastD
    rw [List.getD_eq_getElem?_getD]
    cases hx:d1.ops[d1.ops.length - 1]? with
    | none=>exact Nat.zero_le _
    | some o=>exact ha o (List.mem_of_getElem? hx)
   simpa using this
 split
 ·exact DSz.use (d:={ d1 with tm:=true }) (h1.mono (Nat.le_refl _)) hu l hx _ _
 split
 ·exact DSz.use (d:={ d1 with ef:=true }) (h1.mono (Nat.le_refl _)) hu l hx _ _
 split
 ·exact DSz.use h1 hu l hx _ _
 ·exact h1
theorem OpsOwn.putOp {w:World} {B g i:Nat} {oc:Nat} {L:List OpV} {k:Int} {t:ByteArray} {n tt x y:Int} (h:OpsOwn w B (some ⟨g,0,none⟩) oc L) (hi:i < L.length) :
 OpsOwn (((((((w.setCell ⟨g,i * 7,none⟩ (.int .i64 k)).setCell ⟨g,i * 7 + 1,none⟩ (.string t)).setCell ⟨g,i * 7 + 2,none⟩ (.int .i64 n)).setCell ⟨g,i * 7 + 3,none⟩ (.int .i64 tt)).setCell ⟨g,i * 7 + 4,none⟩ (.slice (opAt L i).A (opAt L i).o.arms.length (opAt L i).c)).setCell ⟨g,i * 7 + 5,none⟩ (.int .i64 x)).setCell ⟨g,i * 7 + 6,none⟩ (.int .i64 y))
  B (some ⟨g,0,none⟩) oc (L.set i ⟨⟨k,t,n,tt,(opAt L i).o.arms,x,y⟩,(opAt L i).A,(opAt L i).c⟩):=by
 have st:∀ {w:World} {v:OpV} (j:Nat) (u:Value) (v':OpV),OpsOwn w B (some ⟨g,0,none⟩) oc (L.set i v)→j < 7→encOp v'=(encOp v).set j u→v'.A=v.A→v'.o.arms=v.o.arms→v'.c=v.c→OpsOwn (w.setCell ⟨g,i * 7 + j,none⟩ u) B (some ⟨g,0,none⟩) oc (L.set i v'):=by
  intro w v j u v' h1 hj he hA hs hc
  have e:opAt (L.set i v) i=v:=sQ hi
  have q:=h1.setOp (i:=i) (j:=j) (u:=u) (v:=v') (by rw [List.length_set];exact hi) hj (by rw [e];exact he) (by rw [e];exact hA) (by rw [e];exact hs) (by rw [e];exact hc)
  rw [List.set_set] at q
  exact q
 have h0:OpsOwn w B (some ⟨g,0,none⟩) oc (L.set i (opAt L i)):=by
  have e:L.set i (opAt L i)=L:=by
   apply List.ext_getElem?
   intro j
   by_cases hj:i=j
   ·subst hj
    rw [List.getElem?_set_self hi,bO hi]
   ·rw [List.getElem?_set_ne hj]
  rw [e];exact h
 obtain ⟨o,ho⟩:∃ o,o=opAt L i:=⟨_,rfl⟩
 rw [← ho] at h0 ⊢
 obtain ⟨⟨k0,t0,n0,tt0,ar,x0,y0⟩,A,c⟩:=o
 have s0:=st 0 (.int .i64 k) ⟨⟨k,t0,n0,tt0,ar,x0,y0⟩,A,c⟩ h0 (by decide) rfl rfl rfl rfl
 have s1:=st 1 (.string t) ⟨⟨k,t,n0,tt0,ar,x0,y0⟩,A,c⟩ s0 (by decide) rfl rfl rfl rfl
 have s2:=st 2 (.int .i64 n) ⟨⟨k,t,n,tt0,ar,x0,y0⟩,A,c⟩ s1 (by decide) rfl rfl rfl rfl
 have s3:=st 3 (.int .i64 tt) ⟨⟨k,t,n,tt,ar,x0,y0⟩,A,c⟩ s2 (by decide) rfl rfl rfl rfl
 have s4:=st 4 (.slice A ar.length c) ⟨⟨k,t,n,tt,ar,x0,y0⟩,A,c⟩ s3 (by decide) rfl rfl rfl rfl
 have s5:=st 5 (.int .i64 x) ⟨⟨k,t,n,tt,ar,x,y0⟩,A,c⟩ s4 (by decide) rfl rfl rfl rfl
 exact st 6 (.int .i64 y) ⟨⟨k,t,n,tt,ar,x,y⟩,A,c⟩ s5 (by decide) rfl rfl rfl rfl
theorem DAt.putOp {w:World} {B a g i:Nat} {d:Dp} {k:Int} {t:ByteArray} {n tt x y:Int} (h:DAt w B a d) (ho:d.oA=some ⟨g,0,none⟩) (hi:i < d.L.length) :
 DAt (((((((w.setCell ⟨g,i * 7,none⟩ (.int .i64 k)).setCell ⟨g,i * 7 + 1,none⟩ (.string t)).setCell ⟨g,i * 7 + 2,none⟩ (.int .i64 n)).setCell ⟨g,i * 7 + 3,none⟩ (.int .i64 tt)).setCell ⟨g,i * 7 + 4,none⟩ (.slice (opAt d.L i).A (opAt d.L i).o.arms.length (opAt d.L i).c)).setCell ⟨g,i * 7 + 5,none⟩ (.int .i64 x)).setCell ⟨g,i * 7 + 6,none⟩ (.int .i64 y))
  B a { d with L:=d.L.set i ⟨⟨k,t,n,tt,(opAt d.L i).o.arms,x,y⟩,(opAt d.L i).A,(opAt d.L i).c⟩ } ∧
 OnB B w (((((((w.setCell ⟨g,i * 7,none⟩ (.int .i64 k)).setCell ⟨g,i * 7 + 1,none⟩ (.string t)).setCell ⟨g,i * 7 + 2,none⟩ (.int .i64 n)).setCell ⟨g,i * 7 + 3,none⟩ (.int .i64 tt)).setCell ⟨g,i * 7 + 4,none⟩ (.slice (opAt d.L i).A (opAt d.L i).o.arms.length (opAt d.L i).c)).setCell ⟨g,i * 7 + 5,none⟩ (.int .i64 x)).setCell ⟨g,i * 7 + 6,none⟩ (.int .i64 y)):=by
 have hrow:=h.ops
 rw [ho] at hrow
 have q:=hrow.putOp (k:=k) (t:=t) (n:=n) (tt:=tt) (x:=x) (y:=y) hi
 have kk:Only (· = g) w (((((((w.setCell ⟨g,i * 7,none⟩ (.int .i64 k)).setCell ⟨g,i * 7 + 1,none⟩ (.string t)).setCell ⟨g,i * 7 + 2,none⟩ (.int .i64 n)).setCell ⟨g,i * 7 + 3,none⟩ (.int .i64 tt)).setCell ⟨g,i * 7 + 4,none⟩ (.slice (opAt d.L i).A (opAt d.L i).o.arms.length (opAt d.L i).c)).setCell ⟨g,i * 7 + 5,none⟩ (.int .i64 x)).setCell ⟨g,i * 7 + 6,none⟩ (.int .i64 y)):=cG (cG (cG (cG (cG (cG (cG (Only.refl _ w) _ _) _ _) _ _) _ _) _ _) _ _) _ _
 refine h.turn (S:=(· = g)) (T:=92) kk (fun j hj=>?_) (by decide) (by decide) (by decide) rfl (by rw [ho];exact q) (List.length_set) rfl
 have hj':j=g:=hj
 subst hj'
 exact ⟨aU hrow.row j rfl,aZ hrow.row rfl⟩
theorem yP {ls:List (List UInt8 × Int)} {us:List UseM} {ops:List OpM} {k:Nat} (hk:k < us.length) (hl:¬ findD (eR us k).name ls < 0):iH ls (us.drop k) ops=iH ls (us.drop (k + 1)) (eX ops (eR us k) (findD (eR us k).name ls)):=by
 rw [jU hk]
 conv=>lhs;unfold iH
 rw [if_neg hl]
theorem yQ {ls:List (List UInt8 × Int)} {us:List UseM} {ops:List OpM} {k:Nat} (hk:k < us.length) (hl:findD (eR us k).name ls < 0):iH ls (us.drop k) ops=(ops,some (eR us k)):=by
 rw [jU hk]
 unfold iH
 rw [if_pos hl]
theorem DAt.useCells {w:World} {B a:Nat} {d:Dp} (h:DAt w B a d) {k:Nat} (hk:k < d.uses.length):∃ b o,d.uA=some ⟨b,o,none⟩∧b < w.heap.size∧w.cell? ⟨b,o + k * 5,none⟩=some (.string (bs (eR d.uses k).name))∧w.cell? ⟨b,o + k * 5 + 1,none⟩=some (.int .i64 (eR d.uses k).line) ∧
 w.cell? ⟨b,o + k * 5 + 2,none⟩=some (.int .i64 (eR d.uses k).col)∧w.cell? ⟨b,o + k * 5 + 3,none⟩=some (.int .i64 (eR d.uses k).op)∧w.cell? ⟨b,o + k * 5 + 4,none⟩=some (.int .i64 (eR d.uses k).how):=by
 have hr:Rd w (fun _=>False) d.uA (flat encUse d.uses):=Rd.of_own h.uses (fun _ h=>h.elim)
 obtain ⟨b,o,hA,_,hb,hc⟩:=cR (n:=5) (enc:=encUse) (fun _=>rfl) hr k _ (jT hk) (by omega)
 exact ⟨b,o,hA,hb,hc 0 (by omega),hc 1 (by omega),hc 2 (by omega),hc 3 (by omega),hc 4 (by omega)⟩
end Go.Proofs.YtaioaojfdngfdaaGreatDoor
