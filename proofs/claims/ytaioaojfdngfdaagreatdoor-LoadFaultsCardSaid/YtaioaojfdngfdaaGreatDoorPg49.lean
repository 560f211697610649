/- The scripts of a text, by the document. Conditions: those of each theorem. -/
import Derived.Test.YtaioaojfdngfdaaGreatDoorPg48
import Derived.Test.YtaioaojfdngfdaaGreatDoorPg47
import Derived.BigRegion
set_option linter.unusedVariables false
set_option linter.unusedSimpArgs false
set_option maxHeartbeats 25600000
namespace Go.Proofs.YtaioaojfdngfdaaGreatDoor
open Go.RowKit
theorem Tryz.infoScrD:(Tryz.prog.info? 53).map (fun i=>(i.zero,i.size,i.bytes))=some (some (.agg #[.string ⟨#[]⟩,.int .i64 0,.int .i64 0,.slice none 0 0,.int .i64 0,.int .i64 0,.int .i64 0,.int .i64 0]),8,88):=by kernel_rfl
theorem rd_sub {w:World} {M:Nat→Prop} {b q:Nat} {l:List (List UInt8)} (h:Rd w M (some ⟨b,q,none⟩) (flat encLn l)) (fr k:Nat) (hk:fr + k≤l.length):Rd w M (some ⟨b,q + fr,none⟩) (flat encLn ((l.drop fr).take k)):=by
 by_cases h0:k=0
 ·subst h0
  rw [List.take_zero]
  exact Or.inl rfl
 ·obtain ⟨b',q',hA,hm,hb,hc⟩:=h.at_ (j:=0) (by rw [bW];omega)
  injection hA with hA
  injection hA with h1 h2
  subst h1 h2
  refine Or.inr ⟨b,q + fr,rfl,hm,hb,fun j hj=>?_⟩
  rw [bW,List.length_take,List.length_drop] at hj
  have e:=hc (fr + j) (by rw [bW];omega)
  rw [← Nat.add_assoc] at e
  rw [e,cN _ _ (by omega),cN _ _ (by rw [List.length_take,List.length_drop];omega)]
  simp [List.getD,List.getElem?_drop,show j < k by omega]
def stD (ls:List (List UInt8)) (i fr:Nat) (o:List ScrM):List ScrM:=if i≤ls.length then lU (ls.drop i) fr ((ls.drop fr).take (i - fr)) o else o
theorem stD_on {ls:List (List UInt8)} {i fr:Nat} {o:List ScrM} (h:i < ls.length) (hf:fr < i) (hh:headB (ls.getD i [])=false):stD ls i fr o=stD ls (i + 1) fr o:=by
 have e:ls.getD i []=ls[i]:=by simp [List.getD,h]
 rw [e] at hh
 unfold stD
 rw [if_pos (by omega),if_pos (by omega),List.drop_eq_getElem_cons h]
 show (if headB ls[i]=true then _ else lU (ls.drop (i + 1)) fr ((ls.drop fr).take (i - fr)++[ls[i]]) o)=_
 rw [if_neg (by rw [hh];decide)]
 congr 1
 have e1:i + 1 - fr=(i - fr) + 1:=by omega
 rw [e1,List.take_add_one,List.getElem?_drop,show fr + (i - fr)=i by omega,List.getElem?_eq_getElem h]
 rfl
theorem stD_head {ls:List (List UInt8)} {i fr:Nat} {o:List ScrM} (h:i < ls.length) (hf:fr < i) (hh:headB (ls.getD i [])=true):stD ls i fr o=stD ls (i + 1) i (pN ⟨fr + 1,(ls.drop fr).take (i - fr)⟩ o):=by
 have e:ls.getD i []=ls[i]:=by simp [List.getD,h]
 rw [e] at hh
 unfold stD
 rw [if_pos (by omega),if_pos (by omega),List.drop_eq_getElem_cons h]
 show (if headB ls[i]=true then lU (ls.drop (i + 1)) (fr + ((ls.drop fr).take (i - fr)).length) [ls[i]] _ else _)=_
 rw [if_pos hh,List.length_take,List.length_drop,show fr + min (i - fr) (ls.length - fr)=i by omega]
 congr 1
 rw [show i + 1 - i=1 by omega]
 rfl
theorem stD_end {ls:List (List UInt8)} {i fr:Nat} {o:List ScrM} (h:i=ls.length):stD ls i fr o=stD ls (i + 1) i (pN ⟨fr + 1,(ls.drop fr).take (i - fr)⟩ o):=by
 unfold stD
 rw [if_pos (by omega),if_neg (by omega),h,List.drop_length]
 rfl
theorem wT (ls:List (List UInt8)) (h:0 < ls.length):dT ls=stD ls 1 0 []:=by
 cases ls with
 | nil=>simp at h
 | cons s r=>unfold stD;rw [if_pos (by simp)];rfl
set_option maxRecDepth 100000 in
theorem xF (s:ByteArray) (w:World) (hs:s.size≤900000):Calls Tryz.prog 24 #[.string s] w fun e w'=>(∃ (A:Option Addr) (c:Nat) (S:List ScrV),e=.returned (.tuple #[.slice A S.length c,.int .i64 (kK s.data.toList).2])∧S.map (·.m)=(kK s.data.toList).1∧Rd w' (· < w.heap.size) A (flat encScr S)∧∀ v ∈ S,OpsRd w' (· < w.heap.size) v.A v.L)∧Only aA w w':=by
 have hsl:s.data.toList.length=s.size:=by simp
 have HOe:=hide (show (w.alloc (.cells #[] 53)).ownsRow w.heap.size 53 8 (.slice (some ⟨w.heap.size,0,none⟩) 0 0) 0 [] from eY (Nat.le_refl _))
 by_cases hz:40000 < s.size
 case pos =>
  have HL:=hide (show kK s.data.toList=([],4) by unfold kK;rw [if_pos (by omega)])
  have d1:decide ((40000:Int) < (s.size:Int))=true:=by simp;omega
  have d2:decide (40000 < s.size)=true:=by simp;omega
  obtain ⟨R,hR⟩:∃ R,R=kK s.data.toList:=⟨_,rfl⟩
  rw [← hR] at HL ⊢
  clear hR hz
  go_enter Tryz.func24,Tryz.ntmps24
  go_wp2_with fail
  refine bodyPost_ret (v:=.tuple #[.slice none 0 0,.int .i64 4]) (by simp [results,Tryz.results24,go_sem];try rfl) rfl ?_
  exact ⟨⟨none,0,[],by rw [HL.out];rfl,by rw [HL.out];rfl,Or.inl rfl,fun v hv=>(by cases hv)⟩,(Only.refl _ _).alloc _⟩
 case neg =>
  have d1:decide ((40000:Int) < (s.size:Int))=false:=by simp;omega
  have d2:decide (40000 < s.size)=false:=by simp;omega
  have HLs:=hide (fun (X:World)=>nN s X (by omega))
  have hlp:=iP s.data.toList
  have hszl:=jZ s.data.toList []
  obtain ⟨ls,hls⟩:∃ ls,ls=bI s.data.toList:=⟨_,rfl⟩
  have hln2:aV s.data.toList []=ls:=hls.symm
  rw [hln2] at hszl
  have hsz:szP ls≤40001:=by rw [hszl];simp;omega
  have HSub:=hide (fun (fr k:Nat)=>(show szP ((ls.drop fr).take k)≤50000 by
   have h1:szP ls=szP (ls.take fr) + szP (ls.drop fr):=by rw [← fD,List.take_append_drop]
   have h2:szP (ls.drop fr)=szP ((ls.drop fr).take k) + szP ((ls.drop fr).drop k):=by rw [← fD,List.take_append_drop]
   omega))
  have HSl:=hide (fun (k:Nat) (hk:k < ls.length)=>(show (ls.getD k []).length≤50000 by
   have e:ls.getD k []=ls[k]:=by simp [List.getD,hk]
   have h1:szP ls=szP (ls.take k) + szP (ls.drop k):=by rw [← fD,List.take_append_drop]
   have h2:szP (ls.drop k)=szP [ls[k]] + szP (ls.drop (k + 1)):=by rw [← fD,List.drop_eq_getElem_cons hk];rfl
   have h3:szP [ls[k]]=ls[k].length + 1:=by simp [szP]
   rw [e];omega))
  have hlen:ls.length≤40001:=by have:=lE ls;omega
  have HHd:=hide (fun (x:List UInt8) (X:World) (h:x.length≤50000)=>uH (bs x) X (by show x.length≤_;omega))
  rw [← hls] at HLs hlp
  have HL:=hide (show kK s.data.toList=if 64 < (dT ls).length then ([],4) else (dT ls,0) by unfold kK;rw [if_neg (by omega),← hls])
  have HSt:=hide (wT ls hlp)
  have HOn:=hide (fun (i fr:Nat) (q:List ScrM) h1 h2 h3=>stD_on (ls:=ls) (i:=i) (fr:=fr) (o:=q) h1 h2 h3)
  have HHe:=hide (fun (i fr:Nat) (q:List ScrM) h1 h2 h3=>stD_head (ls:=ls) (i:=i) (fr:=fr) (o:=q) h1 h2 h3)
  have HEn:=hide (fun (i fr:Nat) (q:List ScrM) h1=>stD_end (ls:=ls) (i:=i) (fr:=fr) (o:=q) h1)
  obtain ⟨R,hR⟩:∃ R,R=kK s.data.toList:=⟨_,rfl⟩
  rw [← hR] at HL ⊢
  obtain ⟨i0,hi,hz0,hz1,hz2⟩:=info_parts Tryz.infoScrD
  clear hR hz hsl hs hls hln2 hszl hsz
  go_enter Tryz.func24,Tryz.ntmps24
  go_wp2_with fail
  generalize hX:World.alloc w _=X
  have HOX:=hide (show X.ownsRow w.heap.size 53 8 (.slice (some ⟨w.heap.size,0,none⟩) 0 0) 0 [] by rw [← hX];exact HOe.out)
  have hXs:w.heap.size < X.heap.size:=by rw [← hX];simp
  have HX:=hide (show Only aA w X by rw [← hX];exact (Only.refl _ w).alloc _)
  clear hX HOe
  refine (HLs.out X).mono ?_
  rintro e W ⟨⟨A1,c1,rfl,ho1⟩,k1⟩
  obtain ⟨b,q,rfl,hb,-⟩:=x8 ho1 0 hlp
  have HRl:=hide (show Rd W aA (some ⟨b,q,none⟩) (flat encLn ls) from Rd.of_own ho1 (fun _ h=>h.elim))
  have hcap:=uP ho1
  have hbX:X.heap.size≤b:=aU ho1 b rfl
  have HWo:=hide (b8 HOX.out (Only.of_below k1 aA) (fun _ _ h=>h.elim))
  have HWk:=hide (HX.out.trans (Only.of_below k1 _))
  have hXw:=HX.out.size
  obtain ⟨B,hB⟩:∃ B,B=w.heap.size:=⟨_,rfl⟩
  rw [← hB] at HWo ⊢
  have HBw:=hide hB
  have HBX:=hide (show B < b by have h1:w.heap.size < X.heap.size:=hXs;omega)
  obtain ⟨n,hn⟩:∃ n,n=ls.length:=⟨_,rfl⟩
  have Hn:=hide hn
  rw [← hn] at hcap hlen hlp ⊢
  clear ho1 k1 HOX HX HLs hn hB
  have HC0:=hide (show LdAt W B 53 [] (.slice (some ⟨B,0,none⟩) 0 0) from ⟨HWo.out,fun s hs=>(by cases hs)⟩)
  have HR0:=hide (show Rd W (fun j=>(Value.slice (some ⟨B,0,none⟩) 0 0).ownBlock=some j) (some ⟨b,q,none⟩) (flat encLn ls) from by
   rcases HRl.out with h | ⟨b',q',hA,_,hb',hc⟩
   ·exact Or.inl h
   ·injection hA with hA;injection hA with h1 h2;subst h1 h2
    exact Or.inr ⟨b,q,rfl,(fun hx=>by have h2:some B=some b:=hx;injection h2 with h2;have:=HBX.out;omega),hb',hc⟩)
  clear HRl HWo
  go_wp2_with fail
  go_loopw [4,6,7,8,9] (fun v f i _ _ wr=>∃ (k fr:Nat) (out:List ScrV),1≤k∧k≤n + 1∧fr < k∧out.length≤k∧f=.int .i64 fr∧i=.int .i64 k∧Hid (LdAt wr B 53 out v)∧Hid (dT ls=stD ls k fr (out.map (·.m)))∧Hid (Rd wr (fun j=>v.ownBlock=some j) (some ⟨b,q,none⟩) (flat encLn ls))∧Hid (Only aA w wr)) (fun _ _ i _ _ _=>n + 1 - (intOf i).toNat)
  case atStart=>exact ⟨1,0,[],by omega,by omega,by omega,Nat.zero_le _,rfl,rfl,HC0,HSt,HR0,HWk⟩
  case round =>
   clear HC0 HR0 HWk HSt
   obtain ⟨k,fr,out,hk1,hkn,hfk,hol,rfl,rfl,HA,HE,HRw,HK⟩:=hrel
   obtain ⟨VA,vc,rfl,hvc⟩:=aW HA.out.own
   have w1:IntKind.i64.wrap ((k:Int) + 1)=(k:Int) + 1:=IntWalk.i64_in _ (by omega)
   have w2:IntKind.i64.wrap ((fr:Int) + 1)=(fr:Int) + 1:=IntWalk.i64_in _ (by omega)
   by_cases hlt:k < n
   case pos =>
    have d3:decide ((k:Int) < (n:Int))=true:=by simp;omega
    have d4:decide (k < n)=true:=by simp;omega
    have d5:decide ((k:Int)≤(n:Int))=true:=by simp;omega
    have d6:decide (k≤n)=true:=by simp;omega
    have j1:(0:Int)≤(k:Int):=by omega
    have j2:(k:Int) < (n:Int):=by omega
    have hkl:k < ls.length:=by rw [← Hn.out];exact hlt
    obtain ⟨b',q',hA',_,hb',hc⟩:=HRw.out.at_ (j:=k) (by rw [bW];exact hkl)
    injection hA' with hA'
    injection hA' with h1 h2
    subst h1 h2
    have gL:wr.cell? ⟨b,q + k,none⟩=some (.string (bs (ls.getD k []))):=by rw [hc k (by rw [bW];exact hkl),cN ls k hkl]
    have hcall:=HHd.out (ls.getD k []) wr (HSl.out k hkl)
    have hon:=HOn.out k fr (out.map (·.m)) hkl hfk
    have hhe:=HHe.out k fr (out.map (·.m)) hkl hfk
    change Calls _ _ _ _ (fun e w'=>e=.returned (.bool (headB (ls.getD k [])))∧w'=wr) at hcall
    obtain ⟨x,hx⟩:∃ x,x=ls.getD k []:=⟨_,rfl⟩
    rw [← hx] at gL hcall hon hhe
    clear hx hc hb'
    cases hh:headB x with
    | false =>
     have HE2:=hide (HE.out.trans (hon hh))
     rw [hh] at hcall
     have HCa:=hide hcall
     clear hcall hon hhe hh HE hkl hlt
     go_wp2_with (go_at_call 49;refine HCa.out.mono ?_;rintro e w2 ⟨rfl,hw2⟩;obtain rfl:=hw2.symm)
     go_roundw
     case rel=>exact ⟨k + 1,fr,out,by omega,by omega,by omega,by omega,rfl,by go_num,HA,HE2,HRw,HK⟩
     case measure=>simp [intOf]<;>omega
    | true =>
     have HE2:=hide (HE.out.trans (hhe hh))
     rw [hh] at hcall
     have HCa:=hide hcall
     clear hcall hon hhe hh HE hkl hlt
     go_upto_region 9 with (go_at_call 49;refine HCa.out.mono ?_;rintro e w2 ⟨rfl,hw2⟩;obtain rfl:=hw2.symm)
     have hlc:((ls.drop fr).take (k - fr)).length=k - fr:=by rw [List.length_take,List.length_drop,← Hn.out];omega
     have hcl:=nM (fr + 1) (some ⟨b,q + fr,none⟩) (c1 - fr) ((ls.drop fr).take (k - fr)) VA vc out wr (rd_sub (HRw.out.mono (fun _ h=>h.elim)) fr (k - fr) (by rw [← Hn.out];omega)) (HSub.out fr (k - fr)) (by omega) (Rd.of_own HA.out.own (fun _ h=>h.elim)) (by omega)
     rw [hlc] at hcl
     have hadd:pN ⟨fr + 1,(ls.drop fr).take (k - fr)⟩ (out.map (·.m))=if dV ((ls.drop fr).take (k - fr))=true then out.map (·.m)++[gR ⟨fr + 1,(ls.drop fr).take (k - fr)⟩ (out.map (·.m))] else out.map (·.m):=rfl
     obtain ⟨S,hS⟩:∃ S,S=dV ((ls.drop fr).take (k - fr)):=⟨_,rfl⟩
     rw [← hS] at hcl hadd
     have HAdd:=hide hadd
     have HCl:=hide hcl
     have j3:(0:Int)≤(fr:Int):=by omega
     have j4:(fr:Int)≤(k:Int):=by omega
     have j5:(k:Int)≤(c1:Int):=by omega
     have d7:decide (c1=fr)=false:=by simp;omega
     have d8:¬ c1=fr:=by omega
     have d9:¬ c1 - fr=0:=by omega
     have tn:((k:Int) - (fr:Int)).toNat=k - fr:=by omega
     have tn2:((fr:Int) + 1)=((fr + 1:Nat):Int):=by omega
     rw [← tn2] at HCl
     clear hcl hadd hS hlc tn2
     go_wp2_with fail
     refine HCl.out.mono ?_
     rintro e w9 ⟨⟨v,rfl,hvm,hvo⟩,k9⟩
     obtain ⟨nm,dd,jj,A2,c2,L2,ln2,x2,y2,er⟩:=v
     simp only [encScr]
     have HVm:=hide hvm
     have HVo:=hide hvo
     have HA9:=hide (HA.out.same k9)
     have HR9:=hide (HRw.out.only k9 (fun _ h=>h.elim))
     have HK9:=hide (HK.out.trans k9)
     have hVX:∀ j,(Value.slice VA out.length vc).ownBlock=some j→j < wr.heap.size:=fun j hj=>cO HA.out.own hj
     have hBX:B≤wr.heap.size:=by have:=HBw.out;have:=HK.out.size;omega
     clear hvm hvo k9 HA HRw HK HCl
     go_upto_region 10 with fail
     generalize hZ:World.alloc w9 _=Z
     have HZb:=hide (show Blk Z w9.heap.size 53 #[.string nm,.int .i64 dd,.int .i64 jj,.slice A2 L2.length c2,.int .i64 ln2,.int .i64 x2,.int .i64 y2,.int .i64 er] by rw [← hZ];exact Blk.new _ _ _)
     have JZ:=hide (show Only aA w9 Z by rw [← hZ];exact (Only.refl _ w9).alloc _)
     have HAZ:=hide (HA9.out.same JZ.out)
     have HRZ:=hide (HR9.out.only JZ.out (fun _ h=>h.elim))
     have HKZ:=hide (HK9.out.trans JZ.out)
     have HVZ:=hide (HVo.out.only JZ.out (fun _ h=>h.elim))
     clear hZ HA9 HR9 HK9 HVo JZ
     cases S with
     | false =>
      have HE3:=hide (show dT ls=stD ls (k + 1) k (out.map (·.m)) by rw [HE2.out,HAdd.out];rfl)
      clear HE2 HAdd
      go_wp2_with fail
      go_roundw
      case rel=>exact ⟨k + 1,k,out,by omega,by omega,by omega,by omega,rfl,by go_num,HAZ,HE3,HRZ,HKZ⟩
      case measure=>simp [intOf]<;>omega
     | true =>
      have HE3:=hide (show dT ls=stD ls (k + 1) k ((out++[(⟨nm,dd,jj,A2,c2,L2,ln2,x2,y2,er⟩:ScrV)]).map (·.m)) by
       have e:gR ⟨fr + 1,(ls.drop fr).take (k - fr)⟩ (out.map (·.m))=ScrV.m (⟨nm,dd,jj,A2,c2,L2,ln2,x2,y2,er⟩:ScrV):=HVm.out.symm
       rw [HE2.out,HAdd.out,List.map_append,e]
       rfl)
      obtain ⟨⟨c0,c1',c2',c3,c4,c5,c6,c7⟩,-⟩:=HZb.out.eightC
      have hX2:=hide (show Rd (Z.alloc (.cells (encScr (⟨nm,dd,jj,A2,c2,L2,ln2,x2,y2,er⟩:ScrV)).toArray 53)) aA (some ⟨Z.heap.size,0,none⟩) (encScr (⟨nm,dd,jj,A2,c2,L2,ln2,x2,y2,er⟩:ScrV)) from aY (Blk.new _ _ _) (fun h=>h))
      have HA4:=hide (HAZ.out.same ((Only.refl _ Z).alloc (.cells (encScr (⟨nm,dd,jj,A2,c2,L2,ln2,x2,y2,er⟩:ScrV)).toArray 53)))
      have HVo4:=hide (HVZ.out.only ((Only.refl aA Z).alloc (.cells (encScr (⟨nm,dd,jj,A2,c2,L2,ln2,x2,y2,er⟩:ScrV)).toArray 53)) (fun _ h=>h.elim))
      have HR4:=hide (HRZ.out.only ((Only.refl aA Z).alloc (.cells (encScr (⟨nm,dd,jj,A2,c2,L2,ln2,x2,y2,er⟩:ScrV)).toArray 53)) (fun _ h=>h.elim))
      have hBa:B≤(Z.alloc (.cells (encScr (⟨nm,dd,jj,A2,c2,L2,ln2,x2,y2,er⟩:ScrV)).toArray 53)).heap.size:=by have:=HBw.out;have:=HKZ.out.size;simp;omega
      clear HE2 HAdd HVm HAZ HRZ HVZ
      go_wp2_with (at_builtin;refine aD _ rfl (.tmp 46) (.tmp 48) _ rfl B 53 i0 (.agg #[.string ⟨#[]⟩,.int .i64 0,.int .i64 0,.slice none 0 0,.int .i64 0,.int .i64 0,.int .i64 0,.int .i64 0]) 8 88 Tryz.underlying49 hi hz0 hz1 hz2 rfl (by omega) _ out.length (flat encScr out) rfl HA4.out.own aA (some ⟨Z.heap.size,0,none⟩) 1 1 (encScr (⟨nm,dd,jj,A2,c2,L2,ln2,x2,y2,er⟩:ScrV)) rfl hX2.out rfl (kV _) (by simp only [maxLen];omega) (by omega) hBa ?_;intro v5 w5 hown5 hgr5 hv5;have Own5:=hide hown5;have Gr5:=hide hgr5;have Hv5:=hide hv5;clear hown5 hgr5 hv5)
      have HA5:=hide (HA4.out.grow Own5.out Gr5.out Hv5.out HVo4.out hBX hVX)
      have HK5:=hide ((HKZ.out.alloc (.cells (encScr (⟨nm,dd,jj,A2,c2,L2,ln2,x2,y2,er⟩:ScrV)).toArray 53)).grown Gr5.out (fun j hj=>Or.inr (by have h1:=aU HA4.out.own j hj;have h2:=HBw.out;omega)))
      have HR5:=hide (jV (M':=fun j=>v5.ownBlock=some j) HR4.out ((Only.refl (fun j=>(Value.slice VA out.length vc).ownBlock=some j) _).grown Gr5.out (fun j hj=>Or.inl hj)) (fun j _ h=>h) (fun j hj=>by
       rcases Hv5.out with h | h
       ·exact Or.inl (h ▸ hj)
       ·have h2:v5.ownBlock=some j:=hj
        rw [h] at h2;injection h2 with h2;exact Or.inr (Nat.le_of_eq h2)))
      clear Own5 Gr5 Hv5 HA4 HVo4 hX2 HKZ HR4
      go_roundw
      case rel=>exact ⟨k + 1,k,out++[(⟨nm,dd,jj,A2,c2,L2,ln2,x2,y2,er⟩:ScrV)],by omega,by omega,by omega,by simp;omega,rfl,by go_num,HA5,HE3,HR5,HK5⟩
      case measure=>simp [intOf]<;>omega
   case neg =>
    by_cases hkn2:k=n
    case pos =>
     subst hkn2
     have d3:decide ((k:Int) < (k:Int))=false:=by simp
     have d4:decide (k < k)=false:=by simp
     have d5:decide ((k:Int)≤(k:Int))=true:=by simp
     have d6:decide (k≤k)=true:=by simp
     have HE2:=hide (HE.out.trans (HEn.out k fr (out.map (·.m)) Hn.out))
     clear HE hlt
     go_upto_region 9 with fail
     have hlc:((ls.drop fr).take (k - fr)).length=k - fr:=by rw [List.length_take,List.length_drop,← Hn.out];omega
     have hcl:=nM (fr + 1) (some ⟨b,q + fr,none⟩) (c1 - fr) ((ls.drop fr).take (k - fr)) VA vc out wr (rd_sub (HRw.out.mono (fun _ h=>h.elim)) fr (k - fr) (by rw [← Hn.out];omega)) (HSub.out fr (k - fr)) (by omega) (Rd.of_own HA.out.own (fun _ h=>h.elim)) (by omega)
     rw [hlc] at hcl
     have hadd:pN ⟨fr + 1,(ls.drop fr).take (k - fr)⟩ (out.map (·.m))=if dV ((ls.drop fr).take (k - fr))=true then out.map (·.m)++[gR ⟨fr + 1,(ls.drop fr).take (k - fr)⟩ (out.map (·.m))] else out.map (·.m):=rfl
     obtain ⟨S,hS⟩:∃ S,S=dV ((ls.drop fr).take (k - fr)):=⟨_,rfl⟩
     rw [← hS] at hcl hadd
     have HAdd:=hide hadd
     have HCl:=hide hcl
     have j3:(0:Int)≤(fr:Int):=by omega
     have j4:(fr:Int)≤(k:Int):=by omega
     have j5:(k:Int)≤(c1:Int):=by omega
     have d7:decide (c1=fr)=false:=by simp;omega
     have d8:¬ c1=fr:=by omega
     have d9:¬ c1 - fr=0:=by omega
     have tn:((k:Int) - (fr:Int)).toNat=k - fr:=by omega
     have tn2:((fr:Int) + 1)=((fr + 1:Nat):Int):=by omega
     rw [← tn2] at HCl
     clear hcl hadd hS hlc tn2
     go_wp2_with fail
     refine HCl.out.mono ?_
     rintro e w9 ⟨⟨v,rfl,hvm,hvo⟩,k9⟩
     obtain ⟨nm,dd,jj,A2,c2,L2,ln2,x2,y2,er⟩:=v
     simp only [encScr]
     have HVm:=hide hvm
     have HVo:=hide hvo
     have HA9:=hide (HA.out.same k9)
     have HR9:=hide (HRw.out.only k9 (fun _ h=>h.elim))
     have HK9:=hide (HK.out.trans k9)
     have hVX:∀ j,(Value.slice VA out.length vc).ownBlock=some j→j < wr.heap.size:=fun j hj=>cO HA.out.own hj
     have hBX:B≤wr.heap.size:=by have:=HBw.out;have:=HK.out.size;omega
     clear hvm hvo k9 HA HRw HK HCl
     go_upto_region 10 with fail
     generalize hZ:World.alloc w9 _=Z
     have HZb:=hide (show Blk Z w9.heap.size 53 #[.string nm,.int .i64 dd,.int .i64 jj,.slice A2 L2.length c2,.int .i64 ln2,.int .i64 x2,.int .i64 y2,.int .i64 er] by rw [← hZ];exact Blk.new _ _ _)
     have JZ:=hide (show Only aA w9 Z by rw [← hZ];exact (Only.refl _ w9).alloc _)
     have HAZ:=hide (HA9.out.same JZ.out)
     have HRZ:=hide (HR9.out.only JZ.out (fun _ h=>h.elim))
     have HKZ:=hide (HK9.out.trans JZ.out)
     have HVZ:=hide (HVo.out.only JZ.out (fun _ h=>h.elim))
     clear hZ HA9 HR9 HK9 HVo JZ
     cases S with
     | false =>
      have HE3:=hide (show dT ls=stD ls (k + 1) k (out.map (·.m)) by rw [HE2.out,HAdd.out];rfl)
      clear HE2 HAdd
      go_wp2_with fail
      go_roundw
      case rel=>exact ⟨k + 1,k,out,by omega,by omega,by omega,by omega,rfl,by go_num,HAZ,HE3,HRZ,HKZ⟩
      case measure=>simp [intOf]<;>omega
     | true =>
      have HE3:=hide (show dT ls=stD ls (k + 1) k ((out++[(⟨nm,dd,jj,A2,c2,L2,ln2,x2,y2,er⟩:ScrV)]).map (·.m)) by
       have e:gR ⟨fr + 1,(ls.drop fr).take (k - fr)⟩ (out.map (·.m))=ScrV.m (⟨nm,dd,jj,A2,c2,L2,ln2,x2,y2,er⟩:ScrV):=HVm.out.symm
       rw [HE2.out,HAdd.out,List.map_append,e]
       rfl)
      obtain ⟨⟨c0,c1',c2',c3,c4,c5,c6,c7⟩,-⟩:=HZb.out.eightC
      have hX2:=hide (show Rd (Z.alloc (.cells (encScr (⟨nm,dd,jj,A2,c2,L2,ln2,x2,y2,er⟩:ScrV)).toArray 53)) aA (some ⟨Z.heap.size,0,none⟩) (encScr (⟨nm,dd,jj,A2,c2,L2,ln2,x2,y2,er⟩:ScrV)) from aY (Blk.new _ _ _) (fun h=>h))
      have HA4:=hide (HAZ.out.same ((Only.refl _ Z).alloc (.cells (encScr (⟨nm,dd,jj,A2,c2,L2,ln2,x2,y2,er⟩:ScrV)).toArray 53)))
      have HVo4:=hide (HVZ.out.only ((Only.refl aA Z).alloc (.cells (encScr (⟨nm,dd,jj,A2,c2,L2,ln2,x2,y2,er⟩:ScrV)).toArray 53)) (fun _ h=>h.elim))
      have HR4:=hide (HRZ.out.only ((Only.refl aA Z).alloc (.cells (encScr (⟨nm,dd,jj,A2,c2,L2,ln2,x2,y2,er⟩:ScrV)).toArray 53)) (fun _ h=>h.elim))
      have hBa:B≤(Z.alloc (.cells (encScr (⟨nm,dd,jj,A2,c2,L2,ln2,x2,y2,er⟩:ScrV)).toArray 53)).heap.size:=by have:=HBw.out;have:=HKZ.out.size;simp;omega
      clear HE2 HAdd HVm HAZ HRZ HVZ
      go_wp2_with (at_builtin;refine aD _ rfl (.tmp 46) (.tmp 48) _ rfl B 53 i0 (.agg #[.string ⟨#[]⟩,.int .i64 0,.int .i64 0,.slice none 0 0,.int .i64 0,.int .i64 0,.int .i64 0,.int .i64 0]) 8 88 Tryz.underlying49 hi hz0 hz1 hz2 rfl (by omega) _ out.length (flat encScr out) rfl HA4.out.own aA (some ⟨Z.heap.size,0,none⟩) 1 1 (encScr (⟨nm,dd,jj,A2,c2,L2,ln2,x2,y2,er⟩:ScrV)) rfl hX2.out rfl (kV _) (by simp only [maxLen];omega) (by omega) hBa ?_;intro v5 w5 hown5 hgr5 hv5;have Own5:=hide hown5;have Gr5:=hide hgr5;have Hv5:=hide hv5;clear hown5 hgr5 hv5)
      have HA5:=hide (HA4.out.grow Own5.out Gr5.out Hv5.out HVo4.out hBX hVX)
      have HK5:=hide ((HKZ.out.alloc (.cells (encScr (⟨nm,dd,jj,A2,c2,L2,ln2,x2,y2,er⟩:ScrV)).toArray 53)).grown Gr5.out (fun j hj=>Or.inr (by have h1:=aU HA4.out.own j hj;have h2:=HBw.out;omega)))
      have HR5:=hide (jV (M':=fun j=>v5.ownBlock=some j) HR4.out ((Only.refl (fun j=>(Value.slice VA out.length vc).ownBlock=some j) _).grown Gr5.out (fun j hj=>Or.inl hj)) (fun j _ h=>h) (fun j hj=>by
       rcases Hv5.out with h | h
       ·exact Or.inl (h ▸ hj)
       ·have h2:v5.ownBlock=some j:=hj
        rw [h] at h2;injection h2 with h2;exact Or.inr (Nat.le_of_eq h2)))
      clear Own5 Gr5 Hv5 HA4 HVo4 hX2 HKZ HR4
      go_roundw
      case rel=>exact ⟨k + 1,k,out++[(⟨nm,dd,jj,A2,c2,L2,ln2,x2,y2,er⟩:ScrV)],by omega,by omega,by omega,by simp;omega,rfl,by go_num,HA5,HE3,HR5,HK5⟩
      case measure=>simp [intOf]<;>omega
    case neg =>
     have d5:decide ((k:Int)≤(n:Int))=false:=by simp;omega
     have d6:decide (k≤n)=false:=by simp;omega
     have HF:=hide (show dT ls=out.map (·.m) by rw [HE.out];unfold stD;rw [if_neg (by rw [← Hn.out];omega)])
     have HRo:=hide (show Rd wr (· < w.heap.size) VA (flat encScr out) from Rd.of_own HA.out.own (fun j hj=>by have h2:j < w.heap.size:=hj;have:=HBw.out;omega))
     have HIo:=hide (show ∀ v ∈ out,OpsRd wr (· < w.heap.size) v.A v.L from fun v hv=>(HA.out.inn v hv).monoP (fun j hb=>Or.inl (by have h2:j < w.heap.size:=hb;have:=HBw.out;omega)))
     clear HE HA HRw
     by_cases h64:64 < out.length
     case pos =>
      have e1:decide ((64:Int) < (out.length:Int))=true:=by simp;omega
      have e2:decide (64 < out.length)=true:=by simp;omega
      have HR:=hide (show R=([],4) by rw [HL.out,HF.out,if_pos (by simp;omega)])
      go_wp2_with fail
      refine bodyPost_ret (v:=.tuple #[.slice none 0 0,.int .i64 4]) (by simp [results,Tryz.results24,go_sem];try rfl) rfl ?_
      exact ⟨⟨none,0,[],by rw [HR.out];rfl,by rw [HR.out];rfl,Or.inl rfl,fun v hv=>(by cases hv)⟩,HK.out⟩
     case neg =>
      have e1:decide ((64:Int) < (out.length:Int))=false:=by simp;omega
      have e2:decide (64 < out.length)=false:=by simp;omega
      have HR:=hide (show R=(out.map (·.m),0) by rw [HL.out,HF.out,if_neg (by simp;omega)])
      go_wp2_with fail
      refine bodyPost_ret (v:=.tuple #[.slice VA out.length vc,.int .i64 0]) (by simp [results,Tryz.results24,go_sem];try rfl) rfl ?_
      exact ⟨⟨VA,vc,out,by rw [HR.out],by rw [HR.out],HRo.out,HIo.out⟩,HK.out⟩
end Go.Proofs.YtaioaojfdngfdaaGreatDoor
