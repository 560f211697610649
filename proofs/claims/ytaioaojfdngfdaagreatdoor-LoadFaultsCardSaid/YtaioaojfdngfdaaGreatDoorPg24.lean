/- Parts of a chain of lemmas: RefPrg1, RefName, RefLine. Conditions: those of each theorem. -/
import Derived.Test.YtaioaojfdngfdaaGreatDoorPg23
import Derived.Test.YtaioaojfdngfdaaGreatDoorPg13
import Derived.Test.YtaioaojfdngfdaaGreatDoorPg09
import Derived.Test.YtaioaojfdngfdaaGreatDoorPg05
import Derived.Test.YtaioaojfdngfdaaGreatDoorPg15
set_option linter.unusedVariables false
set_option linter.unusedSimpArgs false
set_option maxHeartbeats 6400000
namespace Go.Proofs.YtaioaojfdngfdaaGreatDoor
open Go.RowKit
def itD (l:List ItM) (k:Nat):ItM:=l.getD k ⟨false,0,0,0,0⟩
theorem yG {w:World} {M:Nat→Prop} {A:Option Addr} {l:List ItM} (hr:Rd w M A (flat cC l)) (k:Nat) (hk:k < l.length):∃ b o,A=some ⟨b,o,none⟩∧b < w.heap.size ∧
 w.cell? ⟨b,o + k * 5,none⟩=some (.bool (itD l k).run):=by
 have e:l[k]?=some (itD l k):=by simp [itD,List.getD,hk]
 obtain ⟨b,o,hA,hm,hb,hc⟩:=cR qP hr k _ e (by omega)
 exact ⟨b,o,hA,hb,hc 0 (by omega)⟩
def jL (l:List Bool):Nat:=(l.filter (fun b=>!b)).length
theorem zB (l:List ItM) (k:Nat) (h:k < l.length):jL ((l.take (k + 1)).map (·.run))=jL ((l.take k).map (·.run)) + (if (itD l k).run=true then 0 else 1):=by
 have e:itD l k=l[k]:=by simp [itD,List.getD,h]
 rw [List.take_succ_eq_append_getElem h,← e,List.map_append]
 unfold jL
 rw [List.filter_append,List.length_append]
 cases hr:(itD l k).run<;>simp [hr]
theorem zA (l:List Bool):jL l=0↔l.all id=true:=by
 unfold jL
 rw [List.length_eq_zero_iff,List.filter_eq_nil_iff]
 simp
set_option maxRecDepth 100000 in
theorem uG (A:Option Addr) (c:Nat) (l:List ItM) (w:World) (hr:Rd w aA A (flat cC l)) (hn:l.length≤60) :
 Calls Tryz.prog 151 #[.slice A l.length c] w fun e w'=>e=.returned (.int .i64 (jL (l.map (·.run))))∧w'=w:=by
 have Hc:=hide (fun k hk=>yG hr k hk)
 obtain ⟨n,hnl⟩:∃ n,n=l.length:=⟨_,rfl⟩
 rw [← hnl] at hn ⊢
 have Hn:=hide hnl
 clear hr hnl
 go_enter Tryz.func151,Tryz.ntmps151
 go_wp2_with fail
 go_loopw [3,4] (fun v i wr=>∃ k m:Nat,k≤n∧m≤k∧v=.int .i64 m∧i=.int .i64 k∧Hid (jL ((l.take k).map (·.run))=m)∧wr=w) (fun _ i _=>n - (intOf i).toNat)
 case atStart=>exact ⟨0,0,Nat.zero_le _,Nat.zero_le _,rfl,rfl,hide rfl,rfl⟩
 case round =>
  obtain ⟨k,m,hk,hm,rfl,rfl,hml,rfl⟩:=hrel
  by_cases hlt:k < n
  ·obtain ⟨b,o,rfl,hb,g0⟩:=Hc.out k (by rw [← Hn.out];exact hlt)
   have HF:=hide (zB l k (by rw [← Hn.out];exact hlt))
   obtain ⟨r,hrr⟩:∃ r,r=(itD l k).run:=⟨_,rfl⟩
   rw [← hrr] at g0 HF
   clear hrr
   have d1:decide ((k:Int) < (n:Int))=true:=by simp;exact hlt
   have d2:decide (k < n)=true:=by simp;exact hlt
   have j1:(0:Int)≤(k:Int):=by omega
   have j2:(k:Int) < (n:Int):=by omega
   cases r with
   | true =>
    go_wp2_with fail
    go_roundw
    case rel=>exact ⟨k + 1,m,by omega,by omega,rfl,by go_num,hide (by rw [HF.out,hml.out];rfl),trivial⟩
    case measure=>simp [intOf];omega
   | false =>
    go_wp2_with fail
    go_roundw
    case rel=>exact ⟨k + 1,m + 1,by omega,by omega,by go_num,by go_num,hide (by rw [HF.out,hml.out];rfl),trivial⟩
    case measure=>simp [intOf];omega
  ·have hke:k=n:=by omega
   subst hke
   have hd:decide ((k:Int) < k)=false:=by simp
   have hd2:decide (k < k)=false:=by simp
   have ht:l.take k=l:=List.take_of_length_le (by rw [← Hn.out];omega)
   rw [ht] at hml
   have HM:=hide hml.out
   clear ht hlt hml
   go_wp2_with fail
   go_ret
   exact ⟨by rw [HM.out];rfl,rfl⟩
def iJ (l:List UInt8) (w:World) (e:Ending) (w':World):Prop :=
 (∃ (A:Option Addr) (n c:Nat),e=.returned (.tuple #[.slice A n c,.int .i64 (bV l).1,.int .i64 (bV l).2]))∧Below w.heap.size w w'
set_option maxRecDepth 100000 in
theorem uI (s:ByteArray) (w:World) (hs:s.size≤9223372036854775806):Calls Tryz.prog 119 #[.string s] w (iJ s.data.toList w):=by
 have HP:=hide (uF s w hs)
 obtain ⟨L,hL⟩:∃ L,L=s.data.toList:=⟨_,rfl⟩
 rw [← hL] at HP ⊢
 clear hL
 go_enter Tryz.func119,Tryz.ntmps119
 go_wp2_with fail
 refine HP.out.mono ?_
 rintro e w2 ⟨A,c,its,rfl,hm,hl,hr,hb⟩
 have HC:=hide (uG A c its w2 hr hl)
 have HB:=hide hb
 by_cases he:(aM 0 L).2.2=0
 ·have hm':=hm he
  rw [hm'] at HC
  obtain ⟨v,hv⟩:∃ v,v=jL (aM 0 L).1:=⟨_,rfl⟩
  rw [← hv] at HC
  obtain ⟨n,hn⟩:∃ n,n=its.length:=⟨_,rfl⟩
  rw [← hn] at HC ⊢
  have hz:=zA (aM 0 L).1
  rw [← hv] at hz
  have e0:(aM 0 L).2.1=0:=(lL _ 0 L).2 he
  have hq:bV L=if v=0 then (0,9) else (0,0):=by
   unfold bV
   rw [if_neg (by simp [he])]
   by_cases h:v=0
   ·rw [if_pos (hz.1 h),if_pos h]
   ·rw [if_neg (fun h'=>h (hz.2 h')),if_neg h]
  have HQ:=hide hq
  rw [he,e0]
  clear hm hm' hl hr hb he hn hv hz e0 hq HP
  by_cases h0:v=0
  ·subst h0
   replace HQ:=hide (HQ.out.trans (if_pos rfl))
   go_wp2_with fail
   refine HC.out.mono ?_
   rintro e w3 ⟨rfl,h3⟩
   obtain rfl:=h3.symm
   go_wp2_with fail
   refine bodyPost_ret (v:=.tuple #[.slice none 0 0,.int .i64 0,.int .i64 9]) (by simp [results,Tryz.results119,go_sem]) rfl ?_
   unfold iJ
   rw [HQ.out]
   exact ⟨⟨none,0,0,rfl⟩,HB.out⟩
  ·have d1:((v:Int) == 0)=false:=by simp;omega
   have d2:(v == 0)=false:=by simp;omega
   replace HQ:=hide (HQ.out.trans (if_neg h0))
   clear h0
   go_wp2_with fail
   refine HC.out.mono ?_
   rintro e w3 ⟨rfl,h3⟩
   obtain rfl:=h3.symm
   go_wp2_with fail
   refine bodyPost_ret (v:=.tuple #[.slice A n c,.int .i64 (0:Nat),.int .i64 (0:Nat)]) (by simp [results,Tryz.results119,go_sem]) rfl ?_
   unfold iJ
   rw [HQ.out]
   exact ⟨⟨A,n,c,rfl⟩,HB.out⟩
 ·have hq:bV L=(aM 0 L).2:=by unfold bV;rw [if_pos he]
  have HQ:=hide hq
  obtain ⟨r0,a0,e0,h3⟩:∃ r0 a0 e0,aM 0 L=(r0,a0,e0):=⟨_,_,_,rfl⟩
  rw [h3] at HQ he ⊢
  simp only at HQ he ⊢
  have hne:((e0:Int) == 0)=false:=by simp;omega
  have hne2:(e0 == 0)=false:=by simp;omega
  obtain ⟨n,hn⟩:∃ n,n=its.length:=⟨_,rfl⟩
  rw [← hn]
  clear hm hl hr hb he hn hq h3 HP HC
  go_wp2_with fail
  refine bodyPost_ret (v:=.tuple #[.slice A n c,.int .i64 a0,.int .i64 e0]) (by simp [results,Tryz.results119,go_sem]) rfl ?_
  unfold iJ
  rw [HQ.out]
  exact ⟨⟨A,n,c,rfl⟩,HB.out⟩
set_option maxRecDepth 100000 in
theorem pY (s:ByteArray) (w:World) (hs:s.size≤9223372036854775807) :
 Calls Tryz.prog 79 #[.string s] w fun e w'=>e=.returned (.bool (nameB s))∧∃ n,w'=w.drewN n:=by
 go_enter Tryz.func79,Tryz.ntmps79
 go_wp2
 go_loopw [3,4,5] (fun i _ _ wr=>∃ k:Nat,k≤s.size∧i=.int .i64 k∧Hid (∀ j,(hj:j < s.size)→j < k→okC s[j]=true∧(j=0→97≤s[j].toNat))∧Hid (∃ n,wr=w.drewN n)) (fun i _ _ _=>s.size - (intOf i).toNat)
 case atStart=>exact ⟨0,Nat.zero_le _,rfl,hide (fun j hj h=>by omega),hide ⟨0,rfl⟩⟩
 case round =>
  obtain ⟨k,hk,rfl,hall,hw⟩:=hrel
  by_cases hlt:k < s.size
  ·have HF:=hide (fun h=>vR hlt (okC_f h))
   have HT:=hide (show (97≤s[k].toNat∧s[k].toNat≤122∨48≤s[k].toNat∧s[k].toNat≤57)→okC s[k]=true from okC_t)
   have H0:=hide (show k=0→s[k].toNat < 97→nameB s=false from fun h h'=>by subst h;exact oD (by omega) h')
   have hb:s[k].toNat < 256:=UInt8.toNat_lt _
   have j1:(0:Int)≤(k:Int):=by omega
   have j2:(k:Int) < (s.size:Int):=by omega
   go_upto_region 4 with fail
   obtain ⟨nw,rfl⟩:=hw.out
   clear hw
   cases p1:decide ((97:Int)≤(s[k].toNat:Int))
   all_goals cases p2:decide ((s[k].toNat:Int)≤122)
   all_goals cases p3:decide ((48:Int)≤(s[k].toNat:Int))
   all_goals cases p4:decide ((s[k].toNat:Int)≤57)
   all_goals
    have q1:=p1
    have q2:=p2
    have q3:=p3
    have q4:=p4
    simp only [decide_eq_true_eq,decide_eq_false_iff_not] at q1 q2 q3 q4
   all_goals first
    | (exfalso;omega)
    | (go_quiet (fail)
       go_wp2
       all_goals first
        | (go_ret
           first
            | (have hq:=HF.out (by omega)
               exact ⟨by rw [hq];rfl,_,rfl⟩)
            | (have hk0:((k:Int) == 0)=true:=by assumption
               have hq:=H0.out (by simpa using hk0) (by omega)
               exact ⟨by rw [hq];rfl,_,rfl⟩))
        | (go_roundw
           case rel=>exact ⟨k + 1,by omega,by go_num,hide (fun j hj h=>by
            rcases Nat.lt_or_ge j k with hjk | hjk
            ·exact hall.out j hj hjk
            ·obtain rfl:j=k:=by omega
             refine ⟨HT.out (by omega),fun h0=>?_⟩
             first
              | omega
              | (exfalso
                 have hk0:((j:Int) == 0)=false:=by assumption
                 subst h0
                 cases hk0)),hide ⟨_,rfl⟩⟩
           case measure=>simp [intOf];omega))
  ·obtain rfl:k=s.size:=by omega
   obtain ⟨nw,rfl⟩:=hw.out
   clear hw
   have HE:=hide (show nameB s=(decide (0 < s.size) && decide (s.size < 17)) from by
    by_cases h0:s.size=0
    ·rw [jW (Or.inl h0),h0];rfl
    ·by_cases h16:16 < s.size
     ·rw [jW (Or.inr h16)]
      have:decide (s.size < 17)=false:=by simp;omega
      rw [this];simp
     ·rw [sU (by omega) (by omega) ((hall.out 0 (by omega) (by omega)).2 rfl) (fun j hj=>(hall.out j hj hj).1)]
      have h1:decide (0 < s.size)=true:=by simp;omega
      have h2:decide (s.size < 17)=true:=by simp;omega
      rw [h1,h2];rfl)
   cases p1:decide (0 < s.size)
   all_goals cases p2:decide (s.size < 17)
   all_goals
    rw [p1,p2] at HE
    have p3:decide ((0:Int) < (s.size:Int))=decide (0 < s.size):=by simp
    have p4:decide ((s.size:Int) < 17)=decide (s.size < 17):=by
     rw [decide_eq_decide];omega
    rw [p1] at p3
    rw [p2] at p4
    have d1:decide ((s.size:Int) < (s.size:Int))=false:=by simp
    have d2:decide (s.size < s.size)=false:=by simp
    clear hall
    go_wp2
    go_ret
    exact ⟨by rw [HE.out];rfl,nw,rfl⟩
abbrev encLn (x:List UInt8):List Value:=[.string (bs x)]
theorem Tryz.infoStr:(Tryz.prog.info? 9).map (fun i=>(i.zero,i.size,i.bytes))=some (some (.string ⟨#[]⟩),1,16):=by kernel_rfl
theorem vL (s:ByteArray) (a b:Nat):s.extract a b=bs ((s.data.toList.drop a).take (b - a)):=by
 apply rS
 rw [mM]
theorem rK (X:List (List UInt8)) (y:List UInt8):flat encLn (X++[y])=flat encLn X++[.string (bs y)]:=by simp [flat]
set_option maxRecDepth 100000 in
theorem nN (s:ByteArray) (w:World) (hs:s.size≤1000000):Calls Tryz.prog 18 #[.string s] w fun e w'=>(∃ A1 c1,e=.returned (.slice A1 (bI s.data.toList).length c1)∧w'.ownsRow w.heap.size 9 1 (.slice A1 (bI s.data.toList).length c1) (bI s.data.toList).length (flat encLn (bI s.data.toList)))∧Below w.heap.size w w':=by
 obtain ⟨L,hL⟩:∃ L,L=s.data.toList:=⟨_,rfl⟩
 have hLn:L.length=s.size:=by rw [hL];simp
 have HAt:=hide (show ∀ k (h:k < s.size),s[k]'h=atB L k from fun k h=>by rw [hL];exact byte_at s k h)
 have HSub:=hide (show ∀ a b,s.extract a b=bs ((L.drop a).take (b - a)) from fun a b=>by rw [hL];exact vL s a b)
 rw [← hL]
 obtain ⟨R,hR⟩:∃ R,R=bI L:=⟨_,rfl⟩
 obtain ⟨i0,hi,hz0,hz1,hz2⟩:=info_parts Tryz.infoStr
 rw [← hR]
 have HR0:=hide (show R=[]++aV (L.drop 0) ((L.drop 0).take (0 - 0)) by rw [hR];simp [bI])
 have HSt:=hide (show ∀ i cur,i < s.size→aV (L.drop i) cur=if atB L i=10 then cur :: aV (L.drop (i + 1)) [] else aV (L.drop (i + 1)) (cur++[atB L i]) from fun i cur h=>uZ L i cur (by omega))
 have HCut:=hide (show ∀ a i,a≤i→i < s.size→(L.drop a).take (i + 1 - a)=(L.drop a).take (i - a)++[atB L i] from fun a i h h2=>cut_succ L a i h (by omega))
 have HEnd:=hide (show ∀ a,a≤s.size→aV (L.drop s.size) ((L.drop a).take (s.size - a))=[(L.drop a).take (s.size - a)] from fun a h=>by rw [← hLn,List.drop_length];rfl)
 have HO0:=hide (show (w.alloc (.cells #[] 9)).ownsRow w.heap.size 9 1 (.slice (some ⟨w.heap.size,0,none⟩) 0 0) 0 [] from eY (Nat.le_refl _))
 clear hL hR hLn
 go_enter Tryz.func18,Tryz.ntmps18
 go_wp2_with fail
 go_loopw [3,4,5] (fun v a i wr=>∃ (k b:Nat) (out:List (List UInt8)),k≤s.size∧b≤k∧out.length≤k∧a=.int .i64 b∧i=.int .i64 k∧Hid (R=out++aV (L.drop k) ((L.drop b).take (k - b)))∧Hid (wr.ownsRow w.heap.size 9 1 v out.length (flat encLn out))∧Hid (Below w.heap.size w wr)) (fun _ _ i _=>s.size - (intOf i).toNat)
 case atStart=>exact ⟨0,0,[],Nat.zero_le _,Nat.le_refl _,Nat.le_refl _,rfl,rfl,HR0,HO0,hide (aK _ _)⟩
 case round =>
  clear HR0 HO0
  obtain ⟨k,b,out,hk,hbk,hok,rfl,rfl,HRg,HOw,HB⟩:=hrel
  obtain ⟨VA,vc,rfl,hvc⟩:=aW HOw.out
  have w1:IntKind.i64.wrap ((k:Int) + 1)=(k:Int) + 1:=IntWalk.i64_in _ (by omega)
  have j0:(0:Int)≤(b:Int):=by omega
  have j1:(0:Int)≤(k:Int):=by omega
  have j4:(b:Int)≤(k:Int):=by omega
  have j5:(k:Int)≤(s.size:Int):=by omega
  have j6:(b:Int)≤(s.size:Int):=by omega
  have hbsz:=HB.out.size
  by_cases hlt:k < s.size
  case neg =>
   obtain rfl:k=s.size:=by omega
   have e1:decide ((s.size:Int) < (s.size:Int))=false:=by simp
   have e2:decide (s.size < s.size)=false:=by simp
   obtain ⟨ct,hct⟩:∃ ct,ct=s.extract b s.size:=⟨_,rfl⟩
   have HE:=hide (show R=out++[(L.drop b).take (s.size - b)] by rw [HRg.out,HEnd.out b hbk])
   have HCt:=hide hct
   have HCb:=hide (show ct=bs ((L.drop b).take (s.size - b)) by rw [hct,HSub.out])
   have hX:=hide (show Rd (wr.alloc (.cells #[.string ct] 9)) aA (some ⟨wr.heap.size,0,none⟩) [.string ct] from aY (Blk.new _ _ _) (fun h=>h))
   have HOx:=hide (HOw.out.alloc (.cells #[.string ct] 9))
   rw [hct] at hX HOx
   clear hct
   go_wp2_with (first
    | (at_builtin;refine aD _ rfl (.tmp 26) (.tmp 30) _ rfl w.heap.size 9 i0 (.string ⟨#[]⟩) 1 16 Tryz.underlying35 hi hz0 hz1 hz2 rfl (by omega) _ out.length (flat encLn out) rfl HOx.out aA (some ⟨wr.heap.size,0,none⟩) 1 1 [.string (s.extract b s.size)] rfl hX.out rfl (by intro u hu;simp at hu;subst hu;rfl) (by simp only [maxLen];omega) (by omega) (by simp;omega) ?_;intro v5 w5 hown5 hgr _;have Own5:=hide hown5;have Gr:=hide hgr;clear hown5 hgr))
   have HB5:=hide ((HB.out.alloc HB.out.size (.cells #[.string (s.extract b s.size)] 9)).grown Gr.out (by simp;omega) (fun j hj=>by have:=aU HOw.out j hj;omega))
   have HO5:=hide (show w5.ownsRow w.heap.size 9 1 v5 R.length (flat encLn R) by rw [HE.out,rK,← HCb.out,HCt.out,List.length_append];exact Own5.out)
   obtain ⟨A5,c5,hv5,_⟩:=aW HO5.out
   subst hv5
   go_ret
   exact ⟨⟨A5,c5,rfl,HO5.out⟩,HB5.out⟩
  case pos =>
   have e1:decide ((k:Int) < (s.size:Int))=true:=by simp;omega
   have e2:decide (k < s.size)=true:=by simp;omega
   have j2:(k:Int) < (s.size:Int):=by omega
   have HA:=hide (HAt.out k hlt)
   have hck:((s[k]'hlt).toNat:Int)=((atB L k).toNat:Int):=by rw [HA.out]
   by_cases h10:(atB L k).toNat=10
   case pos =>
    have q1:(((atB L k).toNat:Int) == 10)=true:=by simp;omega
    have hb10:atB L k=10:=by apply UInt8.toNat_inj.1;rw [h10];rfl
    have HE:=hide (show R=(out++[(L.drop b).take (k - b)])++aV (L.drop (k + 1)) ((L.drop (k + 1)).take (k + 1 - (k + 1))) by rw [HRg.out,HSt.out k _ hlt,if_pos hb10];simp)
    have HCb:=hide (show s.extract b k=bs ((L.drop b).take (k - b)) from HSub.out b k)
    have hX:=hide (show Rd (wr.alloc (.cells #[.string (s.extract b k)] 9)) aA (some ⟨wr.heap.size,0,none⟩) [.string (s.extract b k)] from aY (Blk.new _ _ _) (fun h=>h))
    have HOx:=hide (HOw.out.alloc (.cells #[.string (s.extract b k)] 9))
    clear h10 hb10
    go_wp2_with (first
     | (at_builtin;refine aD _ rfl (.tmp 17) (.tmp 22) _ rfl w.heap.size 9 i0 (.string ⟨#[]⟩) 1 16 Tryz.underlying35 hi hz0 hz1 hz2 rfl (by omega) _ out.length (flat encLn out) rfl HOx.out aA (some ⟨wr.heap.size,0,none⟩) 1 1 [.string (s.extract b k)] rfl hX.out rfl (by intro u hu;simp at hu;subst hu;rfl) (by simp only [maxLen];omega) (by omega) (by simp;omega) ?_;intro v5 w5 hown5 hgr _;have Own5:=hide hown5;have Gr:=hide hgr;clear hown5 hgr))
    have HB5:=hide ((HB.out.alloc HB.out.size (.cells #[.string (s.extract b k)] 9)).grown Gr.out (by simp;omega) (fun j hj=>by have:=aU HOw.out j hj;omega))
    have HO5:=hide (show w5.ownsRow w.heap.size 9 1 v5 (out++[(L.drop b).take (k - b)]).length (flat encLn (out++[(L.drop b).take (k - b)])) by rw [rK,← HCb.out,List.length_append];exact Own5.out)
    go_roundw
    case rel=>exact ⟨k + 1,k + 1,out++[(L.drop b).take (k - b)],by omega,by omega,by simp;omega,by go_num,by go_num,HE,HO5,HB5⟩
    case measure=>simp [intOf];omega
   case neg =>
    have q1:(((atB L k).toNat:Int) == 10)=false:=by simp;omega
    have HE:=hide (show R=out++aV (L.drop (k + 1)) ((L.drop b).take (k + 1 - b)) by rw [HRg.out,HSt.out k _ hlt,if_neg (fun h=>h10 (by rw [h];rfl)),HCut.out b k hbk hlt])
    clear h10
    go_wp2_with fail
    go_roundw
    case rel=>exact ⟨k + 1,b,out,by omega,by omega,by omega,rfl,by go_num,HE,HOw,HB⟩
    case measure=>simp [intOf];omega
theorem Idle_c (s:ByteArray) (w:World):Calls Tryz.prog 37 #[.string s] w fun e w'=>e=.returned (.bool (idleB s.data.toList))∧w'=w:=by
 have hLn:s.data.toList.length=s.size:=by simp
 have HI:=hide (show idleB s.data.toList=(decide (s.size=0) || decide (atB s.data.toList 0=35)) by unfold idleB;rw [hLn])
 obtain ⟨p,hp⟩:∃ p,p=idleB s.data.toList:=⟨_,rfl⟩
 rw [← hp] at HI ⊢
 clear hp hLn
 by_cases hz:s.size=0
 ·have HE:=hide (show p=true by rw [HI.out,decide_eq_true hz];rfl)
  obtain rfl:=fE hz
  clear hz HI
  go_enter Tryz.func37,Tryz.ntmps37
  go_wp2_with fail
  go_ret
  exact ⟨by rw [HE.out];rfl,rfl⟩
 ·have hne:=str_some hz
  have h0:0 < s.size:=by omega
  have HI2:=hide (show p=decide (atB s.data.toList 0=35) by rw [HI.out,decide_eq_false hz];rfl)
  obtain ⟨n,hn⟩:∃ n,n=(atB s.data.toList 0).toNat:=⟨_,rfl⟩
  have hc0:((s[0]'h0).toNat:Int)=(n:Int):=by rw [hn,byte_at s 0 h0]
  have i35:atB s.data.toList 0=35↔n=35:=by rw [hn,← UInt8.toNat_inj];rfl
  by_cases h:n=35
  ·have q1:((n:Int) == 35)=true:=beq_iff_eq.2 (by omega)
   have HE:=hide (show p=true by rw [HI2.out,decide_eq_true (i35.2 h)])
   clear h hn i35 HI HI2 hz
   go_enter Tryz.func37,Tryz.ntmps37
   go_wp2_with fail
   go_ret
   exact ⟨by rw [HE.out];rfl,rfl⟩
  ·have q1:((n:Int) == 35)=false:=beq_eq_false_iff_ne.2 (by omega)
   have HE:=hide (show p=false by rw [HI2.out,decide_eq_false (fun h2=>h (i35.1 h2))])
   clear h hn i35 HI HI2 hz
   go_enter Tryz.func37,Tryz.ntmps37
   go_wp2_with fail
   go_ret
   exact ⟨by rw [HE.out];rfl,rfl⟩
theorem pZ (s:ByteArray) (w:World):Calls Tryz.prog 42 #[.string s] w fun e w'=>e=.returned (.bool (idleB s.data.toList))∧w'=w:=by
 have hLn:s.data.toList.length=s.size:=by simp
 have HI:=hide (show idleB s.data.toList=(decide (s.size=0) || decide (atB s.data.toList 0=35)) by unfold idleB;rw [hLn])
 obtain ⟨p,hp⟩:∃ p,p=idleB s.data.toList:=⟨_,rfl⟩
 rw [← hp] at HI ⊢
 clear hp hLn
 by_cases hz:s.size=0
 ·have HE:=hide (show p=true by rw [HI.out,decide_eq_true hz];rfl)
  obtain rfl:=fE hz
  clear hz HI
  go_enter Tryz.func42,Tryz.ntmps42
  go_wp2_with fail
  go_ret
  exact ⟨by rw [HE.out];rfl,rfl⟩
 ·have hne:=str_some hz
  have h0:0 < s.size:=by omega
  have HI2:=hide (show p=decide (atB s.data.toList 0=35) by rw [HI.out,decide_eq_false hz];rfl)
  obtain ⟨n,hn⟩:∃ n,n=(atB s.data.toList 0).toNat:=⟨_,rfl⟩
  have hc0:((s[0]'h0).toNat:Int)=(n:Int):=by rw [hn,byte_at s 0 h0]
  have i35:atB s.data.toList 0=35↔n=35:=by rw [hn,← UInt8.toNat_inj];rfl
  by_cases h:n=35
  ·have q1:((n:Int) == 35)=true:=beq_iff_eq.2 (by omega)
   have HE:=hide (show p=true by rw [HI2.out,decide_eq_true (i35.2 h)])
   clear h hn i35 HI HI2 hz
   go_enter Tryz.func42,Tryz.ntmps42
   go_wp2_with fail
   go_ret
   exact ⟨by rw [HE.out];rfl,rfl⟩
  ·have q1:((n:Int) == 35)=false:=beq_eq_false_iff_ne.2 (by omega)
   have HE:=hide (show p=false by rw [HI2.out,decide_eq_false (fun h2=>h (i35.1 h2))])
   clear h hn i35 HI HI2 hz
   go_enter Tryz.func42,Tryz.ntmps42
   go_wp2_with fail
   go_ret
   exact ⟨by rw [HE.out];rfl,rfl⟩
end Go.Proofs.YtaioaojfdngfdaaGreatDoor
