/- Parts of a chain of lemmas: RefRd3, RefLex1. Conditions: those of each theorem. -/
import Derived.Test.YtaioaojfdngfdaaGreatDoorPg36
import Derived.Test.YtaioaojfdngfdaaGreatDoorPg15
set_option linter.unusedVariables false
set_option linter.unusedSimpArgs false
set_option maxHeartbeats 12800000
namespace Go.Proofs.YtaioaojfdngfdaaGreatDoor
open Go.RowKit
theorem yO (s:ByteArray) (k:Nat):(s.extract k s.size).data.toList=s.data.toList.drop k:=by
 rw [mM]
 apply List.take_of_length_le
 rw [List.length_drop]
 have:s.data.toList.length=s.size:=by simp
 omega
set_option maxRecDepth 100000 in
theorem xA (s:ByteArray) (w:World) (hs:s.size≤1000000000):Calls Tryz.prog 148 #[.string s] w fun e w'=>e=.returned (.tuple #[.string (bs (bR s.data.toList).1),.int .i64 (bR s.data.toList).2.1,.int .i64 (bR s.data.toList).2.2])∧Below w.heap.size w w':=by
 obtain ⟨L,hL⟩:∃ L,L=s.data.toList:=⟨_,rfl⟩
 have hLn:L.length=s.size:=by rw [hL];simp
 have HAt:=hide (show ∀ k (h:k < s.size),s[k]'h=atB L k from fun k h=>by rw [hL];exact byte_at s k h)
 have HOne:=hide (show ∀ k,k≤s.size→∀ w',Calls Tryz.prog 182 #[.string (s.extract k s.size)] w' fun e w2=>e=.returned (.tuple #[.int .u8 (bD L k).1.toNat,.int .i64 (bD L k).2.1,.bool (bD L k).2.2])∧Below w'.heap.size w' w2 from fun k hk w'=>by
  have h1:=one_c (s.extract k s.size) w' (by rw [gU s k s.size hk (Nat.le_refl _)];omega)
  rw [yO,← hL,uS L k (by omega)] at h1
  exact h1)
 rw [← hL]
 obtain ⟨R,hR⟩:∃ R,R=bR L:=⟨_,rfl⟩
 obtain ⟨i0,hi,hz0,hz1,hz2⟩:=info_parts Tryz.infoU8
 rw [← hR]
 have HRd:=hide (show R=if 0 < s.size∧atB L 0=34 then bU (s.size + 1) L 1 [] else ([],0,if s.size=0 then 3 else 2) by rw [hR];unfold bR;rw [hLn])
 have HG1:=hide (show ∀ f k out,k < s.size→atB L k=34→bU (f + 1) L k out=(out,k + 1,0) from fun f k out h h2=>by
  unfold bU
  rw [if_pos ⟨by omega,h2⟩])
 have HG2:=hide (show ∀ f k out,(bD L k).2.2=true→bU (f + 1) L k out=bU f L (k + (bD L k).2.1) (out++[(bD L k).1]) from fun f k out h=>by
  have h3:¬ (k < L.length∧atB L k=34):=fun h2=>by
   have h1:bD L k=(0,0,false):=by unfold bD;rw [if_neg (by omega),if_pos (Or.inr (Or.inr h2.2))]
   rw [h1] at h;cases h
  rw [bU,if_neg h3,if_pos h])
 have HG3:=hide (show ∀ f k out,¬ (k < s.size∧atB L k=34)→(bD L k).2.2=false→bU (f + 1) L k out=([],k + (bD L k).2.1,if k + (bD L k).2.1=s.size then 3 else 2) from fun f k out h h2=>by
  rw [bU,if_neg (by rw [hLn];exact h),if_neg (by rw [h2];simp),hLn])
 have HOle:=hide (show ∀ k,k≤s.size→k + (bD L k).2.1≤s.size from fun k h=>by have:=lO L k (by omega);omega)
 have HOpos:=hide (show ∀ k,(bD L k).2.2=true→1≤(bD L k).2.1 from fun k h=>(mC L k h).1)
 clear hL hR hLn
 by_cases hz:s.size=0
 case pos =>
  obtain rfl:=fE hz
  have HE:=hide (show R=([],0,3) by rw [HRd.out,if_neg (fun h=>absurd h.1 (by decide))];rfl)
  go_enter Tryz.func148,Tryz.ntmps148
  go_wp2_with fail
  refine bodyPost_ret (v:=.tuple #[.string ⟨#[]⟩,.int .i64 0,.int .i64 3]) (by simp [results,Tryz.results148,go_sem];try rfl) rfl ?_
  exact ⟨by rw [HE.out];rfl,aK _ _⟩
 case neg =>
  have hne:=str_some hz
  have h0:0 < s.size:=by omega
  have HA:=hide (HAt.out 0 h0)
  obtain ⟨n0,hn0⟩:∃ n0,n0=(atB L 0).toNat:=⟨_,rfl⟩
  have hc0:((s[0]'h0).toNat:Int)=(n0:Int):=by rw [hn0,HA.out]
  by_cases h34:n0=34
  case neg =>
   have d1:((n0:Int) == 34)=false:=beq_eq_false_iff_ne.2 (by omega)
   have d2:((0:Int) == (s.size:Int))=false:=beq_eq_false_iff_ne.2 (by omega)
   have HE:=hide (show R=([],0,2) by rw [HRd.out,if_neg (fun h=>h34 (by rw [hn0,h.2];rfl)),if_neg hz])
   clear h34 hn0 hz
   go_enter Tryz.func148,Tryz.ntmps148
   go_wp2_with fail
   refine bodyPost_ret (v:=.tuple #[.string ⟨#[]⟩,.int .i64 0,.int .i64 2]) (by simp [results,Tryz.results148,go_sem];try rfl) rfl ?_
   exact ⟨by rw [HE.out];rfl,aK _ _⟩
  case pos =>
   have d1:((n0:Int) == 34)=true:=beq_iff_eq.2 (by omega)
   have HE:=hide (show R=bU (s.size + 1) L 1 [] by rw [HRd.out,if_pos ⟨h0,by apply UInt8.toNat_inj.1;rw [← hn0,h34];rfl⟩])
   clear h34 hn0 hz HRd
   have HO0:=hide (show (w.alloc (.cells #[] 5)).ownsRow w.heap.size 5 1 (.slice (some ⟨w.heap.size,0,none⟩) 0 0) 0 [] from eY (Nat.le_refl _))
   go_enter Tryz.func148,Tryz.ntmps148
   go_wp2_with fail
   go_loopw [5,6] (fun i v wr=>∃ (f k:Nat) (out:List UInt8),k≤s.size∧out.length≤k∧s.size < f + k∧i=.int .i64 k∧Hid (R=bU f L k out)∧Hid (wr.ownsRow w.heap.size 5 1 v out.length (bys out))∧Hid (Below w.heap.size w wr)) (fun i _ _=>s.size + 1 - (intOf i).toNat)
   case atStart=>exact ⟨s.size + 1,1,[],h0,by simp,by omega,rfl,HE,HO0,hide (aK _ _)⟩
   case round =>
    clear HE HO0
    obtain ⟨f,k,out,hk,hok,hf,rfl,HRg,HOw,HB⟩:=hrel
    obtain ⟨VA,vc,rfl,hvc⟩:=aW HOw.out
    have HCv:=tL HOw.out
    have w1:IntKind.i64.wrap ((k:Int) + 1)=(k:Int) + 1:=IntWalk.i64_in _ (by omega)
    obtain ⟨f,rfl⟩:∃ f',f=f' + 1:=⟨f - 1,by omega⟩
    have hle:=HOle.out k hk
    have HG2k:=hide (HG2.out f k out)
    have HG3k:=hide (HG3.out f k out)
    have HOp:=hide (HOpos.out k)
    have HOk:=hide (HOne.out k hk)
    have HO34:=hide (show k < s.size→atB L k=34→(bD L k).2.2=false from fun h h2=>by
     cases hh:(bD L k).2.2 with
     | false=>rfl
     | true =>
      have h3:=HG2k.out hh
      rw [HG1.out f k out h h2] at h3
      unfold bD at hh
      split at hh
      ·cases hh
      rw [if_pos (Or.inr (Or.inr h2))] at hh
      cases hh)
    by_cases hq:k < s.size∧atB L k=34
    case pos =>
     have hlt:=hq.1
     have e1:decide ((k:Int) < (s.size:Int))=true:=by simp;omega
     have e2:decide (k < s.size)=true:=by simp;omega
     have j1:(0:Int)≤(k:Int):=by omega
     have j2:(k:Int) < (s.size:Int):=by omega
     have HA:=hide (HAt.out k hlt)
     have hck:((s[k]'hlt).toNat:Int)=34:=by rw [HA.out,hq.2];rfl
     have HE:=hide (show R=(out,k + 1,0) by rw [HRg.out,HG1.out f k out hlt hq.2])
     clear hq
     go_wp2_with fail
     refine bodyPost_ret (v:=.tuple #[.string (bs out),.int .i64 ((k:Int) + 1),.int .i64 0]) (by simp [results,Tryz.results148,go_sem];try rfl) rfl ?_
     exact ⟨by rw [HE.out];rfl,HB.out⟩
    case neg =>
     obtain ⟨⟨ob,on_,oo⟩,hO⟩:∃ X,X=bD L k:=⟨_,rfl⟩
     rw [← hO] at hle HG2k HG3k HOp HOk
     simp only at hle HG2k HG3k HOp HOk
     clear hO
     obtain ⟨kn,hkn⟩:∃ kn,kn=k + on_:=⟨_,rfl⟩
     rw [← hkn] at hle HG2k HG3k
     have w2:IntKind.i64.wrap ((k:Int) + (on_:Int))=(kn:Int):=by rw [IntWalk.i64_in _ (by omega)];omega
     have HKn:=hide hkn
     have j1:(0:Int)≤(k:Int):=by omega
     have j2:(k:Int)≤(s.size:Int):=by omega
     have HG3q:=hide (HG3k.out hq)
     clear HO34 hkn HG3k HG2 HG3 HOle HOpos HOne
     cases oo with
     | false =>
      by_cases hlt:k < s.size
      case pos =>
       have e1:decide ((k:Int) < (s.size:Int))=true:=by simp;omega
       have e2:decide (k < s.size)=true:=by simp;omega
       have j3:(k:Int) < (s.size:Int):=by omega
       have HA:=hide (HAt.out k hlt)
       have hck:((s[k]'hlt).toNat:Int)=((atB L k).toNat:Int):=by rw [HA.out]
       have hn34:(atB L k).toNat≠34:=fun h=>hq ⟨hlt,by apply UInt8.toNat_inj.1;rw [h];rfl⟩
       have q1:(((atB L k).toNat:Int) == 34)=false:=beq_eq_false_iff_ne.2 (by omega)
       clear hq hn34
       by_cases hks:kn=s.size
       case pos =>
        have q2:((kn:Int) == (s.size:Int))=true:=beq_iff_eq.2 (by omega)
        have HE:=hide (show R=([],kn,3) by rw [HRg.out,HG3q.out rfl,if_pos hks])
        clear hks
        go_wp2_with fail
        refine (HOk.out _).mono ?_
        rintro e w3 ⟨rfl,hb3⟩
        have HB3:=hide (HB.out.trans (hb3.mono HB.out.size))
        have HOw3:=hide (b8 HOw.out (Only.of_below hb3 aA) (fun _ _ h=>h.elim))
        clear hb3
        go_wp2_with fail
        refine bodyPost_ret (v:=.tuple #[.string ⟨#[]⟩,.int .i64 kn,.int .i64 3]) (by simp [results,Tryz.results148,go_sem];try rfl) rfl ?_
        exact ⟨by rw [HE.out];rfl,HB3.out⟩
       case neg =>
        have q2:((kn:Int) == (s.size:Int))=false:=beq_eq_false_iff_ne.2 (by omega)
        have HE:=hide (show R=([],kn,2) by rw [HRg.out,HG3q.out rfl,if_neg hks])
        clear hks
        go_wp2_with fail
        refine (HOk.out _).mono ?_
        rintro e w3 ⟨rfl,hb3⟩
        have HB3:=hide (HB.out.trans (hb3.mono HB.out.size))
        have HOw3:=hide (b8 HOw.out (Only.of_below hb3 aA) (fun _ _ h=>h.elim))
        clear hb3
        go_wp2_with fail
        refine bodyPost_ret (v:=.tuple #[.string ⟨#[]⟩,.int .i64 kn,.int .i64 2]) (by simp [results,Tryz.results148,go_sem];try rfl) rfl ?_
        exact ⟨by rw [HE.out];rfl,HB3.out⟩
      case neg =>
       have e1:decide ((k:Int) < (s.size:Int))=false:=by simp;omega
       have e2:decide (k < s.size)=false:=by simp;omega
       clear hq
       by_cases hks:kn=s.size
       case pos =>
        have q2:((kn:Int) == (s.size:Int))=true:=beq_iff_eq.2 (by omega)
        have HE:=hide (show R=([],kn,3) by rw [HRg.out,HG3q.out rfl,if_pos hks])
        clear hks
        go_wp2_with fail
        refine (HOk.out _).mono ?_
        rintro e w3 ⟨rfl,hb3⟩
        have HB3:=hide (HB.out.trans (hb3.mono HB.out.size))
        have HOw3:=hide (b8 HOw.out (Only.of_below hb3 aA) (fun _ _ h=>h.elim))
        clear hb3
        go_wp2_with fail
        refine bodyPost_ret (v:=.tuple #[.string ⟨#[]⟩,.int .i64 kn,.int .i64 3]) (by simp [results,Tryz.results148,go_sem];try rfl) rfl ?_
        exact ⟨by rw [HE.out];rfl,HB3.out⟩
       case neg =>
        have q2:((kn:Int) == (s.size:Int))=false:=beq_eq_false_iff_ne.2 (by omega)
        have HE:=hide (show R=([],kn,2) by rw [HRg.out,HG3q.out rfl,if_neg hks])
        clear hks
        go_wp2_with fail
        refine (HOk.out _).mono ?_
        rintro e w3 ⟨rfl,hb3⟩
        have HB3:=hide (HB.out.trans (hb3.mono HB.out.size))
        have HOw3:=hide (b8 HOw.out (Only.of_below hb3 aA) (fun _ _ h=>h.elim))
        clear hb3
        go_wp2_with fail
        refine bodyPost_ret (v:=.tuple #[.string ⟨#[]⟩,.int .i64 kn,.int .i64 2]) (by simp [results,Tryz.results148,go_sem];try rfl) rfl ?_
        exact ⟨by rw [HE.out];rfl,HB3.out⟩
     | true =>
      by_cases hlt:k < s.size
      case pos =>
       have e1:decide ((k:Int) < (s.size:Int))=true:=by simp;omega
       have e2:decide (k < s.size)=true:=by simp;omega
       have j3:(k:Int) < (s.size:Int):=by omega
       have HA:=hide (HAt.out k hlt)
       have hck:((s[k]'hlt).toNat:Int)=((atB L k).toNat:Int):=by rw [HA.out]
       have hn34:(atB L k).toNat≠34:=fun h=>hq ⟨hlt,by apply UInt8.toNat_inj.1;rw [h];rfl⟩
       have q1:(((atB L k).toNat:Int) == 34)=false:=beq_eq_false_iff_ne.2 (by omega)
       clear hq hn34
       have HE:=hide (show R=bU f L kn (out++[ob]) by rw [HRg.out,HG2k.out rfl])
       have hon:=HOp.out rfl
       have hkn2:=HKn.out
       have hle9:k < kn:=by omega
       clear hkn2
       go_wp2_with fail
       refine (HOk.out _).mono ?_
       rintro e w3 ⟨rfl,hb3⟩
       have HB3:=hide (HB.out.trans (hb3.mono HB.out.size))
       have HOw3:=hide (b8 HOw.out (Only.of_below hb3 aA) (fun _ _ h=>h.elim))
       clear hb3
       have hX:=hide (show Rd (w3.alloc (.cells #[.int .u8 ob.toNat] 5)) aA (some ⟨w3.heap.size,0,none⟩) [.int .u8 ob.toNat] from aY (Blk.new _ _ _) (fun h=>h))
       have HOw4:=hide (HOw3.out.alloc (.cells #[.int .u8 ob.toNat] 5))
       go_wp2_with (first
        | (at_builtin;refine aD _ rfl (.tmp 45) (.tmp 47) _ rfl w.heap.size 5 i0 (.int .u8 0) 1 1 Tryz.underlying47 hi hz0 hz1 hz2 rfl (by omega) _ out.length (bys out) rfl HOw4.out aA (some ⟨w3.heap.size,0,none⟩) 1 1 [.int .u8 ob.toNat] rfl hX.out rfl (by intro u hu;simp at hu;subst hu;rfl) (by simp only [maxLen];omega) (by omega) (by have:=HB3.out.size;simp;omega) ?_;intro v5 w5 hown5 hgr _;have Own5:=hide hown5;have Gr:=hide hgr;clear hown5 hgr))
       have HB5:=hide ((HB3.out.alloc HB3.out.size (.cells #[.int .u8 ob.toNat] 5)).grown Gr.out (by have:=HB3.out.size;simp;omega) (fun j hj=>by have:=aU HOw3.out j hj;omega))
       have HOw5:=hide (show w5.ownsRow w.heap.size 5 1 v5 (out++[ob]).length (bys (out++[ob])) by rw [oV,List.length_append];exact Own5.out)
       go_roundw
       case rel=>exact ⟨f,kn,out++[ob],hle,by simp;omega,by omega,rfl,HE,HOw5,HB5⟩
       case measure=>simp [intOf];omega
      case neg =>
       exfalso
       have h1:=HOp.out rfl
       have h2:=HKn.out
       omega
theorem uD (b:UInt8) (m:Int) (hm:m=b.toNat) (w:World):Calls Tryz.prog 149 #[.int .u8 m] w fun e w'=>e=.returned (.bool (cV b))∧w'=w:=by
 subst hm
 obtain ⟨n,hn⟩:∃ n,n=b.toNat:=⟨_,rfl⟩
 have HP:=hide (nT b n hn)
 rw [← hn]
 obtain ⟨p,hp⟩:∃ p,p=cV b:=⟨_,rfl⟩
 rw [← hp] at HP ⊢
 clear hn hp
 by_cases h1:33≤n
 case neg =>
  have HE:=hide (show p=false by rw [HP.out,decide_eq_false h1];rfl)
  have d1:decide ((32:Int) < (n:Int))=false:=by simp;omega
  clear h1
  go_enter Tryz.func149,Tryz.ntmps149
  go_wp2_with fail
  go_ret
  exact ⟨by rw [HE.out];rfl,rfl⟩
 case pos =>
  have d1:decide ((32:Int) < (n:Int))=true:=by simp;omega
  by_cases h2:n≤126
  case neg =>
   have HE:=hide (show p=false by rw [HP.out,decide_eq_false h2];simp)
   have d2:decide ((n:Int) < 127)=false:=by simp;omega
   clear h1 h2
   go_enter Tryz.func149,Tryz.ntmps149
   go_wp2_with fail
   go_ret
   exact ⟨by rw [HE.out];rfl,rfl⟩
  case pos =>
   have d2:decide ((n:Int) < 127)=true:=by simp;omega
   by_cases h3:n≠34
   case neg =>
    have HE:=hide (show p=false by rw [HP.out,decide_eq_false h3];simp)
    have d3:((n:Int) != 34)=false:=by simp;omega
    clear h1 h2 h3
    go_enter Tryz.func149,Tryz.ntmps149
    go_wp2_with fail
    go_ret
    exact ⟨by rw [HE.out];rfl,rfl⟩
   case pos =>
    have d3:((n:Int) != 34)=true:=by simp;omega
    by_cases h4:n≠92
    case neg =>
     have HE:=hide (show p=false by rw [HP.out,decide_eq_false h4];simp)
     have d4:((n:Int) != 92)=false:=by simp;omega
     clear h1 h2 h3 h4
     go_enter Tryz.func149,Tryz.ntmps149
     go_wp2_with fail
     go_ret
     exact ⟨by rw [HE.out];rfl,rfl⟩
    case pos =>
     have d4:((n:Int) != 92)=true:=by simp;omega
     have HE:=hide (show p=true by rw [HP.out];simp [h1,h2,h3,h4])
     clear h1 h2 h3 h4
     go_enter Tryz.func149,Tryz.ntmps149
     go_wp2_with fail
     go_ret
     exact ⟨by rw [HE.out];rfl,rfl⟩
theorem mO (L:List UInt8) (k:Nat) (h:k≤L.length):(wordAt L k).1.text=(wordAt (L.drop k) 0).1.text∧(wordAt L k).1.quoted=(wordAt (L.drop k) 0).1.quoted∧(wordAt L k).1.at_=k∧(wordAt L k).2=(wordAt (L.drop k) 0).2:=by
 have h1:(0 < (L.drop k).length∧atB (L.drop k) 0=34)↔(k < L.length∧atB L k=34):=by rw [tM,List.length_drop,Nat.add_zero];constructor<;>(rintro ⟨a,b⟩;exact ⟨by omega,b⟩)
 have h2:(0=(L.drop k).length)↔(k=L.length):=by rw [List.length_drop];omega
 unfold wordAt
 rw [List.drop_zero]
 by_cases q:k < L.length∧atB L k=34
 ·rw [if_pos q,if_pos (h1.2 q)];exact ⟨rfl,rfl,rfl,rfl⟩
 rw [if_neg q,if_neg (fun h=>q (h1.1 h))]
 by_cases q2:eB (L.drop k)=0
 ·rw [if_pos q2,if_pos q2]
  refine ⟨rfl,rfl,rfl,?_⟩
  simp only [h2]
 ·rw [if_neg q2,if_neg q2];exact ⟨rfl,rfl,rfl,rfl⟩
set_option maxRecDepth 100000 in
theorem xC (s:ByteArray) (w:World) (hs:s.size≤1000000000):Calls Tryz.prog 118 #[.string s] w fun e w'=>e=.returned (.tuple #[.agg #[.string (bs (wordAt s.data.toList 0).1.text),.bool (wordAt s.data.toList 0).1.quoted,.int .i64 0],.int .i64 (wordAt s.data.toList 0).2.1,.int .i64 (wordAt s.data.toList 0).2.2])∧Below w.heap.size w w':=by
 obtain ⟨L,hL⟩:∃ L,L=s.data.toList:=⟨_,rfl⟩
 have hLn:L.length=s.size:=by rw [hL];simp
 have HAt:=hide (show ∀ k (h:k < s.size),s[k]'h=atB L k from fun k h=>by rw [hL];exact byte_at s k h)
 have HPl:=hide (fun (b:UInt8) (m:Int) (hm:m=b.toNat) (w':World)=>uD b m hm w')
 have HRdk:=hide (fun w'=>xA s w' hs)
 have HSub:=hide (show ∀ n,s.extract 0 n=bs (L.take n) from fun n=>by have:=sub_bs s 0 n;rw [Nat.zero_add,List.drop_zero,← hL] at this;exact this)
 rw [← hL] at HRdk ⊢
 have HBe:=hide (show ∀ k,k≤s.size→(∀ j,j < k→cV (atB L j)=true)→(k < s.size→cV (atB L k)=false)→eB L=k from fun k h1 h2 h3=>oW L k (by omega) h2 (by rw [hLn];exact h3))
 obtain ⟨⟨⟨rt,rq,ra⟩,rn,re⟩,hR⟩:∃ R,R=wordAt L 0:=⟨_,rfl⟩
 have HR:=hide (show (⟨⟨rt,rq,ra⟩,rn,re⟩:WordM × Nat × Nat)=if 0 < s.size∧atB L 0=34 then (⟨(bR L).1,true,0⟩,(bR L).2.1,(bR L).2.2) else if eB L=0 then (⟨[],false,0⟩,0,if 0=s.size then 3 else 2) else (⟨L.take (eB L),false,0⟩,eB L,0) by rw [hR];unfold wordAt;rw [hLn,List.drop_zero])
 rw [← hR]
 simp only
 obtain ⟨V1,hV1⟩:∃ V1,V1=w.alloc (.cells #[.string ⟨#[]⟩,.bool false,.int .i64 0] 141):=⟨_,rfl⟩
 obtain ⟨g,hg⟩:∃ g,g=w.heap.size:=⟨_,rfl⟩
 have HB1:=hide (show Below g w V1 by rw [hV1,hg];exact aK _ _)
 have HG:=hide (show Blk V1 g 141 #[.string ⟨#[]⟩,.bool false,.int .i64 0] by rw [hV1,hg];exact Blk.new _ _ _)
 rw [← hg]
 have HV1:=hide hV1
 have Hg:=hide hg
 clear hL hR hLn hV1 hg
 by_cases hq:0 < s.size∧atB L 0=34
 case pos =>
  have h0:=hq.1
  have hne:=str_some (show ¬ s.size=0 by omega)
  have HA:=hide (HAt.out 0 h0)
  have hc0:((s[0]'h0).toNat:Int)=34:=by rw [HA.out,hq.2];rfl
  have hr:=HR.out
  rw [if_pos hq] at hr
  obtain ⟨⟨qt,qn,qe⟩,hqr⟩:∃ X,X=bR L:=⟨_,rfl⟩
  rw [← hqr] at hr HRdk
  simp only at hr HRdk
  injection hr with ha hb9
  injection hb9 with hb hc
  injection ha with ha1 ha2 ha3
  subst ha1;subst ha2;subst hb;subst hc
  clear hqr hq HR
  go_enter Tryz.func118,Tryz.ntmps118
  go_upto_region 1 with fail
  change Code.wp _ _ _ _ (w.alloc (.cells #[.string ⟨#[]⟩,.bool false,.int .i64 0] 141))
  rw [← HV1.out,← Hg.out]
  go_wp2_with fail
  refine (HRdk.out _).mono ?_
  rintro e V2 ⟨rfl,hb2⟩
  have HB2:=hide (HB1.out.trans (hb2.mono (by have:=HB1.out.size;have:=Hg.out;omega)))
  have HG2:=hide (HG.out.below hb2)
  clear hb2
  obtain ⟨⟨y0,y1,y2⟩,f0,f1,f2⟩:=HG2.out.three
  have HG3:=hide (((HG2.out.set_ 0 (.string (bs rt))).set_ 1 (.bool true)).set_ 2 (.int .i64 0))
  have HB3:=hide (((HB2.out.setCell (p:=⟨g,0,none⟩) (Nat.le_refl _) (.string (bs rt))).setCell (p:=⟨g,1,none⟩) (Nat.le_refl _) (.bool true)).setCell (p:=⟨g,2,none⟩) (Nat.le_refl _) (.int .i64 0))
  go_wp2_with fail
  obtain ⟨⟨p0,p1,p2⟩,_⟩:=(show Blk _ g 141 #[.string (bs rt),.bool true,.int .i64 0] from HG3.out).three
  refine bodyPost_ret (v:=.tuple #[.agg #[.string (bs rt),.bool true,.int .i64 0],.int .i64 rn,.int .i64 re]) (by simp [results,Tryz.results118,go_sem,p0,p1,p2];try rfl) rfl ?_
  exact ⟨rfl,HB3.out⟩
 case neg =>
  have hr:=HR.out
  rw [if_neg hq] at hr
  have HR2:=hide hr
  clear hr HR HRdk
  by_cases hz:s.size=0
  case pos =>
   have hb:eB L=0:=HBe.out 0 (by omega) (fun j hj=>absurd hj (by omega)) (fun h=>absurd h (by omega))
   have hr:=HR2.out
   rw [if_pos hb,if_pos hz.symm] at hr
   injection hr with ha hb9
   injection hb9 with hb hc
   injection ha with ha1 ha2 ha3
   have HX:=hide (And.intro ha1 (And.intro ha2 (And.intro hb hc)))
   obtain rfl:=fE hz
   clear ha1 ha2 ha3 hb hc hz hq HR2
   obtain ⟨⟨y0,y1,y2⟩,f0,f1,f2⟩:=HG.out.three
   go_enter Tryz.func118,Tryz.ntmps118
   go_upto_region 1 with fail
   change Code.wp _ _ _ _ (w.alloc (.cells #[.string ⟨#[]⟩,.bool false,.int .i64 0] 141))
   rw [← HV1.out,← Hg.out]
   go_wp2_with fail
   go_loopw [8] (fun i wr=>i=.int .i64 0∧Hid (wr=V1)) (fun _ _=>0)
   case atStart=>exact ⟨rfl,hide rfl⟩
   case round =>
    obtain ⟨rfl,hw⟩:=hrel
    rw [hw.out]
    clear hw
    obtain ⟨⟨y0,y1,y2⟩,f0,f1,f2⟩:=HG.out.three
    have HG3:=hide (((HG.out.set_ 0 (.string ⟨#[]⟩)).set_ 1 (.bool false)).set_ 2 (.int .i64 0))
    have HB3:=hide (((HB1.out.setCell (p:=⟨g,0,none⟩) (Nat.le_refl _) (.string ⟨#[]⟩)).setCell (p:=⟨g,1,none⟩) (Nat.le_refl _) (.bool false)).setCell (p:=⟨g,2,none⟩) (Nat.le_refl _) (.int .i64 0))
    go_wp2_with fail
    obtain ⟨⟨p0,p1,p2⟩,_⟩:=(show Blk _ g 141 #[(.string ⟨#[]⟩),(.bool false),.int .i64 0] from HG3.out).three
    refine bodyPost_ret (v:=.tuple #[.agg #[(.string ⟨#[]⟩),(.bool false),.int .i64 0],.int .i64 0,.int .i64 3]) (by simp [results,Tryz.results118,go_sem,p0,p1,p2];try rfl) rfl ?_
    exact ⟨by rw [HX.out.1,HX.out.2.1,HX.out.2.2.1,HX.out.2.2.2];rfl,HB3.out⟩
  case neg =>
   have h0:0 < s.size:=by omega
   have hne:=str_some hz
   have HA:=hide (HAt.out 0 h0)
   have hc0:((s[0]'h0).toNat:Int)=((atB L 0).toNat:Int):=by rw [HA.out]
   have hn34:(atB L 0).toNat≠34:=fun h=>hq ⟨h0,by apply UInt8.toNat_inj.1;rw [h];rfl⟩
   have q9:(((atB L 0).toNat:Int) == 34)=false:=beq_eq_false_iff_ne.2 (by omega)
   clear hq hn34 hz
   obtain ⟨⟨y0,y1,y2⟩,f0,f1,f2⟩:=HG.out.three
   go_enter Tryz.func118,Tryz.ntmps118
   go_upto_region 1 with fail
   change Code.wp _ _ _ _ (w.alloc (.cells #[.string ⟨#[]⟩,.bool false,.int .i64 0] 141))
   rw [← HV1.out,← Hg.out]
   go_wp2_with fail
   clear q9 hc0
   go_loopw [8] (fun i wr=>∃ k:Nat,k≤s.size∧i=.int .i64 k∧Hid (∀ j,j < k→cV (atB L j)=true)∧Hid (wr=V1)) (fun i _=>s.size - (intOf i).toNat)
   case atStart=>exact ⟨0,Nat.zero_le _,rfl,hide (fun j hj=>absurd hj (by omega)),hide rfl⟩
   case round =>
    obtain ⟨k,hk,rfl,hall,hw⟩:=hrel
    rw [hw.out]
    clear hw
    have w1:IntKind.i64.wrap ((k:Int) + 1)=(k:Int) + 1:=IntWalk.i64_in _ (by omega)
    obtain ⟨⟨y0,y1,y2⟩,f0,f1,f2⟩:=HG.out.three
    by_cases hlt:k < s.size
    case neg =>
     have e1:decide ((k:Int) < (s.size:Int))=false:=by simp;omega
     have e2:decide (k < s.size)=false:=by simp;omega
     have HEk:=hide (HBe.out k hk hall.out (fun h=>absurd h hlt))
     by_cases hk0:k=0
     case pos =>
      have hr:=HR2.out
      rw [if_pos (by rw [HEk.out,hk0]),if_neg (by omega)] at hr
      injection hr with ha hb9
      injection hb9 with hb hc
      injection ha with ha1 ha2 ha3
      have HX:=hide (And.intro ha1 (And.intro ha2 (And.intro hb hc)))
      have q8:((k:Int) == 0)=true:=beq_iff_eq.2 (by omega)
      clear ha1 ha2 ha3 hb hc hk0
      have HG3:=hide (((HG.out.set_ 0 (.string ⟨#[]⟩)).set_ 1 (.bool false)).set_ 2 (.int .i64 0))
      have HB3:=hide (((HB1.out.setCell (p:=⟨g,0,none⟩) (Nat.le_refl _) (.string ⟨#[]⟩)).setCell (p:=⟨g,1,none⟩) (Nat.le_refl _) (.bool false)).setCell (p:=⟨g,2,none⟩) (Nat.le_refl _) (.int .i64 0))
      go_wp2_with fail
      obtain ⟨⟨p0,p1,p2⟩,_⟩:=(show Blk _ g 141 #[(.string ⟨#[]⟩),(.bool false),.int .i64 0] from HG3.out).three
      refine bodyPost_ret (v:=.tuple #[.agg #[(.string ⟨#[]⟩),(.bool false),.int .i64 0],.int .i64 0,.int .i64 2]) (by simp [results,Tryz.results118,go_sem,p0,p1,p2];try rfl) rfl ?_
      exact ⟨by rw [HX.out.1,HX.out.2.1,HX.out.2.2.1,HX.out.2.2.2];rfl,HB3.out⟩
     case neg =>
      have hr:=HR2.out
      rw [if_neg (by rw [HEk.out];exact hk0),HEk.out] at hr
      injection hr with ha hb9
      injection hb9 with hb hc
      injection ha with ha1 ha2 ha3
      have HX:=hide (And.intro ha1 (And.intro ha2 (And.intro hb hc)))
      have q8:((k:Int) == 0)=false:=beq_eq_false_iff_ne.2 (by omega)
      have i1:(0:Int)≤(k:Int):=by omega
      have i2:(k:Int)≤(s.size:Int):=by omega
      clear ha1 ha2 ha3 hb hc hk0
      obtain ⟨ct,hct⟩:∃ ct,ct=s.extract 0 k:=⟨_,rfl⟩
      have HCt:=hide hct
      have HCb:=hide (show ct=bs (L.take k) by rw [hct];exact HSub.out k)
      clear hct
      have HG3:=hide (((HG.out.set_ 0 (.string ct)).set_ 1 (.bool false)).set_ 2 (.int .i64 0))
      have HB3:=hide (((HB1.out.setCell (p:=⟨g,0,none⟩) (Nat.le_refl _) (.string ct)).setCell (p:=⟨g,1,none⟩) (Nat.le_refl _) (.bool false)).setCell (p:=⟨g,2,none⟩) (Nat.le_refl _) (.int .i64 0))
      go_wp2_with fail
      rw [← HCt.out]
      obtain ⟨⟨p0,p1,p2⟩,_⟩:=(show Blk _ g 141 #[.string ct,.bool false,.int .i64 0] from HG3.out).three
      refine bodyPost_ret (v:=.tuple #[.agg #[.string ct,.bool false,.int .i64 0],.int .i64 k,.int .i64 0]) (by simp [results,Tryz.results118,go_sem,p0,p1,p2];try rfl) rfl ?_
      exact ⟨by rw [HX.out.1,HX.out.2.1,HX.out.2.2.1,HX.out.2.2.2,HCb.out];rfl,HB3.out⟩
    case pos =>
     have e1:decide ((k:Int) < (s.size:Int))=true:=by simp;omega
     have e2:decide (k < s.size)=true:=by simp;omega
     have j1:(0:Int)≤(k:Int):=by omega
     have j2:(k:Int) < (s.size:Int):=by omega
     have HA:=hide (HAt.out k hlt)
     have HPk:=hide (HPl.out (atB L k) ((s[k]'hlt).toNat:Int) (by rw [HA.out]) V1)
     cases hp:cV (atB L k) with
     | false =>
      rw [hp] at HPk
      have HEk:=hide (HBe.out k hk hall.out (fun _=>hp))
      clear hp
      by_cases hk0:k=0
      case pos =>
       have hr:=HR2.out
       rw [if_pos (by rw [HEk.out,hk0]),if_neg (by omega)] at hr
       injection hr with ha hb9
       injection hb9 with hb hc
       injection ha with ha1 ha2 ha3
       have HX:=hide (And.intro ha1 (And.intro ha2 (And.intro hb hc)))
       have q8:((k:Int) == 0)=true:=beq_iff_eq.2 (by omega)
       clear ha1 ha2 ha3 hb hc hk0
       have HG3:=hide (((HG.out.set_ 0 (.string ⟨#[]⟩)).set_ 1 (.bool false)).set_ 2 (.int .i64 0))
       have HB3:=hide (((HB1.out.setCell (p:=⟨g,0,none⟩) (Nat.le_refl _) (.string ⟨#[]⟩)).setCell (p:=⟨g,1,none⟩) (Nat.le_refl _) (.bool false)).setCell (p:=⟨g,2,none⟩) (Nat.le_refl _) (.int .i64 0))
       go_wp2_with (go_at_call 149;refine HPk.out.mono ?_;rintro e wq ⟨rfl,hwq⟩;rw [hwq];clear hwq)
       obtain ⟨⟨p0,p1,p2⟩,_⟩:=(show Blk _ g 141 #[(.string ⟨#[]⟩),(.bool false),.int .i64 0] from HG3.out).three
       refine bodyPost_ret (v:=.tuple #[.agg #[(.string ⟨#[]⟩),(.bool false),.int .i64 0],.int .i64 0,.int .i64 2]) (by simp [results,Tryz.results118,go_sem,p0,p1,p2];try rfl) rfl ?_
       exact ⟨by rw [HX.out.1,HX.out.2.1,HX.out.2.2.1,HX.out.2.2.2];rfl,HB3.out⟩
      case neg =>
       have hr:=HR2.out
       rw [if_neg (by rw [HEk.out];exact hk0),HEk.out] at hr
       injection hr with ha hb9
       injection hb9 with hb hc
       injection ha with ha1 ha2 ha3
       have HX:=hide (And.intro ha1 (And.intro ha2 (And.intro hb hc)))
       have q8:((k:Int) == 0)=false:=beq_eq_false_iff_ne.2 (by omega)
       have i1:(0:Int)≤(k:Int):=by omega
       have i2:(k:Int)≤(s.size:Int):=by omega
       clear ha1 ha2 ha3 hb hc hk0
       obtain ⟨ct,hct⟩:∃ ct,ct=s.extract 0 k:=⟨_,rfl⟩
       have HCt:=hide hct
       have HCb:=hide (show ct=bs (L.take k) by rw [hct];exact HSub.out k)
       clear hct
       have HG3:=hide (((HG.out.set_ 0 (.string ct)).set_ 1 (.bool false)).set_ 2 (.int .i64 0))
       have HB3:=hide (((HB1.out.setCell (p:=⟨g,0,none⟩) (Nat.le_refl _) (.string ct)).setCell (p:=⟨g,1,none⟩) (Nat.le_refl _) (.bool false)).setCell (p:=⟨g,2,none⟩) (Nat.le_refl _) (.int .i64 0))
       go_wp2_with (go_at_call 149;refine HPk.out.mono ?_;rintro e wq ⟨rfl,hwq⟩;rw [hwq];clear hwq)
       rw [← HCt.out]
       obtain ⟨⟨p0,p1,p2⟩,_⟩:=(show Blk _ g 141 #[.string ct,.bool false,.int .i64 0] from HG3.out).three
       refine bodyPost_ret (v:=.tuple #[.agg #[.string ct,.bool false,.int .i64 0],.int .i64 k,.int .i64 0]) (by simp [results,Tryz.results118,go_sem,p0,p1,p2];try rfl) rfl ?_
       exact ⟨by rw [HX.out.1,HX.out.2.1,HX.out.2.2.1,HX.out.2.2.2,HCb.out];rfl,HB3.out⟩
     | true =>
      rw [hp] at HPk
      have HN:=hide (show ∀ j,j < k + 1→cV (atB L j)=true from fun j hj=>by
       by_cases e:j=k
       ·subst e;exact hp
       ·exact hall.out j (by omega))
      clear hp
      go_wp2_with (go_at_call 149;refine HPk.out.mono ?_;rintro e wq ⟨rfl,hwq⟩;rw [hwq];clear hwq)
      go_roundw
      case rel=>exact ⟨k + 1,by omega,by go_num,HN,hide (by first | rfl | trivial)⟩
      case measure=>simp [intOf];omega
end Go.Proofs.YtaioaojfdngfdaaGreatDoor
