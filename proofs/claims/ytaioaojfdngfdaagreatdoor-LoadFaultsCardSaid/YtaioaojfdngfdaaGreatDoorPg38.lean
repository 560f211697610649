/- Parts of a chain of lemmas: RefLex2, ParS. Conditions: those of each theorem. -/
import Derived.Test.YtaioaojfdngfdaaGreatDoorPg37
import Derived.Test.YtaioaojfdngfdaaGreatDoorPg08
set_option linter.unusedVariables false
set_option linter.unusedSimpArgs false
set_option maxHeartbeats 25600000
namespace Go.Proofs.YtaioaojfdngfdaaGreatDoor
open Go.RowKit
theorem Tryz.infoRW:(Tryz.prog.info? 141).map (fun i=>(i.zero,i.size,i.bytes))=some (some (.agg #[.string ⟨#[]⟩,.bool false,.int .i64 0]),3,32):=by kernel_rfl
set_option maxRecDepth 100000 in
theorem t8 (s:ByteArray) (w:World) (hs:s.size≤1000000000):Calls Tryz.prog 74 #[.string s] w fun e w'=>(∃ A1 c1,e=.returned (.tuple #[.slice A1 (aL s.data.toList).1.length c1,.int .i64 (aL s.data.toList).2.1,.int .i64 (aL s.data.toList).2.2])∧w'.ownsRow w.heap.size 141 3 (.slice A1 (aL s.data.toList).1.length c1) (aL s.data.toList).1.length (flat encW (aL s.data.toList).1))∧Below w.heap.size w w':=by
 obtain ⟨L,hL⟩:∃ L,L=s.data.toList:=⟨_,rfl⟩
 have hLn:L.length=s.size:=by rw [hL];simp
 have HAt:=hide (show ∀ k (h:k < s.size),s[k]'h=atB L k from fun k h=>by rw [hL];exact byte_at s k h)
 have HOne:=hide (show ∀ k,k≤s.size→∀ w',Calls Tryz.prog 118 #[.string (s.extract k s.size)] w' fun e w2=>e=.returned (.tuple #[.agg #[.string (bs (wordAt L k).1.text),.bool (wordAt L k).1.quoted,.int .i64 0],.int .i64 (wordAt L k).2.1,.int .i64 (wordAt L k).2.2])∧Below w'.heap.size w' w2 from fun k hk w'=>by
  have h1:=xC (s.extract k s.size) w' (by rw [gU s k s.size hk (Nat.le_refl _)];omega)
  rw [kW,← hL] at h1
  obtain ⟨a,b,c,d⟩:=mO L k (by omega)
  rw [a,b,d]
  exact h1)
 rw [← hL]
 obtain ⟨R,hR⟩:∃ R,R=aL L:=⟨_,rfl⟩
 obtain ⟨i0,hi,hz0,hz1,hz2⟩:=info_parts Tryz.infoRW
 rw [← hR]
 have HRd:=hide (show R=if 1200 < s.size then ([],1200,4) else if s.size=0 then ([],0,0) else aX (s.size + 1) L 0 [] by rw [hR];unfold aL;rw [hLn])
 have HG1:=hide (show ∀ f k out,(wordAt L k).2.2≠0→aX (f + 1) L k out=([],k + (wordAt L k).2.1,(wordAt L k).2.2) from fun f k out h=>by rw [aX,if_pos h])
 have HG2:=hide (show ∀ f k out,(wordAt L k).2.2=0→k + (wordAt L k).2.1=s.size→aX (f + 1) L k out=(out++[(wordAt L k).1],0,0) from fun f k out h h2=>by rw [aX,if_neg (by omega),if_pos (by omega)])
 have HG3:=hide (show ∀ f k out,(wordAt L k).2.2=0→¬ k + (wordAt L k).2.1=s.size→atB L (k + (wordAt L k).2.1)≠32→aX (f + 1) L k out=([],k + (wordAt L k).2.1,2) from fun f k out h h2 h3=>by rw [aX,if_neg (by omega),if_neg (by omega),if_pos h3])
 have HG4:=hide (show ∀ f k out,(wordAt L k).2.2=0→¬ k + (wordAt L k).2.1=s.size→atB L (k + (wordAt L k).2.1)=32→aX (f + 1) L k out=aX f L (k + (wordAt L k).2.1 + 1) (out++[(wordAt L k).1]) from fun f k out h h2 h3=>by rw [aX,if_neg (by omega),if_neg (by omega),if_neg (by rw [h3];simp)])
 have HWle:=hide (show ∀ k,k≤s.size→k + (wordAt L k).2.1≤s.size from fun k h=>by have:=jS L k (by omega);omega)
 have HAtk:=hide (show ∀ k,k≤s.size→(wordAt L k).1.at_=k from fun k h=>(mO L k (by omega)).2.2.1)
 clear hL hR hLn
 by_cases hbig:1200 < s.size
 case pos =>
  have d1:decide ((1200:Int) < (s.size:Int))=true:=by simp;omega
  have d2:decide (1200 < s.size)=true:=by simp;omega
  have HE:=hide (show R=([],1200,4) by rw [HRd.out,if_pos hbig])
  clear hbig
  go_enter Tryz.func74,Tryz.ntmps74
  go_wp2_with fail
  refine bodyPost_ret (v:=.tuple #[.slice none 0 0,.int .i64 1200,.int .i64 4]) (by simp [results,Tryz.results74,go_sem];try rfl) rfl ?_
  exact ⟨⟨none,0,by rw [HE.out];rfl,by rw [HE.out];exact World.ownsRow_nil _ _ _ _⟩,aK _ _⟩
 case neg =>
  have d1:decide ((1200:Int) < (s.size:Int))=false:=by simp;omega
  have d2:decide (1200 < s.size)=false:=by simp;omega
  by_cases hz:s.size=0
  case pos =>
   have HE:=hide (show R=([],0,0) by rw [HRd.out,if_neg hbig,if_pos hz])
   obtain rfl:=fE hz
   clear hbig hz d1 d2
   go_enter Tryz.func74,Tryz.ntmps74
   go_wp2_with fail
   refine bodyPost_ret (v:=.tuple #[.slice (some ⟨w.heap.size,0,none⟩) 0 0,.int .i64 0,.int .i64 0]) (by simp [results,Tryz.results74,go_sem];try rfl) rfl ?_
   exact ⟨⟨some ⟨w.heap.size,0,none⟩,0,by rw [HE.out];rfl,by rw [HE.out];exact eY (Nat.le_refl _)⟩,aK _ _⟩
  case neg =>
   have hne:=str_some hz
   have HE:=hide (show R=aX (s.size + 1) L 0 [] by rw [HRd.out,if_neg hbig,if_neg hz])
   have HO0:=hide (show (w.alloc (.cells #[] 141)).ownsRow w.heap.size 141 3 (.slice (some ⟨w.heap.size,0,none⟩) 0 0) 0 [] from eY (Nat.le_refl _))
   clear hbig hz HRd
   go_enter Tryz.func74,Tryz.ntmps74
   go_wp2_with fail
   go_loopw [5,6] (fun v i wr=>∃ (f k:Nat) (out:List WordM),k≤s.size∧out.length≤k∧s.size < f + k∧i=.int .i64 k∧Hid (R=aX f L k out)∧Hid (wr.ownsRow w.heap.size 141 3 v out.length (flat encW out))∧Hid (Below w.heap.size w wr)) (fun _ i _=>s.size + 1 - (intOf i).toNat)
   case atStart=>exact ⟨s.size + 1,0,[],Nat.zero_le _,by simp,by omega,rfl,HE,HO0,hide (aK _ _)⟩
   case round =>
    clear HE HO0
    obtain ⟨f,k,out,hk,hok,hf,rfl,HRg,HOw,HB⟩:=hrel
    obtain ⟨VA,vc,rfl,hvc⟩:=aW HOw.out
    obtain ⟨f,rfl⟩:∃ f',f=f' + 1:=⟨f - 1,by omega⟩
    have hle:=HWle.out k hk
    have HG1k:=hide (HG1.out f k out)
    have HG2k:=hide (HG2.out f k out)
    have HG3k:=hide (HG3.out f k out)
    have HG4k:=hide (HG4.out f k out)
    have HOk:=hide (HOne.out k hk)
    have hat:=HAtk.out k hk
    obtain ⟨⟨wd,wn,we⟩,hO⟩:∃ X,X=wordAt L k:=⟨_,rfl⟩
    rw [← hO] at hle HG1k HG2k HG3k HG4k HOk hat
    simp only at hle HG1k HG2k HG3k HG4k HOk hat
    clear hO HG1 HG2 HG3 HG4 HWle HOne HAtk
    have HWd:=hide (show encW wd=[.string (bs wd.text),.bool wd.quoted,.int .i64 k] by rw [← hat])
    obtain ⟨ct,hct⟩:∃ ct,ct=bs wd.text:=⟨_,rfl⟩
    obtain ⟨cq,hcq⟩:∃ cq,cq=wd.quoted:=⟨_,rfl⟩
    rw [← hct,← hcq] at HOk HWd
    obtain ⟨kn,hkn⟩:∃ kn,kn=k + wn:=⟨_,rfl⟩
    rw [← hkn] at hle HG1k HG2k HG3k HG4k
    have w1:IntKind.i64.wrap ((kn:Int) + 1)=(kn:Int) + 1:=IntWalk.i64_in _ (by omega)
    have w2:IntKind.i64.wrap ((k:Int) + (wn:Int))=(kn:Int):=by rw [IntWalk.i64_in _ (by omega)];omega
    have hkk:k≤kn:=by omega
    have j1:(0:Int)≤(k:Int):=by omega
    have j2:(k:Int)≤(s.size:Int):=by omega
    clear hkn hat hct hcq
    go_wp2_with fail
    refine (HOk.out _).mono ?_
    rintro e V2 ⟨rfl,hb2⟩
    have HB2:=hide (HB.out.trans (hb2.mono HB.out.size))
    have HO2:=hide (b8 HOw.out (Only.of_below hb2 aA) (fun _ _ h=>h.elim))
    clear hb2
    obtain ⟨V3,hV3⟩:∃ V3,V3=V2.alloc (.cells #[.string ct,.bool cq,.int .i64 0] 141):=⟨_,rfl⟩
    obtain ⟨g,hg⟩:∃ g,g=V2.heap.size:=⟨_,rfl⟩
    have hgw:w.heap.size≤g:=by rw [hg];exact HB2.out.size
    have HB3:=hide (show Below w.heap.size w V3 by rw [hV3];exact HB2.out.alloc HB2.out.size _)
    have HG3:=hide (show Blk V3 g 141 #[.string ct,.bool cq,.int .i64 0] by rw [hV3,hg];exact Blk.new _ _ _)
    have HO3:=hide (show V3.ownsRow w.heap.size 141 3 (.slice VA out.length vc) out.length (flat encW out) by rw [hV3];exact HO2.out.alloc _)
    have HNb:=hide (show ∀ b,(Value.slice VA out.length vc).ownBlock=some b→b≠g from fun b hb=>by have:=vP HO2.out b hb;omega)
    have HV3:=hide hV3
    have Hg:=hide hg
    clear hV3 hg
    by_cases hwe:we=0
    case neg =>
     have q0:((we:Int) != 0)=true:=by simp;omega
     have HE:=hide (show R=([],kn,we) by rw [HRg.out,HG1k.out hwe])
     clear hwe
     go_upto_region 7 with fail
     rw [← HV3.out,← Hg.out]
     go_wp2_with fail
     refine bodyPost_ret (v:=.tuple #[.slice none 0 0,.int .i64 kn,.int .i64 we]) (by simp [results,Tryz.results74,go_sem];try rfl) rfl ?_
     exact ⟨⟨none,0,by rw [HE.out];first | done | rfl,by rw [HE.out];exact World.ownsRow_nil _ _ _ _⟩,HB3.out⟩
    case pos =>
     have q0:((we:Int) != 0)=false:=by simp;omega
     have HWe:=hide hwe
     clear hwe
     obtain ⟨⟨y0,y1,y2⟩,f0,f1,f2⟩:=HG3.out.three
     go_upto_region 7 with fail
     rw [← HV3.out,← Hg.out]
     go_upto_region 10 with fail
     obtain ⟨V4,hV4⟩:∃ V4,V4=V3.setCell ⟨g,2,none⟩ (.int .i64 k):=⟨_,rfl⟩
     have HGb:=hide (show Blk V4 g 141 #[.string ct,.bool cq,.int .i64 k] by rw [hV4];exact HG3.out.set_ 2 _)
     have HBv:=hide (show Below w.heap.size w V4 by rw [hV4];exact HB3.out.setCell hgw _)
     have HOv:=hide (show V4.ownsRow w.heap.size 141 3 (.slice VA out.length vc) out.length (flat encW out) by rw [hV4];exact kP HO3.out ((Only.refl (· = g) V3).setCell (p:=⟨g,2,none⟩) (Or.inl rfl) _) HNb.out)
     rw [← hV4]
     clear hV4 y0 y1 y2 f0 f1 f2
     obtain ⟨⟨x0,x1,x2⟩,_⟩:=HGb.out.three
     have hX:=hide (show Rd (V4.alloc (.cells #[.string ct,.bool cq,.int .i64 k] 141)) aA (some ⟨V4.heap.size,0,none⟩) [.string ct,.bool cq,.int .i64 k] from aY (Blk.new _ _ _) (fun h=>h))
     have HOx:=hide (HOv.out.alloc (.cells #[.string ct,.bool cq,.int .i64 k] 141))
     have hbsz:=HBv.out.size
     by_cases hend:kn=s.size
     case pos =>
      have q1:((kn:Int) == (s.size:Int))=true:=beq_iff_eq.2 (by omega)
      have HE:=hide (show R=(out++[wd],0,0) by rw [HRg.out,HG2k.out HWe.out hend])
      clear hend
      go_wp2_with (first
       | (at_builtin;refine aD _ rfl (.tmp 33) (.tmp 35) _ rfl w.heap.size 141 i0 (.agg #[.string ⟨#[]⟩,.bool false,.int .i64 0]) 3 32 Tryz.underlying137 hi hz0 hz1 hz2 rfl (by omega) _ out.length (flat encW out) rfl HOx.out aA (some ⟨V4.heap.size,0,none⟩) 1 1 [.string ct,.bool cq,.int .i64 k] rfl hX.out rfl (by intro u hu;simp at hu;rcases hu with rfl | rfl | rfl<;>rfl) (by simp only [maxLen];omega) (by omega) (by simp;omega) ?_;intro v5 w5 hown5 hgr _;have Own5:=hide hown5;have Gr:=hide hgr;clear hown5 hgr))
      have HB5:=hide ((HBv.out.alloc HBv.out.size (.cells #[.string ct,.bool cq,.int .i64 k] 141)).grown Gr.out (by simp;omega) (fun j hj=>by have:=aU HOv.out j hj;omega))
      have HO5:=hide (show w5.ownsRow w.heap.size 141 3 v5 (out++[wd]).length (flat encW (out++[wd])) by rw [show flat encW (out++[wd])=flat encW out++encW wd by simp [flat],HWd.out,List.length_append];exact Own5.out)
      obtain ⟨A5,c5,hv5,_⟩:=aW HO5.out
      subst hv5
      refine bodyPost_ret (v:=.tuple #[.slice A5 (out++[wd]).length c5,.int .i64 0,.int .i64 0]) (by simp [results,Tryz.results74,go_sem];try rfl) rfl ?_
      exact ⟨⟨A5,c5,by rw [HE.out];first | done | rfl,by rw [HE.out];exact HO5.out⟩,HB5.out⟩
     case neg =>
      have q1:((kn:Int) == (s.size:Int))=false:=beq_eq_false_iff_ne.2 (by omega)
      have hknlt:kn < s.size:=by omega
      have HA:=hide (HAt.out kn hknlt)
      have hck:((s[kn]'hknlt).toNat:Int)=((atB L kn).toNat:Int):=by rw [HA.out]
      have i1:(0:Int)≤(kn:Int):=by omega
      have i2:(kn:Int) < (s.size:Int):=by omega
      by_cases h32:(atB L kn).toNat=32
      case pos =>
       have q2:(((atB L kn).toNat:Int) != 32)=false:=by simp;omega
       have HE:=hide (show R=aX f L (kn + 1) (out++[wd]) by rw [HRg.out,HG4k.out HWe.out hend (by apply UInt8.toNat_inj.1;rw [h32];rfl)])
       clear hend h32
       go_wp2_with (first
        | (at_builtin;refine aD _ rfl (.tmp 33) (.tmp 35) _ rfl w.heap.size 141 i0 (.agg #[.string ⟨#[]⟩,.bool false,.int .i64 0]) 3 32 Tryz.underlying137 hi hz0 hz1 hz2 rfl (by omega) _ out.length (flat encW out) rfl HOx.out aA (some ⟨V4.heap.size,0,none⟩) 1 1 [.string ct,.bool cq,.int .i64 k] rfl hX.out rfl (by intro u hu;simp at hu;rcases hu with rfl | rfl | rfl<;>rfl) (by simp only [maxLen];omega) (by omega) (by simp;omega) ?_;intro v5 w5 hown5 hgr _;have Own5:=hide hown5;have Gr:=hide hgr;clear hown5 hgr))
       have HB5:=hide ((HBv.out.alloc HBv.out.size (.cells #[.string ct,.bool cq,.int .i64 k] 141)).grown Gr.out (by simp;omega) (fun j hj=>by have:=aU HOv.out j hj;omega))
       have HO5:=hide (show w5.ownsRow w.heap.size 141 3 v5 (out++[wd]).length (flat encW (out++[wd])) by rw [show flat encW (out++[wd])=flat encW out++encW wd by simp [flat],HWd.out,List.length_append];exact Own5.out)
       go_roundw
       case rel=>exact ⟨f,kn + 1,out++[wd],by omega,by simp;omega,by omega,by go_num,HE,HO5,HB5⟩
       case measure=>simp [intOf];omega
      case neg =>
       have q2:(((atB L kn).toNat:Int) != 32)=true:=by simp;omega
       have HE:=hide (show R=([],kn,2) by rw [HRg.out,HG3k.out HWe.out hend (fun h=>h32 (by rw [h];rfl))])
       clear hend h32
       go_wp2_with (first
        | (at_builtin;refine aD _ rfl (.tmp 33) (.tmp 35) _ rfl w.heap.size 141 i0 (.agg #[.string ⟨#[]⟩,.bool false,.int .i64 0]) 3 32 Tryz.underlying137 hi hz0 hz1 hz2 rfl (by omega) _ out.length (flat encW out) rfl HOx.out aA (some ⟨V4.heap.size,0,none⟩) 1 1 [.string ct,.bool cq,.int .i64 k] rfl hX.out rfl (by intro u hu;simp at hu;rcases hu with rfl | rfl | rfl<;>rfl) (by simp only [maxLen];omega) (by omega) (by simp;omega) ?_;intro v5 w5 hown5 hgr _;have Own5:=hide hown5;have Gr:=hide hgr;clear hown5 hgr))
       have HB5:=hide ((HBv.out.alloc HBv.out.size (.cells #[.string ct,.bool cq,.int .i64 k] 141)).grown Gr.out (by simp;omega) (fun j hj=>by have:=aU HOv.out j hj;omega))
       refine bodyPost_ret (v:=.tuple #[.slice none 0 0,.int .i64 kn,.int .i64 2]) (by simp [results,Tryz.results74,go_sem];try rfl) rfl ?_
       exact ⟨⟨none,0,by rw [HE.out];first | done | rfl,by rw [HE.out];exact World.ownsRow_nil _ _ _ _⟩,HB5.out⟩
end Go.Proofs.YtaioaojfdngfdaaGreatDoor
namespace Go.Proofs.YtaioaojfdngfdaaGreatDoor
set_option linter.unusedSectionVars false
theorem nB:∀ (f:Nat) (L:List UInt8) (i:Nat) (out:List WordM),(∀ x ∈ out,x.text.length≤L.length∧x.at_≤L.length)→i≤L.length→(∀ x ∈ (aX f L i out).1,x.text.length≤L.length∧x.at_≤L.length)∧(aX f L i out).1.length≤out.length + f
 | 0,L,i,out,h,hi=>by unfold aX;exact ⟨fun x hx=>(by cases hx),Nat.zero_le _⟩
 | f + 1,L,i,out,h,hi=>by
  have hw:∀ x ∈ out++[(wordAt L i).1],x.text.length≤L.length∧x.at_≤L.length:=by
   intro x hx
   rcases List.mem_append.1 hx with hx | hx
   ·exact h x hx
   ·simp at hx
    subst hx
    refine ⟨tW L i,?_⟩
    unfold wordAt
    split
    ·exact hi
    split
    ·exact hi
    ·exact hi
  have hle:=jS L i hi
  unfold aX
  split
  ·exact ⟨fun x hx=>(by cases hx),Nat.zero_le _⟩
  split
  ·exact ⟨hw,by rw [List.length_append];simp⟩
  split
  ·exact ⟨fun x hx=>(by cases hx),Nat.zero_le _⟩
  ·have r:=nB f L (i + (wordAt L i).2.1 + 1) (out++[(wordAt L i).1]) hw (by omega)
   refine ⟨r.1,?_⟩
   have:=r.2
   rw [List.length_append] at this
   simp at this
   omega
theorem gY (L:List UInt8):(∀ x ∈ (aL L).1,x.text.length≤L.length∧x.at_≤L.length)∧(aL L).1.length≤L.length + 1:=by
 unfold aL
 split
 ·exact ⟨fun x hx=>(by cases hx),Nat.zero_le _⟩
 split
 ·exact ⟨fun x hx=>(by cases hx),Nat.zero_le _⟩
 ·have r:=nB (L.length + 1) L 0 [] (fun x hx=>(by cases hx)) (Nat.zero_le _)
  exact ⟨r.1,by have:=r.2;simp at this;exact this⟩
theorem kS:∀ (r cur:List UInt8),∀ x ∈ aV r cur,x.length≤cur.length + r.length
 | [],cur,x,hx=>by
  unfold aV at hx
  simp at hx
  subst hx
  simp
 | c :: r,cur,x,hx=>by
  unfold aV at hx
  split at hx
  ·rcases List.mem_cons.1 hx with hx | hx
   ·subst hx;simp
   ·have:=kS r [] x hx
    simp at this ⊢
    omega
  ·have:=kS r (cur++[c]) x hx
   simp at this ⊢
   omega
theorem mH (L:List UInt8) (q:Nat):((bI L).getD q []).length≤L.length:=by
 rw [List.getD_eq_getElem?_getD]
 cases h:(bI L)[q]? with
 | none=>exact Nat.zero_le _
 | some x =>
  have:=kS L [] x (List.mem_of_getElem? h)
  simpa using this
theorem nD:∀ (f:Nat) (L:List UInt8) (i:Nat) (out:List WordM),i≤L.length→(aX f L i out).2.1≤L.length
 | 0,L,i,out,hi=>by unfold aX;exact hi
 | f + 1,L,i,out,hi=>by
  have hle:=jS L i hi
  unfold aX
  split
  ·exact hle
  split
  ·exact Nat.zero_le _
  split
  ·exact hle
  ·exact nD f L _ _ (by omega)
theorem pQ (L:List UInt8):(aL L).2.1≤L.length + 1200:=by
 unfold aL
 split
 ·exact Nat.le_add_left _ _
 split
 ·exact Nat.zero_le _
 ·exact Nat.le_trans (nD _ L 0 [] (Nat.zero_le _)) (Nat.le_add_right _ _)
theorem vS (l:List (List UInt8)) (f i:Nat) {m:PM} (h:m.st.bad≠0):mGo l f i m=m:=by
 cases f with
 | zero=>rfl
 | succ f=>unfold mGo;rw [if_pos h]
structure LSz (m:PM) (n:Nat):Prop where
 ops:m.ops.length≤n
 uses:m.uses.length≤n
 labels:m.labels.length≤n
 arms:∀ o ∈ m.ops,o.arms.length≤n
 txt:∀ u ∈ m.uses,u.name.length≤1000000000∧1≤u.col∧u.col≤1000000001
theorem LSz.mono {m m':PM} {n k:Nat} (h:LSz m n) (hk:n≤k) (e1:m'.ops=m.ops:=by rfl) (e2:m'.uses=m.uses:=by rfl) (e3:m'.labels=m.labels:=by rfl):LSz m' k :=
 ⟨by rw [e1];exact Nat.le_trans h.ops hk,by rw [e2];exact Nat.le_trans h.uses hk,by rw [e3];exact Nat.le_trans h.labels hk,by rw [e1];exact fun o ho=>Nat.le_trans (h.arms o ho) hk,by rw [e2];exact h.txt⟩
theorem word_in (line width:Int) (ws:List WordM) (s:St) (q:Bool):(aJ line width ws s q).1.1=w0∨(aJ line width ws s q).1.1 ∈ ws:=by
 unfold aJ
 split
 ·exact Or.inl rfl
 split
 ·exact Or.inl rfl
 rename_i h
 split
 ·exact Or.inr (eC (by omega))
 ·exact Or.inr (eC (by omega))
section
variable {m:PM} {n:Nat}
theorem LSz.label (h:LSz m n) (hn:1≤n) (hu:m.uses.length + 1≤n) (hw:∀ x ∈ m.ws,x.text.length≤1000000000∧x.at_≤1000000000) (how:Int):LSz (cQ m how) n:=by
 refine ⟨h.ops,?_,h.labels,h.arms,?_⟩
 ·show (m.uses++[_]).length≤n
  rw [List.length_append];simpa using hu
 ·refine eF h.txt ?_
  have hx:(dN m).1.text.length≤1000000000∧(dN m).1.at_≤1000000000:=by
   unfold dN b9
   rcases word_in m.line m.width m.ws m.st false with e | e
   ·simp only
    rw [e]
    exact ⟨by decide,by decide⟩
   ·exact hw _ e
  exact ⟨hx.1,by show 1≤((dN m).1.at_:Int) + 1;omega,by show ((dN m).1.at_:Int) + 1≤1000000001;omega⟩
theorem LSz.op (h:LSz m n) (o:OpM) (ho:o.arms=[]) (hl:m.ops.length + 1≤n):LSz (mOp m o) n :=
 ⟨by show (m.ops++[o]).length≤n;rw [List.length_append];simpa using hl,h.uses,h.labels,eF h.arms (by rw [ho];exact Nat.zero_le _),h.txt⟩
theorem LSz.last (h:LSz m n) (o:OpM) (s:St) (ho:o.arms.length≤n):LSz (eH m o s) n:=by
 refine ⟨by show (m.ops.set _ o).length≤n;rw [List.length_set];exact h.ops,h.uses,h.labels,fun x hx=>?_,h.txt⟩
 rcases List.mem_or_eq_of_mem_set hx with hx | hx
 ·exact h.arms x hx
 ·rw [hx];exact ho
theorem yB (h:LSz m n):(eZ m).arms.length≤n:=by
 unfold eZ
 rw [List.getD_eq_getElem?_getD]
 cases hx:m.ops[m.ops.length - 1]? with
 | none=>exact Nat.zero_le _
 | some o=>exact h.arms o (List.mem_of_getElem? hx)
theorem say1_sz (h:LSz m n) (hw:∀ x ∈ m.ws,x.text.length≤1000000000∧x.at_≤1000000000) (t:List UInt8):LSz (dI m t) (n + 1):=by
 have h1:LSz m (n + 1):=h.mono (Nat.le_succ n)
 have hu:m.uses.length + 1≤n + 1:=Nat.succ_le_succ h.uses
 have ho:m.ops.length + 1≤n + 1:=Nat.succ_le_succ h.ops
 unfold dI
 split
 ·unfold gW rG
  split<;>exact h1.mono (Nat.le_refl _)
 split
 ·unfold dE
  split
  ·exact h1.mono (Nat.le_refl _)
  split
  ·split
   ·exact h1.mono (Nat.le_refl _)
   ·unfold mOn
    refine LSz.label (LSz.last h1 _ _ ?_) (by omega) hu hw _
    show ((eZ m).arms++[_]).length≤n + 1
    rw [List.length_append]
    have:=yB h
    simpa using this
  split
  ·exact LSz.label (m:=xX m) (h1.mono (Nat.le_refl _)) (by omega) hu hw _
  ·exact LSz.label (m:=xY m) (h1.mono (Nat.le_refl _)) (by omega) hu hw _
 ·have h2:LSz (dM m) (n + 1):=h1.mono (Nat.le_refl _)
  unfold cL
  split
  ·exact LSz.last (LSz.op h2 _ rfl ho) _ _ (Nat.zero_le _)
  split
  ·exact (LSz.last (LSz.op h2 cE rfl ho) { cE with n:=(eV (mOp (dM m) cE) 0 true).1 } (eV (mOp (dM m) cE) 0 true).2 (Nat.zero_le _)).mono (Nat.le_refl _)
  split
  ·exact LSz.label (LSz.op h2 _ rfl ho) (by omega) hu hw _
  split
  ·exact LSz.last (LSz.op h2 _ rfl ho) _ _ (Nat.zero_le _)
  split
  ·exact LSz.op h2 _ rfl ho
  split
  ·exact LSz.op h2 _ rfl ho
  split
  ·exact ⟨h2.ops,h2.uses,Nat.succ_le_succ h.labels,h2.arms,h2.txt⟩
  ·exact h2
theorem rest_sz (h:LSz m n):LSz (dA m) n:=by
 unfold dA
 split
 ·exact h.mono (Nat.le_refl _)
 ·exact h
theorem one_sz (h:LSz m n) (i:Nat) (s:List UInt8) (hs:s.length≤1000000000):LSz (iV m i s) (n + 1):=by
 have h1:LSz m (n + 1):=h.mono (Nat.le_succ n)
 unfold iV
 split
 ·exact h1
 split
 ·exact h1.mono (Nat.le_refl _)
 ·unfold lP
  split
  ·exact h1.mono (Nat.le_refl _)
  ·refine rest_sz (say1_sz (m:=iT (gA m i s)) (h.mono (Nat.le_refl _)) (fun x hx=>?_) _)
   have:=(gY s).1 x hx
   exact ⟨by omega,by omega⟩
end
end Go.Proofs.YtaioaojfdngfdaaGreatDoor
