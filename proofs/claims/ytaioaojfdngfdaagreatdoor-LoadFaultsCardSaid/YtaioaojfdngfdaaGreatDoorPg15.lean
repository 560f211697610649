/- Words, by the program. Conditions: those of each theorem. -/
import Derived.Test.YtaioaojfdngfdaaGreatDoorPg14
import Derived.Test.YtaioaojfdngfdaaGreatDoorPg09
set_option linter.unusedVariables false
set_option linter.unusedSimpArgs false
set_option maxHeartbeats 25600000
namespace Go.Proofs.YtaioaojfdngfdaaGreatDoor
open Go.RowKit
abbrev encW (x:WordM):List Value:=[.string (bs x.text),.bool x.quoted,.int .i64 x.at_]
theorem Tryz.infoLW:(Tryz.prog.info? 128).map (fun i=>(i.zero,i.size,i.bytes))=some (some (.agg #[.string ⟨#[]⟩,.bool false,.int .i64 0]),3,32):=by kernel_rfl
theorem kW (s:ByteArray) (k:Nat):(s.extract k s.size).data.toList=s.data.toList.drop k:=by
 rw [mM]
 apply List.take_of_length_le
 rw [List.length_drop]
 have:s.data.toList.length=s.size:=by simp
 omega
theorem sub_bs (s:ByteArray) (k n:Nat):s.extract k (k + n)=bs ((s.data.toList.drop k).take n):=by
 apply rS
 rw [mM,Nat.add_sub_cancel_left]
theorem kP {w w':World} {base size n g:Nat} {e:TypeId} {v:Value} {xs:List Value} (h:w.ownsRow base e size v n xs) (k:Only (· = g) w w') (hd:∀ b,v.ownBlock=some b→b≠g):w'.ownsRow base e size v n xs:=by
 obtain ⟨hl,h2⟩:=h
 refine ⟨hl,?_⟩
 rcases h2 with ⟨hv,hn⟩ | ⟨g',cap,cur,hv,hb,hh,r⟩
 ·exact Or.inl ⟨hv,hn⟩
 ·refine Or.inr ⟨g',cap,cur,hv,hb,?_,r⟩
  have hlt:g' < w.heap.size:=Blk.lt (t:=e) (cs:=cur) hh
  have hne:g'≠g:=hd g' (by rw [hv];rfl)
  rw [k.block g' hlt hne]
  exact hh
theorem vP {w:World} {base size n:Nat} {e:TypeId} {v:Value} {xs:List Value} (h:w.ownsRow base e size v n xs):∀ k,v.ownBlock=some k→k < w.heap.size:=by
 intro k hk
 rcases h.2 with ⟨hv,hn⟩ | ⟨g,cap,cur,hv,hb,hh,_⟩
 ·subst hv;simp [Value.ownBlock] at hk
 ·subst hv
  simp [Value.ownBlock] at hk
  subst hk
  exact Blk.lt (t:=e) (cs:=cur) hh
set_option maxRecDepth 100000 in
theorem Words_q (s:ByteArray) (w:World) (hs:s.size≤1000000000):Calls Tryz.prog 38 #[.string s] w fun e w'=>(∃ A1 c1,e=.returned (.tuple #[.slice A1 (aL s.data.toList).1.length c1,.int .i64 (aL s.data.toList).2.1,.int .i64 (aL s.data.toList).2.2])∧w'.ownsRow w.heap.size 128 3 (.slice A1 (aL s.data.toList).1.length c1) (aL s.data.toList).1.length (flat encW (aL s.data.toList).1))∧Below w.heap.size w w':=by
 obtain ⟨L,hL⟩:∃ L,L=s.data.toList:=⟨_,rfl⟩
 have hLn:L.length=s.size:=by rw [hL];simp
 have HAt:=hide (show ∀ k (h:k < s.size),s[k]'h=atB L k from fun k h=>by rw [hL];exact byte_at s k h)
 have HRdk:=hide (show ∀ k,k≤s.size→∀ w',Calls Tryz.prog 68 #[.string (s.extract k s.size)] w' fun e w2=>e=.returned (.tuple #[.string (bs (bR (L.drop k)).1),.int .i64 (bR (L.drop k)).2.1,.int .i64 (bR (L.drop k)).2.2])∧Below w'.heap.size w' w2 from fun k hk w'=>by
  have h1:=Read_q (s.extract k s.size) w' (by rw [gU s k s.size hk (Nat.le_refl _)];omega)
  rw [kW,← hL] at h1
  exact h1)
 have HBak:=hide (show ∀ k,k≤s.size→∀ w',Calls Tryz.prog 69 #[.string (s.extract k s.size)] w' fun e w2=>e=.returned (.int .i64 (eB (L.drop k)))∧w2=w' from fun k hk w'=>by
  have h1:=yA (s.extract k s.size) w' (by rw [gU s k s.size hk (Nat.le_refl _)];omega)
  rw [kW,← hL] at h1
  exact h1)
 have HSt:=hide (fun (i:Nat) (w':World) (hi:i≤s.size)=>x9 s i w' hi)
 have HSub:=hide (show ∀ k n,s.extract k (k + n)=bs ((L.drop k).take n) from fun k n=>by rw [hL];exact sub_bs s k n)
 rw [← hL]
 obtain ⟨R,hR⟩:∃ R,R=aL L:=⟨_,rfl⟩
 obtain ⟨i0,hi,hz0,hz1,hz2⟩:=info_parts Tryz.infoLW
 rw [← hR]
 have HRd:=hide (show R=if 1200 < s.size then ([],1200,4) else if s.size=0 then ([],0,0) else aX (s.size + 1) L 0 [] by rw [hR];unfold aL;rw [hLn])
 have HW:=hide (show ∀ k,wordAt L k=if k < s.size∧atB L k=34 then (⟨(bR (L.drop k)).1,true,k⟩,(bR (L.drop k)).2.1,(bR (L.drop k)).2.2) else if eB (L.drop k)=0 then (⟨[],false,k⟩,0,if k=s.size then 3 else 2) else (⟨(L.drop k).take (eB (L.drop k)),false,k⟩,eB (L.drop k),0) from fun k=>by unfold wordAt;rw [hLn])
 have HG1:=hide (show ∀ f k out,(wordAt L k).2.2≠0→aX (f + 1) L k out=([],k + (wordAt L k).2.1,(wordAt L k).2.2) from fun f k out h=>by rw [aX,if_pos h])
 have HG2:=hide (show ∀ f k out,(wordAt L k).2.2=0→k + (wordAt L k).2.1=s.size→aX (f + 1) L k out=(out++[(wordAt L k).1],0,0) from fun f k out h h2=>by rw [aX,if_neg (by omega),if_pos (by omega)])
 have HG3:=hide (show ∀ f k out,(wordAt L k).2.2=0→¬ k + (wordAt L k).2.1=s.size→atB L (k + (wordAt L k).2.1)≠32→aX (f + 1) L k out=([],k + (wordAt L k).2.1,2) from fun f k out h h2 h3=>by rw [aX,if_neg (by omega),if_neg (by omega),if_pos h3])
 have HG4:=hide (show ∀ f k out,(wordAt L k).2.2=0→¬ k + (wordAt L k).2.1=s.size→atB L (k + (wordAt L k).2.1)=32→aX (f + 1) L k out=aX f L (k + (wordAt L k).2.1 + 1) (out++[(wordAt L k).1]) from fun f k out h h2 h3=>by rw [aX,if_neg (by omega),if_neg (by omega),if_neg (by rw [h3];simp)])
 have HWle:=hide (show ∀ k,k≤s.size→k + (wordAt L k).2.1≤s.size from fun k h=>by have:=jS L k (by omega);omega)
 clear hL hR hLn
 by_cases hbig:1200 < s.size
 case pos =>
  have d1:decide ((1200:Int) < (s.size:Int))=true:=by simp;omega
  have d2:decide (1200 < s.size)=true:=by simp;omega
  have HE:=hide (show R=([],1200,4) by rw [HRd.out,if_pos hbig])
  clear hbig
  go_enter Tryz.func38,Tryz.ntmps38
  go_wp2_with fail
  refine bodyPost_ret (v:=.tuple #[.slice none 0 0,.int .i64 1200,.int .i64 4]) (by simp [results,Tryz.results38,go_sem];try rfl) rfl ?_
  exact ⟨⟨none,0,by rw [HE.out];rfl,by rw [HE.out];exact World.ownsRow_nil _ _ _ _⟩,Below.refl _ _⟩
 case neg =>
  have d1:decide ((1200:Int) < (s.size:Int))=false:=by simp;omega
  have d2:decide (1200 < s.size)=false:=by simp;omega
  by_cases hz:s.size=0
  case pos =>
   have HE:=hide (show R=([],0,0) by rw [HRd.out,if_neg hbig,if_pos hz])
   obtain rfl:=fE hz
   clear hbig hz d1 d2
   go_enter Tryz.func38,Tryz.ntmps38
   go_wp2_with fail
   refine bodyPost_ret (v:=.tuple #[.slice none 0 0,.int .i64 0,.int .i64 0]) (by simp [results,Tryz.results38,go_sem];try rfl) rfl ?_
   exact ⟨⟨none,0,by rw [HE.out];rfl,by rw [HE.out];exact World.ownsRow_nil _ _ _ _⟩,Below.refl _ _⟩
  case neg =>
   have hne:=str_some hz
   have HE:=hide (show R=aX (s.size + 1) L 0 [] by rw [HRd.out,if_neg hbig,if_neg hz])
   clear hbig hz HRd
   go_enter Tryz.func38,Tryz.ntmps38
   go_wp2_with fail
   go_loopw [5,6] (fun v i wr=>∃ (f k:Nat) (out:List WordM),k≤s.size∧out.length≤k∧s.size < f + k∧i=.int .i64 k∧Hid (R=aX f L k out)∧Hid (wr.ownsRow w.heap.size 128 3 v out.length (flat encW out))∧Hid (Below w.heap.size w wr)) (fun _ i _=>s.size + 1 - (intOf i).toNat)
   case atStart=>exact ⟨s.size + 1,0,[],Nat.zero_le _,by simp,by omega,rfl,HE,hide ⟨rfl,Or.inl ⟨rfl,rfl⟩⟩,hide (Below.refl _ _)⟩
   case round =>
    clear HE
    obtain ⟨f,k,out,hk,hok,hf,rfl,HRg,HOw,HB⟩:=hrel
    obtain ⟨VA,vc,rfl,hvc⟩:=aW HOw.out
    obtain ⟨f,rfl⟩:∃ f',f=f' + 1:=⟨f - 1,by omega⟩
    have hle:=HWle.out k hk
    have HG1k:=hide (HG1.out f k out)
    have HG2k:=hide (HG2.out f k out)
    have HG3k:=hide (HG3.out f k out)
    have HG4k:=hide (HG4.out f k out)
    have HWk:=hide (HW.out k)
    obtain ⟨⟨wd,wn,we⟩,hO⟩:∃ X,X=wordAt L k:=⟨_,rfl⟩
    rw [← hO] at hle HG1k HG2k HG3k HG4k HWk
    simp only at hle HG1k HG2k HG3k HG4k
    clear hO HW HG1 HG2 HG3 HG4 HWle
    obtain ⟨kn,hkn⟩:∃ kn,kn=k + wn:=⟨_,rfl⟩
    rw [← hkn] at hle HG1k HG2k HG3k HG4k
    have w1:IntKind.i64.wrap ((kn:Int) + 1)=(kn:Int) + 1:=IntWalk.i64_in _ (by omega)
    have hkk:k≤kn:=by omega
    have HKn:=hide hkn
    clear hkn
    have j1:(0:Int)≤(k:Int):=by omega
    have j2:(k:Int)≤(s.size:Int):=by omega
    obtain ⟨V1,hV1⟩:∃ V1,V1=wr.alloc (.cells #[.string ⟨#[]⟩,.bool false,.int .i64 k] 128):=⟨_,rfl⟩
    obtain ⟨g,hg⟩:∃ g,g=wr.heap.size:=⟨_,rfl⟩
    have HB1:=hide (show Below w.heap.size w V1 by rw [hV1];exact HB.out.alloc HB.out.size _)
    have HG:=hide (show Blk V1 g 128 #[.string ⟨#[]⟩,.bool false,.int .i64 k] by rw [hV1,hg];exact Blk.new _ _ _)
    have HOw1:=hide (show V1.ownsRow w.heap.size 128 3 (.slice VA out.length vc) out.length (flat encW out) by rw [hV1];exact HOw.out.alloc _)
    have hgw:w.heap.size≤g:=by rw [hg];exact HB.out.size
    have HNb:=hide (show ∀ b,(Value.slice VA out.length vc).ownBlock=some b→b≠g from fun b hb=>by have:=vP HOw.out b hb;omega)
    have HV1:=hide hV1
    have Hg:=hide hg
    clear hV1 hg
    by_cases hq:k < s.size∧atB L k=34
    case pos =>
     have hlt:=hq.1
     have e1:decide ((k:Int) < (s.size:Int))=true:=by simp;omega
     have e2:decide (k < s.size)=true:=by simp;omega
     have j3:(k:Int) < (s.size:Int):=by omega
     have HA:=hide (HAt.out k hlt)
     have hck0:((s[k]'hlt).toNat:Int)=34:=by rw [HA.out,hq.2];rfl
     have hw9:=HWk.out
     rw [if_pos hq] at hw9
     have HRk:=hide (HRdk.out k hk)
     obtain ⟨⟨rt,rn,re⟩,hrt⟩:∃ X,X=bR (L.drop k):=⟨_,rfl⟩
     rw [← hrt] at hw9 HRk
     simp only at hw9 HRk
     injection hw9 with ha hb9
     injection hb9 with hb hc
     subst hb;subst hc
     clear hrt hq HWk
     have w2:IntKind.i64.wrap ((k:Int) + (wn:Int))=(kn:Int):=by
      have h9:=HKn.out
      rw [IntWalk.i64_in _ (by omega)];omega
     have HWd:=hide (show encW wd=[.string (bs rt),.bool true,.int .i64 k] by rw [ha])
     clear ha
     go_upto_region 9 with fail
     rw [← HV1.out,← Hg.out]
     by_cases hwe:we=0
     case neg =>
      have q0:((we:Int) != 0)=true:=by simp;omega
      have HE:=hide (show R=([],kn,we) by rw [HRg.out,HG1k.out hwe])
      clear hwe
      go_wp2_with fail
      refine (HRk.out _).mono ?_
      rintro e V2 ⟨rfl,hb2⟩
      have HB2:=hide (HB1.out.trans (hb2.mono HB1.out.size))
      clear hb2
      go_wp2_with fail
      refine bodyPost_ret (v:=.tuple #[.slice none 0 0,.int .i64 kn,.int .i64 we]) (by simp [results,Tryz.results38,go_sem];try rfl) rfl ?_
      exact ⟨⟨none,0,by rw [HE.out];first | done | rfl,by rw [HE.out];exact World.ownsRow_nil _ _ _ _⟩,HB2.out⟩
     case pos =>
      have q0:((we:Int) != 0)=false:=by simp;omega
      have HWe:=hide hwe
      clear hwe
      go_wp2_with fail
      refine (HRk.out _).mono ?_
      rintro e V2 ⟨rfl,hb2⟩
      have HB2:=hide (HB1.out.trans (hb2.mono HB1.out.size))
      have HG2:=hide (HG.out.below hb2)
      have HO2:=hide (b8 HOw1.out (Only.of_below hb2 aA) (fun _ _ h=>h.elim))
      clear hb2
      obtain ⟨⟨y0,y1,y2⟩,_⟩:=HG2.out.three
      have f0:=HG2.out.frozen 0
      have f1:=HG2.out.frozen 1
      go_upto_region 20 with fail
      obtain ⟨V3,hV3⟩:∃ V3,V3=(V2.setCell ⟨g,0,none⟩ (.string (bs rt))).setCell ⟨g,1,none⟩ (.bool true):=⟨_,rfl⟩
      have HGb:=hide (show Blk V3 g 128 #[.string (bs rt),.bool true,.int .i64 k] by rw [hV3];exact (HG2.out.set_ 0 _).set_ 1 _)
      have HBv:=hide (show Below w.heap.size w V3 by rw [hV3];exact (HB2.out.setCell hgw _).setCell hgw _)
      have HOv:=hide (show V3.ownsRow w.heap.size 128 3 (.slice VA out.length vc) out.length (flat encW out) by rw [hV3];exact kP HO2.out (((Only.refl (· = g) V2).setCell (p:=⟨g,0,none⟩) (Or.inl rfl) _).setCell (p:=⟨g,1,none⟩) (Or.inl rfl) _) HNb.out)
      rw [← hV3]
      clear hV3 y0 y1 y2 f0 f1
      obtain ⟨⟨x0,x1,x2⟩,_⟩:=HGb.out.three
      have hX:=hide (show Rd (V3.alloc (.cells #[.string (bs rt),.bool true,.int .i64 k] 128)) aA (some ⟨V3.heap.size,0,none⟩) [.string (bs rt),.bool true,.int .i64 k] from aY (Blk.new _ _ _) (fun h=>h))
      have HOx:=hide (HOv.out.alloc (.cells #[.string (bs rt),.bool true,.int .i64 k] 128))
      have hbsz:=HBv.out.size
      by_cases hend:kn=s.size
      case pos =>
       have q1:((kn:Int) == (s.size:Int))=true:=beq_iff_eq.2 (by omega)
       have HE:=hide (show R=(out++[wd],0,0) by rw [HRg.out,HG2k.out HWe.out hend])
       clear hend
       go_wp2_with (first
        | (at_builtin;refine aD _ rfl (.tmp 73) (.tmp 75) _ rfl w.heap.size 128 i0 (.agg #[.string ⟨#[]⟩,.bool false,.int .i64 0]) 3 32 Tryz.underlying74 hi hz0 hz1 hz2 rfl (by omega) _ out.length (flat encW out) rfl HOx.out aA (some ⟨V3.heap.size,0,none⟩) 1 1 [.string (bs rt),.bool true,.int .i64 k] rfl hX.out rfl (by intro u hu;simp at hu;rcases hu with rfl | rfl | rfl<;>rfl) (by simp only [maxLen];omega) (by omega) (by simp;omega) ?_;intro v5 w5 hown5 hgr _;have Own5:=hide hown5;have Gr:=hide hgr;clear hown5 hgr))
       have HB5:=hide ((HBv.out.alloc HBv.out.size (.cells #[.string (bs rt),.bool true,.int .i64 k] 128)).grown Gr.out (by simp;omega) (fun j hj=>by have:=aU HOv.out j hj;omega))
       have HO5:=hide (show w5.ownsRow w.heap.size 128 3 v5 (out++[wd]).length (flat encW (out++[wd])) by rw [show flat encW (out++[wd])=flat encW out++encW wd by simp [flat],HWd.out,List.length_append];exact Own5.out)
       obtain ⟨A5,c5,hv5,_⟩:=aW HO5.out
       subst hv5
       refine bodyPost_ret (v:=.tuple #[.slice A5 (out++[wd]).length c5,.int .i64 0,.int .i64 0]) (by simp [results,Tryz.results38,go_sem];try rfl) rfl ?_
       exact ⟨⟨A5,c5,by rw [HE.out];first | done | rfl,by rw [HE.out];exact HO5.out⟩,HB5.out⟩
      case neg =>
       have q1:((kn:Int) == (s.size:Int))=false:=beq_eq_false_iff_ne.2 (by omega)
       have hknlt:kn < s.size:=by omega
       have HA:=hide (HAt.out kn hknlt)
       have hck:((s[kn]'hknlt).toNat:Int)=((atB L kn).toNat:Int):=by rw [HA.out]
       have i1:(0:Int)≤(kn:Int):=by omega
       have i2:(kn:Int) < (s.size:Int):=by omega
       by_cases h32:(atB L kn).toNat=32
       case pos =>
        have q2:(((atB L kn).toNat:Int) != 32)=false:=by simp;omega
        have HE:=hide (show R=aX f L (kn + 1) (out++[wd]) by rw [HRg.out,HG4k.out HWe.out hend (by apply UInt8.toNat_inj.1;rw [h32];rfl)])
        clear hend h32
        go_wp2_with (first
         | (at_builtin;refine aD _ rfl (.tmp 73) (.tmp 75) _ rfl w.heap.size 128 i0 (.agg #[.string ⟨#[]⟩,.bool false,.int .i64 0]) 3 32 Tryz.underlying74 hi hz0 hz1 hz2 rfl (by omega) _ out.length (flat encW out) rfl HOx.out aA (some ⟨V3.heap.size,0,none⟩) 1 1 [.string (bs rt),.bool true,.int .i64 k] rfl hX.out rfl (by intro u hu;simp at hu;rcases hu with rfl | rfl | rfl<;>rfl) (by simp only [maxLen];omega) (by omega) (by simp;omega) ?_;intro v5 w5 hown5 hgr _;have Own5:=hide hown5;have Gr:=hide hgr;clear hown5 hgr))
        have HB5:=hide ((HBv.out.alloc HBv.out.size (.cells #[.string (bs rt),.bool true,.int .i64 k] 128)).grown Gr.out (by simp;omega) (fun j hj=>by have:=aU HOv.out j hj;omega))
        have HO5:=hide (show w5.ownsRow w.heap.size 128 3 v5 (out++[wd]).length (flat encW (out++[wd])) by rw [show flat encW (out++[wd])=flat encW out++encW wd by simp [flat],HWd.out,List.length_append];exact Own5.out)
        go_roundw
        case rel=>exact ⟨f,kn + 1,out++[wd],by omega,by simp;omega,by omega,by go_num,HE,HO5,HB5⟩
        case measure=>simp [intOf];omega
       case neg =>
        have q2:(((atB L kn).toNat:Int) != 32)=true:=by simp;omega
        have HE:=hide (show R=([],kn,2) by rw [HRg.out,HG3k.out HWe.out hend (fun h=>h32 (by rw [h];rfl))])
        have HKs:=hide hend
        clear hend h32
        go_wp2_with (first
         | (at_builtin;refine aD _ rfl (.tmp 73) (.tmp 75) _ rfl w.heap.size 128 i0 (.agg #[.string ⟨#[]⟩,.bool false,.int .i64 0]) 3 32 Tryz.underlying74 hi hz0 hz1 hz2 rfl (by omega) _ out.length (flat encW out) rfl HOx.out aA (some ⟨V3.heap.size,0,none⟩) 1 1 [.string (bs rt),.bool true,.int .i64 k] rfl hX.out rfl (by intro u hu;simp at hu;rcases hu with rfl | rfl | rfl<;>rfl) (by simp only [maxLen];omega) (by omega) (by simp;omega) ?_;intro v5 w5 hown5 hgr _;have Own5:=hide hown5;have Gr:=hide hgr;clear hown5 hgr))
        have HB5:=hide ((HBv.out.alloc HBv.out.size (.cells #[.string (bs rt),.bool true,.int .i64 k] 128)).grown Gr.out (by simp;omega) (fun j hj=>by have:=aU HOv.out j hj;omega))
        refine (HSt.out kn _ hle).mono ?_
        rintro e wq ⟨rfl,hwq⟩
        rw [hwq,if_neg HKs.out]
        clear hwq
        go_wp2_with fail
        refine bodyPost_ret (v:=.tuple #[.slice none 0 0,.int .i64 kn,.int .i64 2]) (by simp [results,Tryz.results38,go_sem];try rfl) rfl ?_
        exact ⟨⟨none,0,by rw [HE.out];first | done | rfl,by rw [HE.out];exact World.ownsRow_nil _ _ _ _⟩,HB5.out⟩
    case neg =>
     have hw9:=HWk.out
     rw [if_neg hq] at hw9
     have HBk:=hide (HBak.out k hk)
     obtain ⟨bn,hbn⟩:∃ bn,bn=eB (L.drop k):=⟨_,rfl⟩
     rw [← hbn] at hw9 HBk
     clear hbn HWk
     have hfront:(k < s.size∧(atB L k).toNat≠34)∨¬ k < s.size:=by
      by_cases h:k < s.size
      ·exact Or.inl ⟨h,fun h2=>hq ⟨h,by apply UInt8.toNat_inj.1;rw [h2];rfl⟩⟩
      ·exact Or.inr h
     clear hq
     by_cases hb0:bn=0
     case pos =>
      rw [if_pos hb0] at hw9
      injection hw9 with ha hb9
      injection hb9 with hb hc
      subst hb
      have HB0:=hide hb0
      rw [hb0] at HBk
      obtain ⟨er,her⟩:∃ er:Nat,er=if k=s.size then 3 else 2:=⟨_,rfl⟩
      have hkq:kn=k:=by have:=HKn.out;omega
      have HE:=hide (show R=([],k,er) by rw [HRg.out,HG1k.out (by rw [hc];split<;>decide),hc,her,hkq])
      have HSk:=hide (fun w'=>HSt.out k w' hk)
      rw [← her] at HSk
      clear hc hb0 her hkq hle hkk ha
      rcases hfront with ⟨hlt,h34⟩ | hlt
      ·have e1:decide ((k:Int) < (s.size:Int))=true:=by simp;omega
       have e2:decide (k < s.size)=true:=by simp;omega
       have j3:(k:Int) < (s.size:Int):=by omega
       have HA:=hide (HAt.out k hlt)
       have hck0:((s[k]'hlt).toNat:Int)=((atB L k).toNat:Int):=by rw [HA.out]
       have q9:(((atB L k).toNat:Int) == 34)=false:=beq_eq_false_iff_ne.2 (by omega)
       clear h34
       go_upto_region 9 with fail
       rw [← HV1.out,← Hg.out]
       go_wp2_with fail
       refine (HBk.out _).mono ?_
       rintro e wq ⟨rfl,hwq⟩
       rw [hwq]
       clear hwq
       go_wp2_with fail
       refine (HSk.out _).mono ?_
       rintro e wq ⟨rfl,hwq⟩
       rw [hwq]
       clear hwq
       go_wp2_with fail
       refine bodyPost_ret (v:=.tuple #[.slice none 0 0,.int .i64 k,.int .i64 er]) (by simp [results,Tryz.results38,go_sem];try rfl) rfl ?_
       exact ⟨⟨none,0,by rw [HE.out];first | done | rfl,by rw [HE.out];exact World.ownsRow_nil _ _ _ _⟩,HB1.out⟩
      ·have e1:decide ((k:Int) < (s.size:Int))=false:=by simp;omega
       have e2:decide (k < s.size)=false:=by simp;omega
       go_upto_region 9 with fail
       rw [← HV1.out,← Hg.out]
       go_wp2_with fail
       refine (HBk.out _).mono ?_
       rintro e wq ⟨rfl,hwq⟩
       rw [hwq]
       clear hwq
       go_wp2_with fail
       refine (HSk.out _).mono ?_
       rintro e wq ⟨rfl,hwq⟩
       rw [hwq]
       clear hwq
       go_wp2_with fail
       refine bodyPost_ret (v:=.tuple #[.slice none 0 0,.int .i64 k,.int .i64 er]) (by simp [results,Tryz.results38,go_sem];try rfl) rfl ?_
       exact ⟨⟨none,0,by rw [HE.out];first | done | rfl,by rw [HE.out];exact World.ownsRow_nil _ _ _ _⟩,HB1.out⟩
     case neg =>
      rw [if_neg hb0] at hw9
      injection hw9 with ha hb9
      injection hb9 with hb hc
      subst hb;subst hc
      have HWd0:=hide ha
      have w2:IntKind.i64.wrap ((k:Int) + (wn:Int))=(kn:Int):=by
       have h9:=HKn.out
       rw [IntWalk.i64_in _ (by omega)];omega
      have q8:((wn:Int) == 0)=false:=beq_eq_false_iff_ne.2 (by omega)
      have HWe:=hide (rfl:(0:Nat)=0)
      obtain ⟨ct,hct⟩:∃ ct,ct=s.extract k kn:=⟨_,rfl⟩
      have HWd:=hide (show encW wd=[.string ct,.bool false,.int .i64 k] by rw [ha,hct,HKn.out,HSub.out k wn])
      have i5:(k:Int)≤(kn:Int):=by omega
      have i6:(kn:Int)≤(s.size:Int):=by omega
      have HCt:=hide hct
      have f0:=HG.out.frozen 0
      obtain ⟨⟨y0,y1,y2⟩,_⟩:=HG.out.three
      have hwn0:0 < wn:=by omega
      clear ha hb0 hct
      rcases hfront with ⟨hlt,h34⟩ | hlt
      ·have e1:decide ((k:Int) < (s.size:Int))=true:=by simp;omega
       have e2:decide (k < s.size)=true:=by simp;omega
       have j3:(k:Int) < (s.size:Int):=by omega
       have HA:=hide (HAt.out k hlt)
       have hck0:((s[k]'hlt).toNat:Int)=((atB L k).toNat:Int):=by rw [HA.out]
       have q9:(((atB L k).toNat:Int) == 34)=false:=beq_eq_false_iff_ne.2 (by omega)
       clear h34
       go_upto_region 9 with fail
       rw [← HV1.out,← Hg.out]
       go_wp2_with fail
       refine (HBk.out _).mono ?_
       rintro e wq ⟨rfl,hwq⟩
       rw [hwq]
       clear hwq
       go_upto_region 20 with fail
       rw [← HCt.out]
       obtain ⟨V3,hV3⟩:∃ V3,V3=V1.setCell ⟨g,0,none⟩ (.string ct):=⟨_,rfl⟩
       have HGb:=hide (show Blk V3 g 128 #[.string ct,.bool false,.int .i64 k] by rw [hV3];exact HG.out.set_ 0 _)
       have HBv:=hide (show Below w.heap.size w V3 by rw [hV3];exact HB1.out.setCell hgw _)
       have HOv:=hide (show V3.ownsRow w.heap.size 128 3 (.slice VA out.length vc) out.length (flat encW out) by rw [hV3];exact kP HOw1.out ((Only.refl (· = g) V1).setCell (p:=⟨g,0,none⟩) (Or.inl rfl) _) HNb.out)
       rw [← hV3]
       clear hV3 y0 y1 y2 f0
       obtain ⟨⟨x0,x1,x2⟩,_⟩:=HGb.out.three
       have hX:=hide (show Rd (V3.alloc (.cells #[.string ct,.bool false,.int .i64 k] 128)) aA (some ⟨V3.heap.size,0,none⟩) [.string ct,.bool false,.int .i64 k] from aY (Blk.new _ _ _) (fun h=>h))
       have HOx:=hide (HOv.out.alloc (.cells #[.string ct,.bool false,.int .i64 k] 128))
       have hbsz:=HBv.out.size
       by_cases hend:kn=s.size
       case pos =>
        have q1:((kn:Int) == (s.size:Int))=true:=beq_iff_eq.2 (by omega)
        have HE:=hide (show R=(out++[wd],0,0) by rw [HRg.out,HG2k.out HWe.out hend])
        clear hend
        go_wp2_with (first
         | (at_builtin;refine aD _ rfl (.tmp 73) (.tmp 75) _ rfl w.heap.size 128 i0 (.agg #[.string ⟨#[]⟩,.bool false,.int .i64 0]) 3 32 Tryz.underlying74 hi hz0 hz1 hz2 rfl (by omega) _ out.length (flat encW out) rfl HOx.out aA (some ⟨V3.heap.size,0,none⟩) 1 1 [.string ct,.bool false,.int .i64 k] rfl hX.out rfl (by intro u hu;simp at hu;rcases hu with rfl | rfl | rfl<;>rfl) (by simp only [maxLen];omega) (by omega) (by simp;omega) ?_;intro v5 w5 hown5 hgr _;have Own5:=hide hown5;have Gr:=hide hgr;clear hown5 hgr))
        have HB5:=hide ((HBv.out.alloc HBv.out.size (.cells #[.string ct,.bool false,.int .i64 k] 128)).grown Gr.out (by simp;omega) (fun j hj=>by have:=aU HOv.out j hj;omega))
        have HO5:=hide (show w5.ownsRow w.heap.size 128 3 v5 (out++[wd]).length (flat encW (out++[wd])) by rw [show flat encW (out++[wd])=flat encW out++encW wd by simp [flat],HWd.out,List.length_append];exact Own5.out)
        obtain ⟨A5,c5,hv5,_⟩:=aW HO5.out
        subst hv5
        refine bodyPost_ret (v:=.tuple #[.slice A5 (out++[wd]).length c5,.int .i64 0,.int .i64 0]) (by simp [results,Tryz.results38,go_sem];try rfl) rfl ?_
        exact ⟨⟨A5,c5,by rw [HE.out];first | done | rfl,by rw [HE.out];exact HO5.out⟩,HB5.out⟩
       case neg =>
        have q1:((kn:Int) == (s.size:Int))=false:=beq_eq_false_iff_ne.2 (by omega)
        have hknlt:kn < s.size:=by omega
        have HA:=hide (HAt.out kn hknlt)
        have hck:((s[kn]'hknlt).toNat:Int)=((atB L kn).toNat:Int):=by rw [HA.out]
        have i1:(0:Int)≤(kn:Int):=by omega
        have i2:(kn:Int) < (s.size:Int):=by omega
        by_cases h32:(atB L kn).toNat=32
        case pos =>
         have q2:(((atB L kn).toNat:Int) != 32)=false:=by simp;omega
         have HE:=hide (show R=aX f L (kn + 1) (out++[wd]) by rw [HRg.out,HG4k.out HWe.out hend (by apply UInt8.toNat_inj.1;rw [h32];rfl)])
         clear hend h32
         go_wp2_with (first
          | (at_builtin;refine aD _ rfl (.tmp 73) (.tmp 75) _ rfl w.heap.size 128 i0 (.agg #[.string ⟨#[]⟩,.bool false,.int .i64 0]) 3 32 Tryz.underlying74 hi hz0 hz1 hz2 rfl (by omega) _ out.length (flat encW out) rfl HOx.out aA (some ⟨V3.heap.size,0,none⟩) 1 1 [.string ct,.bool false,.int .i64 k] rfl hX.out rfl (by intro u hu;simp at hu;rcases hu with rfl | rfl | rfl<;>rfl) (by simp only [maxLen];omega) (by omega) (by simp;omega) ?_;intro v5 w5 hown5 hgr _;have Own5:=hide hown5;have Gr:=hide hgr;clear hown5 hgr))
         have HB5:=hide ((HBv.out.alloc HBv.out.size (.cells #[.string ct,.bool false,.int .i64 k] 128)).grown Gr.out (by simp;omega) (fun j hj=>by have:=aU HOv.out j hj;omega))
         have HO5:=hide (show w5.ownsRow w.heap.size 128 3 v5 (out++[wd]).length (flat encW (out++[wd])) by rw [show flat encW (out++[wd])=flat encW out++encW wd by simp [flat],HWd.out,List.length_append];exact Own5.out)
         go_roundw
         case rel=>exact ⟨f,kn + 1,out++[wd],by omega,by simp;omega,by omega,by go_num,HE,HO5,HB5⟩
         case measure=>simp [intOf];omega
        case neg =>
         have q2:(((atB L kn).toNat:Int) != 32)=true:=by simp;omega
         have HE:=hide (show R=([],kn,2) by rw [HRg.out,HG3k.out HWe.out hend (fun h=>h32 (by rw [h];rfl))])
         have HKs:=hide hend
         clear hend h32
         go_wp2_with (first
          | (at_builtin;refine aD _ rfl (.tmp 73) (.tmp 75) _ rfl w.heap.size 128 i0 (.agg #[.string ⟨#[]⟩,.bool false,.int .i64 0]) 3 32 Tryz.underlying74 hi hz0 hz1 hz2 rfl (by omega) _ out.length (flat encW out) rfl HOx.out aA (some ⟨V3.heap.size,0,none⟩) 1 1 [.string ct,.bool false,.int .i64 k] rfl hX.out rfl (by intro u hu;simp at hu;rcases hu with rfl | rfl | rfl<;>rfl) (by simp only [maxLen];omega) (by omega) (by simp;omega) ?_;intro v5 w5 hown5 hgr _;have Own5:=hide hown5;have Gr:=hide hgr;clear hown5 hgr))
         have HB5:=hide ((HBv.out.alloc HBv.out.size (.cells #[.string ct,.bool false,.int .i64 k] 128)).grown Gr.out (by simp;omega) (fun j hj=>by have:=aU HOv.out j hj;omega))
         refine (HSt.out kn _ hle).mono ?_
         rintro e wq ⟨rfl,hwq⟩
         rw [hwq,if_neg HKs.out]
         clear hwq
         go_wp2_with fail
         refine bodyPost_ret (v:=.tuple #[.slice none 0 0,.int .i64 kn,.int .i64 2]) (by simp [results,Tryz.results38,go_sem];try rfl) rfl ?_
         exact ⟨⟨none,0,by rw [HE.out];first | done | rfl,by rw [HE.out];exact World.ownsRow_nil _ _ _ _⟩,HB5.out⟩
      ·have e1:decide ((k:Int) < (s.size:Int))=false:=by simp;omega
       have e2:decide (k < s.size)=false:=by simp;omega
       exfalso
       have h9:=HKn.out
       omega
end Go.Proofs.YtaioaojfdngfdaaGreatDoor
