/- A pattern's text, by the page; what is wrong of it. Conditions: those of each theorem. -/
import Derived.Test.YtaioaojfdngfdaaGreatDoorPg22
set_option linter.unusedVariables false
set_option linter.unusedSimpArgs false
set_option maxHeartbeats 12800000
namespace Go.Proofs.YtaioaojfdngfdaaGreatDoor
open Go.RowKit
def fY (l:List UInt8) (w:World) (e:Ending) (w':World):Prop :=
 ∃ (A:Option Addr) (c:Nat) (its:List ItM),e=.returned (.tuple #[.slice A its.length c,.int .i64 (aM 0 l).2.1,.int .i64 (aM 0 l).2.2])∧((aM 0 l).2.2=0→its.map (·.run)=(aM 0 l).1)∧its.length≤60∧Rd w' aA A (flat cC its)∧Below w.heap.size w w'
theorem sufread (s:ByteArray) (hs:s.size≤9223372036854775806) (q:Nat) (hq:q≤s.size) (w:World):Calls Tryz.prog 183 #[.string (s.extract q s.size)] w (wJ w (b7 (suf s q)).1 (b7 (suf s q)).2):=by
 have:=xB (s.extract q s.size) w (by rw [ext_size s q hq];omega)
 rw [m4 s q hq] at this
 exact this
set_option maxRecDepth 100000 in
theorem uF (s:ByteArray) (w:World) (hs:s.size≤9223372036854775806):Calls Tryz.prog 150 #[.string s] w (fY s.data.toList w):=by
 obtain ⟨i0,hi,hz0,hz1,hz2⟩:=info_parts Tryz.infoItem
 have HRD:=hide (fun q hq w=>sufread s hs q hq w)
 have HSP:=hide (fun x y w hx hy=>wY x y w hx hy)
 rw [← mY]
 go_enter Tryz.func150,Tryz.ntmps150
 go_wp2_with fail
 go_loopw [5,6] (fun v i wr=>∃ (q:Nat) (its:List ItM),its.length≤60∧q≤s.size∧i=.int .i64 q∧Hid (wr.ownsRow w.heap.size 253 5 v its.length (flat cC its))∧Hid (Below w.heap.size w wr)∧Hid (aM 0 (suf s 0)=iU (its.map (·.run)) q (aM its.length (suf s q)))) (fun _ i _=>s.size - (intOf i).toNat)
 case atStart=>exact ⟨0,[],by simp,Nat.zero_le _,rfl,hide (eY (Nat.le_refl _)),hide (aK _ _),hide (oU _)⟩
 case round =>
  obtain ⟨q,its,hk,hq,rfl,HOW,HO,HP⟩:=hrel
  by_cases hlt:q < s.size
  case neg =>
   obtain rfl:q=s.size:=by omega
   have d1:decide ((s.size:Int) < (s.size:Int))=false:=by simp
   have d2:decide (s.size < s.size)=false:=by simp
   obtain ⟨A5,c5,rfl,hcap⟩:=aW HOW.out
   obtain ⟨k,hkk⟩:∃ k,k=its.length:=⟨_,rfl⟩
   rw [← hkk] at hk HOW HP ⊢
   have HKK:=hide hkk
   clear hkk
   have HQ:=hide (show aM 0 (suf s 0)=(its.map (·.run),0,0) by rw [HP.out,dU (Nat.le_refl _),mQ];simp [iU])
   have HRd:=hide (Rd.of_own (M:=aA) HOW.out (fun k h=>h.elim))
   go_wp2_with fail
   refine bodyPost_ret (v:=.tuple #[.slice A5 k c5,.int .i64 (0:Nat),.int .i64 (0:Nat)]) (by simp [results,Tryz.results150,go_sem]) rfl ?_
   unfold fY
   rw [HQ.out,HKK.out]
   exact ⟨A5,c5,its,rfl,fun _=>rfl,by rw [← HKK.out];exact hk,HRd.out,HO.out⟩
  case pos =>
   have d1:decide ((q:Int) < (s.size:Int))=true:=by simp;exact hlt
   have d2:decide (q < s.size)=true:=by simp;exact hlt
   have hne:suf s q≠[]:=by rw [bL hlt];simp
   obtain ⟨A5,c5,rfl,hcap⟩:=aW HOW.out
   obtain ⟨k,hkk⟩:∃ k,k=its.length:=⟨_,rfl⟩
   rw [← hkk] at hk HOW HP ⊢
   have HKK:=hide hkk
   clear hkk
   by_cases hk6:k=60
   case pos =>
    subst hk6
    have HQ:=hide (show aM 0 (suf s 0)=([],q,4) by rw [HP.out,lK hne];rfl)
    clear hne
    go_wp2_with fail
    refine bodyPost_ret (v:=.tuple #[.slice none 0 0,.int .i64 q,.int .i64 (4:Nat)]) (by simp [results,Tryz.results150,go_sem]) rfl ?_
    unfold fY
    rw [HQ.out]
    exact ⟨none,0,[],rfl,by simp,by simp,Or.inl rfl,HO.out⟩
   case neg =>
    have hkb:((k:Int) == 60)=false:=by simp only [beq_eq_false_iff_ne,ne_eq];omega
    have hle:=lR (suf s q)
    have hpos:=kA (l:=suf s q) hne
    have hcm:=qQ (rs:=its.map (·.run)) (p:=q) (k:=k) hne hk6
    have hbd:=mR (l:=suf s q) (k:=k) hne hk6
    rw [eS] at hle
    have hbad:∀ n e,(bM (suf s q))=((bM (suf s q)).1,n,e)→e≠0→aM 0 (suf s 0)=([],q + n,e):=by
     intro n e hie hen
     have h2:(bM (suf s q)).2=(n,e):=congrArg Prod.snd hie
     rw [HP.out,hbd (by rw [h2];exact hen),h2]
     unfold iU
     rw [if_pos hen]
    have hnext:∀ r n,bM (suf s q)=(r,n,0)→1≤n∧n≤s.size - q∧aM 0 (suf s 0)=iU (its.map (·.run)++[r]) (q + n) (aM (k + 1) (suf s (q + n))):=by
     intro r n hie
     rw [hie] at hpos hle hcm
     have h2:=hcm rfl
     rw [dS] at h2
     exact ⟨hpos rfl,hle,HP.out.trans h2⟩
    have HBad:=hide hbad
    have HNx:=hide hnext
    clear hbad hnext hbd hcm hpos hle
    have j1:(0:Int)≤(q:Int):=by omega
    have j2:(q:Int) < (s.size:Int):=by omega
    have j3:(q:Int)≤(s.size:Int):=by omega
    have wq1:IntKind.i64.wrap ((q:Int) + 1)=(q:Int) + 1:=IntWalk.i64_in _ (by omega)
    have hsc:=bL hlt
    have hcb:s[q].toNat < 256:=UInt8.toNat_lt _
    obtain ⟨b,hb⟩:∃ b,b=s[q]:=⟨_,rfl⟩
    have hbq:s[q]=b:=hb.symm
    rw [hbq] at hsc hcb
    clear hb hne
    by_cases h93:b=93
    case pos =>
     have b1:((b.toNat:Int) == 93)=true:=by rw [h93];rfl
     have HQ:=hide (HBad.out 0 2 (by rw [hsc,h93];rfl) (by decide))
     have HE0:=hide (show (2:Nat)=0→([]:List ItM).map (·.run)=([]:List Bool) from fun _=>rfl)
     clear h93 hsc
     go_wp2_with fail
     refine bodyPost_ret (v:=.tuple #[.slice none 0 0,.int .i64 (q:Int),.int .i64 (2:Nat)]) (by simp [results,Tryz.results150,go_sem]) rfl ?_
     unfold fY
     rw [HQ.out]
     exact ⟨none,0,[],rfl,HE0.out,by simp,Or.inl rfl,HO.out⟩
    case neg =>
     have b1:((b.toNat:Int) == 93)=false:=iK (n:=93) h93 (by omega)
     by_cases h91:b=91
     case pos =>
      have b2:((b.toNat:Int) == 91)=true:=by rw [h91];rfl
      have HR:=hide (fun w=>HRD.out q (by omega) w)
      obtain ⟨n,e0,hre⟩:∃ n e,b7 (suf s q)=(n,e):=⟨_,_,rfl⟩
      rw [hre] at HR
      have hit:bM (suf s q)=(false,n,e0):=by
       rw [hsc,h91] at hre ⊢
       simp [bM,hre]
      have hnl:n≤s.size:=by have:=nP (suf s q);rw [hre,eS] at this;simp only at this;omega
      have wn:IntKind.i64.wrap ((q:Int) + (n:Int))=(q:Int) + (n:Int):=IntWalk.i64_in _ (by have:=nP (suf s q);rw [hre,eS] at this;simp only at this;omega)
      clear h91 h93 hsc hre
      by_cases he:e0=0
      ·subst he
       have HNq:=hide (HNx.out _ _ hit)
       clear hit
       go_wp2_with fail
       refine (HR.out _).mono ?_
       rintro e w4 ⟨⟨xa,xb,xc,xd,rfl⟩,hb4⟩
       have HOW4:=hide ((b8 HOW.out (Only.of_below hb4 aA) (fun _ _ h=>h.elim)).alloc (.cells #[.int .u64 xa,.int .u64 xb,.int .u64 xc,.int .u64 xd] 249))
       have HO4:=hide ((HO.out.trans (hb4.mono HO.out.size)).alloc ((HO.out.trans (hb4.mono HO.out.size)).size) (.cells #[.int .u64 xa,.int .u64 xb,.int .u64 xc,.int .u64 xd] 249))
       clear hb4
       have HOWb:=hide (HOW4.out.alloc (.cells #[.bool false,.int .u64 xa,.int .u64 xb,.int .u64 xc,.int .u64 xd] 253))
       have Hrd:=hide (show Rd ((w4.alloc (.cells #[.int .u64 xa,.int .u64 xb,.int .u64 xc,.int .u64 xd] 249)).alloc (.cells #[.bool false,.int .u64 xa,.int .u64 xb,.int .u64 xc,.int .u64 xd] 253)) aA (some ⟨w4.heap.size + 1,0,none⟩) (cC ⟨false,xa,xb,xc,xd⟩) from aY (Blk.new' (by simp)) (fun h=>h))
       have HO2:=hide (HO4.out.alloc HO4.out.size (.cells #[.bool false,.int .u64 xa,.int .u64 xb,.int .u64 xc,.int .u64 xd] 253))
       have Hone:=hide (fW ⟨false,xa,xb,xc,xd⟩)
       go_wp2_with (first
        | (go_at_call 184;fail)
        | (at_builtin;refine aD _ rfl (.tmp 43) (.tmp 46) _ rfl w.heap.size 253 i0 _ 5 40 Tryz.underlying187 hi hz0 hz1 hz2 rfl (by omega) _ k _ rfl HOWb.out aA (some ⟨w4.heap.size + 1,0,none⟩) 1 1 (cC ⟨false,xa,xb,xc,xd⟩) rfl Hrd.out rfl Hone.out (by simp only [maxLen];omega) (by omega) HO2.out.size ?_;intro v2 w2 hown2 hgr _;have Own2:=hide hown2;have Gr:=hide hgr;clear hown2 hgr))
       go_roundw
       case rel =>
        obtain ⟨hn1,hn2,hn3⟩:=HNq.out
        refine ⟨q + n,its++[⟨false,xa,xb,xc,xd⟩],?_,by omega,by go_num,?_,?_,?_⟩
        ·rw [List.length_append,← HKK.out];simp;omega
        ·exact hide (by rw [dZ,List.length_append,← HKK.out];have:=Own2.out;simpa [flat] using this)
        ·exact hide (HO2.out.grown Gr.out HO2.out.size (fun j hj=>aU HOWb.out j hj))
        ·exact hide (by rw [hn3,List.map_append,List.length_append,← HKK.out];rfl)
       case measure=>obtain ⟨hn1,hn2,hn3⟩:=HNq.out;simp [intOf];omega
      ·have HQ:=hide (HBad.out n e0 (by rw [hit]) he)
       have hne0:((e0:Int) != 0)=true:=by simp only [bne_iff_ne,ne_eq];omega
       have HE0:=hide (show e0=0→([]:List ItM).map (·.run)=([]:List Bool) from fun _=>rfl)
       clear hit he
       go_wp2_with fail
       refine (HR.out _).mono ?_
       rintro e w4 ⟨⟨xa,xb,xc,xd,rfl⟩,hb4⟩
       have HO4:=hide ((HO.out.trans (hb4.mono HO.out.size)).alloc ((HO.out.trans (hb4.mono HO.out.size)).size) (.cells #[.int .u64 xa,.int .u64 xb,.int .u64 xc,.int .u64 xd] 249))
       clear hb4
       go_wp2_with fail
       refine bodyPost_ret (v:=.tuple #[.slice none 0 0,.int .i64 ((q:Int) + (n:Int)),.int .i64 (e0:Nat)]) (by simp [results,Tryz.results150,go_sem]) rfl ?_
       unfold fY
       rw [HQ.out]
       exact ⟨none,0,[],rfl,HE0.out,by simp,Or.inl rfl,HO4.out⟩
     case neg =>
      have b2:((b.toNat:Int) == 91)=false:=iK (n:=91) h91 (by omega)
      by_cases h42:b=42
      case pos =>
       have b3:((b.toNat:Int) == 42)=true:=by rw [h42];rfl
       have HNq:=hide (HNx.out true 1 (by rw [hsc,h42];simp [bM]))
       clear h42 h91 h93 hsc
       have HOWb:=hide (HOW.out.alloc (.cells #[.bool true,.int .u64 0,.int .u64 0,.int .u64 0,.int .u64 0] 253))
       have Hrd:=hide (show Rd ((wr).alloc (.cells #[.bool true,.int .u64 0,.int .u64 0,.int .u64 0,.int .u64 0] 253)) aA (some ⟨(wr).heap.size,0,none⟩) (cC ⟨true,0,0,0,0⟩) from aY (Blk.new' (by simp)) (fun h=>h))
       have HO2:=hide (HO.out.alloc HO.out.size (.cells #[.bool true,.int .u64 0,.int .u64 0,.int .u64 0,.int .u64 0] 253))
       have Hone:=hide (fW ⟨true,0,0,0,0⟩)
       go_wp2_with (first
        | (go_at_call 184;fail)
        | (at_builtin;refine aD _ rfl (.tmp 52) (.tmp 54) _ rfl w.heap.size 253 i0 _ 5 40 Tryz.underlying187 hi hz0 hz1 hz2 rfl (by omega) _ k _ rfl HOWb.out aA (some ⟨(wr).heap.size,0,none⟩) 1 1 (cC ⟨true,0,0,0,0⟩) rfl Hrd.out rfl Hone.out (by simp only [maxLen];omega) (by omega) HO2.out.size ?_;intro v2 w2 hown2 hgr _;have Own2:=hide hown2;have Gr:=hide hgr;clear hown2 hgr))
       go_roundw
       case rel =>
        obtain ⟨hn1,hn2,hn3⟩:=HNq.out
        refine ⟨q + 1,its++[⟨true,0,0,0,0⟩],?_,by omega,by go_num,?_,?_,?_⟩
        ·rw [List.length_append,← HKK.out];simp;omega
        ·exact hide (by rw [dZ,List.length_append,← HKK.out];have:=Own2.out;simpa [flat] using this)
        ·exact hide (HO2.out.grown Gr.out HO2.out.size (fun j hj=>aU HOWb.out j hj))
        ·exact hide (by rw [hn3,List.map_append,List.length_append,← HKK.out];rfl)
       case measure=>obtain ⟨hn1,hn2,hn3⟩:=HNq.out;simp [intOf];omega
      case neg =>
       have b3:((b.toNat:Int) == 42)=false:=iK (n:=42) h42 (by omega)
       by_cases h63:b=63
       case pos =>
        have b4:((b.toNat:Int) == 63)=true:=by rw [h63];rfl
        have HNq:=hide (HNx.out false 1 (by rw [hsc,h63];simp [bM]))
        clear h63 h42 h91 h93 hsc
        go_wp2_with fail
        refine (HSP.out 0 255 _ (by omega) (by omega)).mono ?_
        rintro e w4 ⟨xa,xb,xc,xd,rfl,hb4⟩
        unfold setA
        have HOW4:=hide (b8 HOW.out (Only.of_below hb4 aA) (fun _ _ h=>h.elim))
        have HO4:=hide (HO.out.trans (hb4.mono HO.out.size))
        clear hb4
        have HOWb:=hide (HOW4.out.alloc (.cells #[.bool false,.int .u64 xa,.int .u64 xb,.int .u64 xc,.int .u64 xd] 253))
        have Hrd:=hide (show Rd ((w4).alloc (.cells #[.bool false,.int .u64 xa,.int .u64 xb,.int .u64 xc,.int .u64 xd] 253)) aA (some ⟨(w4).heap.size,0,none⟩) (cC ⟨false,xa,xb,xc,xd⟩) from aY (Blk.new' (by simp)) (fun h=>h))
        have HO2:=hide (HO4.out.alloc HO4.out.size (.cells #[.bool false,.int .u64 xa,.int .u64 xb,.int .u64 xc,.int .u64 xd] 253))
        have Hone:=hide (fW ⟨false,xa,xb,xc,xd⟩)
        go_wp2_with (first
         | (go_at_call 184;fail)
         | (at_builtin;refine aD _ rfl (.tmp 58) (.tmp 61) _ rfl w.heap.size 253 i0 _ 5 40 Tryz.underlying187 hi hz0 hz1 hz2 rfl (by omega) _ k _ rfl HOWb.out aA (some ⟨(w4).heap.size,0,none⟩) 1 1 (cC ⟨false,xa,xb,xc,xd⟩) rfl Hrd.out rfl Hone.out (by simp only [maxLen];omega) (by omega) HO2.out.size ?_;intro v2 w2 hown2 hgr _;have Own2:=hide hown2;have Gr:=hide hgr;clear hown2 hgr))
        go_roundw
        case rel =>
         obtain ⟨hn1,hn2,hn3⟩:=HNq.out
         refine ⟨q + 1,its++[⟨false,xa,xb,xc,xd⟩],?_,by omega,by go_num,?_,?_,?_⟩
         ·rw [List.length_append,← HKK.out];simp;omega
         ·exact hide (by rw [dZ,List.length_append,← HKK.out];have:=Own2.out;simpa [flat] using this)
         ·exact hide (HO2.out.grown Gr.out HO2.out.size (fun j hj=>aU HOWb.out j hj))
         ·exact hide (by rw [hn3,List.map_append,List.length_append,← HKK.out];rfl)
        case measure=>obtain ⟨hn1,hn2,hn3⟩:=HNq.out;simp [intOf];omega
       case neg =>
        have b4:((b.toNat:Int) == 63)=false:=iK (n:=63) h63 (by omega)
        by_cases h37:b=37
        case pos =>
         have b5:((b.toNat:Int) == 37)=true:=by rw [h37];rfl
         by_cases hend:q + 1=s.size
         case pos =>
          have d3:((q:Int) + 1 == (s.size:Int))=true:=by simp;omega
          have HQ:=hide (HBad.out 1 3 (by rw [hsc,h37,dU (by omega)];rfl) (by decide))
          have HE0:=hide (show (3:Nat)=0→([]:List ItM).map (·.run)=([]:List Bool) from fun _=>rfl)
          clear h63 h42 h91 h93 h37 hsc hend
          go_wp2_with fail
          refine bodyPost_ret (v:=.tuple #[.slice none 0 0,.int .i64 ((q:Int) + 1),.int .i64 (3:Nat)]) (by simp [results,Tryz.results150,go_sem]) rfl ?_
          unfold fY
          rw [HQ.out]
          exact ⟨none,0,[],rfl,HE0.out,by simp,Or.inl rfl,HO.out⟩
         case neg =>
          have d3:((q:Int) + 1 == (s.size:Int))=false:=by simp;omega
          have hl2:q + 1 < s.size:=by omega
          have i1:(0:Int)≤(q:Int) + 1:=by omega
          have i2:(q:Int) + 1 < (s.size:Int):=by omega
          have i3:((q:Int) + 1).toNat=q + 1:=by omega
          have w3:IntKind.i64.wrap ((q:Int) + 1 + 1)=(q:Int) + 2:=by rw [IntWalk.i64_in _ (by omega)];omega
          have hc2:s[q + 1].toNat < 256:=UInt8.toNat_lt _
          have w4':IntKind.i64.wrap (s[q + 1].toNat:Int)=(s[q + 1].toNat:Int):=IntWalk.i64_in _ (by omega)
          have HNq:=hide (HNx.out false 2 (by rw [hsc,h37,bL hl2];simp [bM]))
          clear h63 h42 h91 h93 h37 hsc hend
          go_wp2_with fail
          refine (HSP.out s[q + 1].toNat s[q + 1].toNat _ (by omega) (by omega)).mono ?_
          rintro e w4 ⟨xa,xb,xc,xd,rfl,hb4⟩
          unfold setA
          have HOW4:=hide (b8 HOW.out (Only.of_below hb4 aA) (fun _ _ h=>h.elim))
          have HO4:=hide (HO.out.trans (hb4.mono HO.out.size))
          clear hb4
          have HOWb:=hide (HOW4.out.alloc (.cells #[.bool false,.int .u64 xa,.int .u64 xb,.int .u64 xc,.int .u64 xd] 253))
          have Hrd:=hide (show Rd ((w4).alloc (.cells #[.bool false,.int .u64 xa,.int .u64 xb,.int .u64 xc,.int .u64 xd] 253)) aA (some ⟨(w4).heap.size,0,none⟩) (cC ⟨false,xa,xb,xc,xd⟩) from aY (Blk.new' (by simp)) (fun h=>h))
          have HO2:=hide (HO4.out.alloc HO4.out.size (.cells #[.bool false,.int .u64 xa,.int .u64 xb,.int .u64 xc,.int .u64 xd] 253))
          have Hone:=hide (fW ⟨false,xa,xb,xc,xd⟩)
          go_wp2_with (first
           | (go_at_call 184;fail)
           | (at_builtin;refine aD _ rfl (.tmp 75) (.tmp 82) _ rfl w.heap.size 253 i0 _ 5 40 Tryz.underlying187 hi hz0 hz1 hz2 rfl (by omega) _ k _ rfl HOWb.out aA (some ⟨(w4).heap.size,0,none⟩) 1 1 (cC ⟨false,xa,xb,xc,xd⟩) rfl Hrd.out rfl Hone.out (by simp only [maxLen];omega) (by omega) HO2.out.size ?_;intro v2 w2 hown2 hgr _;have Own2:=hide hown2;have Gr:=hide hgr;clear hown2 hgr))
          go_roundw
          case rel =>
           obtain ⟨hn1,hn2,hn3⟩:=HNq.out
           refine ⟨q + 2,its++[⟨false,xa,xb,xc,xd⟩],?_,by omega,by go_num,?_,?_,?_⟩
           ·rw [List.length_append,← HKK.out];simp;omega
           ·exact hide (by rw [dZ,List.length_append,← HKK.out];have:=Own2.out;simpa [flat] using this)
           ·exact hide (HO2.out.grown Gr.out HO2.out.size (fun j hj=>aU HOWb.out j hj))
           ·exact hide (by rw [hn3,List.map_append,List.length_append,← HKK.out];rfl)
          case measure=>obtain ⟨hn1,hn2,hn3⟩:=HNq.out;simp [intOf];omega
        case neg =>
         have b5:((b.toNat:Int) == 37)=false:=iK (n:=37) h37 (by omega)
         have w4':IntKind.i64.wrap (b.toNat:Int)=(b.toNat:Int):=IntWalk.i64_in _ (by omega)
         have HNq:=hide (HNx.out false 1 (by rw [hsc];simp [bM,h37,h42,h63,h91,h93]))
         clear h63 h42 h91 h93 h37 hsc
         go_wp2_with fail
         refine (HSP.out b.toNat b.toNat _ (by omega) (by omega)).mono ?_
         rintro e w4 ⟨xa,xb,xc,xd,rfl,hb4⟩
         unfold setA
         have HOW4:=hide (b8 HOW.out (Only.of_below hb4 aA) (fun _ _ h=>h.elim))
         have HO4:=hide (HO.out.trans (hb4.mono HO.out.size))
         clear hb4
         have HOWb:=hide (HOW4.out.alloc (.cells #[.bool false,.int .u64 xa,.int .u64 xb,.int .u64 xc,.int .u64 xd] 253))
         have Hrd:=hide (show Rd ((w4).alloc (.cells #[.bool false,.int .u64 xa,.int .u64 xb,.int .u64 xc,.int .u64 xd] 253)) aA (some ⟨(w4).heap.size,0,none⟩) (cC ⟨false,xa,xb,xc,xd⟩) from aY (Blk.new' (by simp)) (fun h=>h))
         have HO2:=hide (HO4.out.alloc HO4.out.size (.cells #[.bool false,.int .u64 xa,.int .u64 xb,.int .u64 xc,.int .u64 xd] 253))
         have Hone:=hide (fW ⟨false,xa,xb,xc,xd⟩)
         go_wp2_with (first
          | (go_at_call 184;fail)
          | (at_builtin;refine aD _ rfl (.tmp 75) (.tmp 82) _ rfl w.heap.size 253 i0 _ 5 40 Tryz.underlying187 hi hz0 hz1 hz2 rfl (by omega) _ k _ rfl HOWb.out aA (some ⟨(w4).heap.size,0,none⟩) 1 1 (cC ⟨false,xa,xb,xc,xd⟩) rfl Hrd.out rfl Hone.out (by simp only [maxLen];omega) (by omega) HO2.out.size ?_;intro v2 w2 hown2 hgr _;have Own2:=hide hown2;have Gr:=hide hgr;clear hown2 hgr))
         go_roundw
         case rel =>
          obtain ⟨hn1,hn2,hn3⟩:=HNq.out
          refine ⟨q + 1,its++[⟨false,xa,xb,xc,xd⟩],?_,by omega,by go_num,?_,?_,?_⟩
          ·rw [List.length_append,← HKK.out];simp;omega
          ·exact hide (by rw [dZ,List.length_append,← HKK.out];have:=Own2.out;simpa [flat] using this)
          ·exact hide (HO2.out.grown Gr.out HO2.out.size (fun j hj=>aU HOWb.out j hj))
          ·exact hide (by rw [hn3,List.map_append,List.length_append,← HKK.out];rfl)
         case measure=>obtain ⟨hn1,hn2,hn3⟩:=HNq.out;simp [intOf];omega
end Go.Proofs.YtaioaojfdngfdaaGreatDoor
