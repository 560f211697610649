/- A line that says something. Conditions: those of each theorem. -/
import Derived.Test.YtaioaojfdngfdaaGreatDoorPg09
import Derived.Test.YtaioaojfdngfdaaGreatDoorPg29
import Derived.Test.YtaioaojfdngfdaaGreatDoorPg08
set_option linter.unusedVariables false
set_option linter.unusedSimpArgs false
set_option maxHeartbeats 6400000
namespace Go.Proofs.YtaioaojfdngfdaaGreatDoor
open Go.RowKit
theorem say1_ws (m:PM) (t:List UInt8):(dI m t).ws=m.ws:=by
 unfold dI
 split
 ·unfold gW rG
  split<;>rfl
 split
 ·unfold dE
  split
  ·rfl
  split
  ·split<;>rfl
  split<;>rfl
 ·unfold cL
  split
  ·rfl
  split
  ·rfl
  split
  ·rfl
  split
  ·rfl
  split
  ·rfl
  split
  ·rfl
  split<;>rfl
theorem s9 {t:List UInt8} (h:t=aH∨bN t=true∨dY t=true):t=aH∨t=kOn∨t=aQ∨t=dK∨(dY t=true∧t≠aH∧t≠kOn∧t≠aQ∧t≠dK):=by
 rcases h with h | h | h
 ·exact Or.inl h
 ·unfold bN at h
  simp only [Bool.or_eq_true,decide_eq_true_eq] at h
  rcases h with h | h | h
  ·exact Or.inr (Or.inl h)
  ·exact Or.inr (Or.inr (Or.inl h))
  ·exact Or.inr (Or.inr (Or.inr (Or.inl h)))
 ·refine Or.inr (Or.inr (Or.inr (Or.inr ⟨h,?_,?_,?_,?_⟩)))<;>(intro e;rw [e] at h;exact absurd h (by decide))
set_option maxRecDepth 100000 in
theorem psay_c (B a:Nat) (p:Pp) (n:Nat) (w:World) (h:PAt w B a p) (hz:MSz p.pl n) (hn:n≤999000) (hnx:p.st.nx=0) (hws:0 < p.ws.length) (hsf:p.opn=true→p.L≠[]) (hev:ErrV w) (hB : 8 < B):Calls Tryz.prog 40 #[.pointer (some ⟨a,0,none⟩)] w fun e w'=>e=.returned (.tuple #[])∧Did w w' B a (lP p.pl):=by
 have hBa:=h.base
 have H:=hide h
 have Hz:=hide hz
 have HV:=hide (fun (X:World) (k:OnB B w X)=>hev.only hB k)
 obtain ⟨b,o,hA,hba,hbl,k0,k1,k2⟩:=kL h.words 0 hws
 simp only [Nat.zero_mul,Nat.add_zero] at k0 k1 k2
 have c11:=h.cells2.2.1
 have c13:=h.cells2.2.2.2.1
 have f13:=h.frozen 13
 rw [hnx] at c13
 rw [hA] at c11
 obtain ⟨y,hy⟩:∃ y,y=aC p.ws 0:=⟨_,rfl⟩
 have hyt:y.text.length≤1000000000:=by rw [hy];exact hz.txt _ (eC hws)
 have hSW:qX p.pl=y:=by unfold qX;rw [show p.pl.st.nx=0 from hnx];exact hy.symm
 rw [← hy] at k0 k1 k2
 have hNx:iT p.pl=({ p with st:=⟨1,p.st.sl,p.st.sc,p.st.bad⟩ }:Pp).pl:=by unfold iT;rw [show p.pl.st.nx + 1=1 by show p.st.nx + 1=1;rw [hnx]];rfl
 have HKn:=hide (show jM p.pl=(!y.quoted && (if y.text=aH then !p.head else if (bN y.text || dY y.text)=true then p.head else false)) by unfold jM;rw [hSW];rfl)
 have HSy:=hide (show lP p.pl=if jM p.pl=false then iE ({ p with st:=⟨1,p.st.sl,p.st.sc,p.st.bad⟩ }:Pp).pl 0 11 else dA (dI ({ p with st:=⟨1,p.st.sl,p.st.sc,p.st.bad⟩ }:Pp).pl y.text) by unfold lP;rw [hSW,hNx])
 obtain ⟨KB,hKB⟩:∃ KB,KB=jM p.pl:=⟨_,rfl⟩
 rw [← hKB] at HKn HSy
 have Hy:=hide hy
 obtain ⟨yt,yq,ya⟩:=y
 simp only at k0 k1 k2 hyt HKn HSy
 have HSf:=hide hsf
 have Hnx:=hide hnx
 obtain ⟨s,hs⟩:∃ s,s=bs yt:=⟨_,rfl⟩
 have Hs:=hide hs
 have Hsl:=hide (show s.toList=yt by rw [hs,ByteArray.toList_eq])
 rw [← hs] at k0
 have j2:(0:Int) < (p.ws.length:Int):=by omega
 have j3:0 < p.ws.length:=hws
 have hal:=h.lt
 have Hsz2:=hide (show MSz ({ p with st:=⟨1,p.st.sl,p.st.sc,p.st.bad⟩ }:Pp).pl n from ⟨hz.ops,hz.uses,hz.labels,hz.arms,hz.len,hz.at_,hz.txt,hz.lo,hz.hi,(show (1:Nat)≤1000000 by omega),hz.small⟩)
 clear h hz hnx hws hsf hev hA hy hSW hNx hKB hs
 go_enter Tryz.func40,Tryz.ntmps40
 go_upto_region 0 with fail
 go_region
 generalize hX:World.drew _=X
 have hN:Blk X w.heap.size 128 #[.string s,.bool yq,.int .i64 ya]:=by rw [← hX];exact (Blk.new _ _ _).drew
 have hP:PAt X B a p:=by rw [← hX];exact (H.out.alloc _).drew
 have hO:OnB B w X:=by rw [← hX];exact ((OnB.refl _ w).alloc _).drew
 obtain ⟨g,hg⟩:∃ g,g=w.heap.size:=⟨_,rfl⟩
 rw [← hg] at hN hal ⊢
 have HNe:=hide (show a≠g by omega)
 clear hX c11 c13 f13 k0 k1 k2 hg hal
 have HN:=hide hN
 have HO:=hide hO
 have HP:=hide hP
 clear hN hO hP j2 j3 hba hbl
 have d13:=HP.out.cells2.2.2.2.1
 rw [show p.st.nx=0 from Hnx.out] at d13
 have e13:=HP.out.frozen 13
 obtain ⟨⟨x0,x1,x2⟩,u0,u1,u2⟩:=HN.out.three
 go_upto_region 3 with fail
 generalize hV:World.setCell X _ _=V
 have HP1:=hide (show PAt V B a { p with st:=⟨1,p.st.sl,p.st.sc,p.st.bad⟩ } by rw [← hV];exact (HP.out.cell (p':={ p with st:=⟨1,p.st.sl,p.st.sc,p.st.bad⟩ }) 13 _ rfl).1)
 have HO1:=hide (show OnB B w V by rw [← hV];exact HO.out.trans (HP.out.cell (p':={ p with st:=⟨1,p.st.sl,p.st.sc,p.st.bad⟩ }) 13 _ rfl).2)
 have HN1:=hide (show Blk V g 128 #[.string s,.bool yq,.int .i64 ya] by rw [← hV];exact HN.out.far (fun e=>HNe.out (by simpa using e.symm)) _)
 clear hV d13 e13 x0 x1 x2 u0 u1 u2 HN HO HP
 obtain ⟨⟨x0,x1,x2⟩,_⟩:=HN1.out.three
 go_upto_block 0 with fail
 clear x0 x1 x2
 go_cut [3] from 26 to 53 (fun v wx=>v=.bool KB∧V=wx)
 case first =>
  have c6:=HP1.out.cells.2.2.2.2.2.2.1
  obtain ⟨⟨x0,x1,x2⟩,_⟩:=HN1.out.three
  have hsl:=Hsl.out
  obtain ⟨hd,hhd⟩:∃ hd,hd=p.head:=⟨_,rfl⟩
  have HKn:=hide (show KB=(!yq && (if yt=aH then !hd else if (bN yt || dY yt)=true then hd else false)) by rw [hhd];exact HKn.out)
  rw [show some (Value.bool ({ p with st:=⟨1,p.st.sl,p.st.sc,p.st.bad⟩ }:Pp).head)=some (Value.bool hd) by rw [hhd]] at c6
  clear Hsl hhd
  by_cases hw0:yt=aH
  case pos =>
   have hw:=hw0
   clear hw0
   have q0:(s.toList == [115,99,114,105,112,116])=true:=by rw [hsl,hw];rfl
   have HK2:=hide (show KB=(!yq && !hd) by rw [HKn.out,hw,if_pos (show aH=aH from rfl)])
   clear hw hsl
   cases yq with
   | true =>
    go_wp2_with fail
    go_meet
    exact ⟨by rw [HK2.out];rfl,rfl⟩
   | false =>
    cases hd with
    | true =>
     go_wp2_with fail
     go_meet
     exact ⟨by rw [HK2.out];rfl,rfl⟩
    | false =>
     go_wp2_with fail
     go_meet
     exact ⟨by rw [HK2.out];rfl,rfl⟩
  case neg =>
   by_cases hw1:yt=kOn
   case pos =>
    have hw:=hw1
    clear hw1
    have q0:(s.toList == [115,99,114,105,112,116])=false:=by rw [hsl,hw];rfl
    have q1:(s.toList == [111,110])=true:=by rw [hsl,hw];rfl
    have HK2:=hide (show KB=(!yq && hd) by rw [HKn.out,hw,if_neg (show ¬ kOn=aH by decide),if_pos (show (bN kOn || dY kOn)=true by decide)])
    clear hw hsl hw0
    cases yq with
    | true =>
     go_wp2_with fail
     go_meet
     exact ⟨by rw [HK2.out];rfl,rfl⟩
    | false =>
     cases hd with
     | true =>
      go_wp2_with fail
      go_meet
      exact ⟨by rw [HK2.out];rfl,rfl⟩
     | false =>
      go_wp2_with fail
      go_meet
      exact ⟨by rw [HK2.out];rfl,rfl⟩
   case neg =>
    by_cases hw2:yt=aQ
    case pos =>
     have hw:=hw2
     clear hw2
     have q0:(s.toList == [115,99,114,105,112,116])=false:=by rw [hsl,hw];rfl
     have q1:(s.toList == [111,110])=false:=by rw [hsl,hw];rfl
     have q2:(s.toList == [116,105,109,101,111,117,116])=true:=by rw [hsl,hw];rfl
     have HK2:=hide (show KB=(!yq && hd) by rw [HKn.out,hw,if_neg (show ¬ aQ=aH by decide),if_pos (show (bN aQ || dY aQ)=true by decide)])
     clear hw hsl hw0 hw1
     cases yq with
     | true =>
      go_wp2_with fail
      go_meet
      exact ⟨by rw [HK2.out];rfl,rfl⟩
     | false =>
      cases hd with
      | true =>
       go_wp2_with fail
       go_meet
       exact ⟨by rw [HK2.out];rfl,rfl⟩
      | false =>
       go_wp2_with fail
       go_meet
       exact ⟨by rw [HK2.out];rfl,rfl⟩
    case neg =>
     by_cases hw3:yt=dK
     case pos =>
      have hw:=hw3
      clear hw3
      have q0:(s.toList == [115,99,114,105,112,116])=false:=by rw [hsl,hw];rfl
      have q1:(s.toList == [111,110])=false:=by rw [hsl,hw];rfl
      have q2:(s.toList == [116,105,109,101,111,117,116])=false:=by rw [hsl,hw];rfl
      have q3:(s.toList == [101,111,102])=true:=by rw [hsl,hw];rfl
      have HK2:=hide (show KB=(!yq && hd) by rw [HKn.out,hw,if_neg (show ¬ dK=aH by decide),if_pos (show (bN dK || dY dK)=true by decide)])
      clear hw hsl hw0 hw1 hw2
      cases yq with
      | true =>
       go_wp2_with fail
       go_meet
       exact ⟨by rw [HK2.out];rfl,rfl⟩
      | false =>
       cases hd with
       | true =>
        go_wp2_with fail
        go_meet
        exact ⟨by rw [HK2.out];rfl,rfl⟩
       | false =>
        go_wp2_with fail
        go_meet
        exact ⟨by rw [HK2.out];rfl,rfl⟩
     case neg =>
      by_cases hw4:yt=dO
      case pos =>
       have hw:=hw4
       clear hw4
       have q0:(s.toList == [115,99,114,105,112,116])=false:=by rw [hsl,hw];rfl
       have q1:(s.toList == [111,110])=false:=by rw [hsl,hw];rfl
       have q2:(s.toList == [116,105,109,101,111,117,116])=false:=by rw [hsl,hw];rfl
       have q3:(s.toList == [101,111,102])=false:=by rw [hsl,hw];rfl
       have q4:(s.toList == [115,101,110,100])=true:=by rw [hsl,hw];rfl
       have HK2:=hide (show KB=(!yq && hd) by rw [HKn.out,hw,if_neg (show ¬ dO=aH by decide),if_pos (show (bN dO || dY dO)=true by decide)])
       clear hw hsl hw0 hw1 hw2 hw3
       cases yq with
       | true =>
        go_wp2_with fail
        go_meet
        exact ⟨by rw [HK2.out];rfl,rfl⟩
       | false =>
        cases hd with
        | true =>
         go_wp2_with fail
         go_meet
         exact ⟨by rw [HK2.out];rfl,rfl⟩
        | false =>
         go_wp2_with fail
         go_meet
         exact ⟨by rw [HK2.out];rfl,rfl⟩
      case neg =>
       by_cases hw5:yt=bS
       case pos =>
        have hw:=hw5
        clear hw5
        have q0:(s.toList == [115,99,114,105,112,116])=false:=by rw [hsl,hw];rfl
        have q1:(s.toList == [111,110])=false:=by rw [hsl,hw];rfl
        have q2:(s.toList == [116,105,109,101,111,117,116])=false:=by rw [hsl,hw];rfl
        have q3:(s.toList == [101,111,102])=false:=by rw [hsl,hw];rfl
        have q4:(s.toList == [115,101,110,100])=false:=by rw [hsl,hw];rfl
        have q5:(s.toList == [101,120,112,101,99,116])=true:=by rw [hsl,hw];rfl
        have HK2:=hide (show KB=(!yq && hd) by rw [HKn.out,hw,if_neg (show ¬ bS=aH by decide),if_pos (show (bN bS || dY bS)=true by decide)])
        clear hw hsl hw0 hw1 hw2 hw3 hw4
        cases yq with
        | true =>
         go_wp2_with fail
         go_meet
         exact ⟨by rw [HK2.out];rfl,rfl⟩
        | false =>
         cases hd with
         | true =>
          go_wp2_with fail
          go_meet
          exact ⟨by rw [HK2.out];rfl,rfl⟩
         | false =>
          go_wp2_with fail
          go_meet
          exact ⟨by rw [HK2.out];rfl,rfl⟩
       case neg =>
        by_cases hw6:yt=dJ
        case pos =>
         have hw:=hw6
         clear hw6
         have q0:(s.toList == [115,99,114,105,112,116])=false:=by rw [hsl,hw];rfl
         have q1:(s.toList == [111,110])=false:=by rw [hsl,hw];rfl
         have q2:(s.toList == [116,105,109,101,111,117,116])=false:=by rw [hsl,hw];rfl
         have q3:(s.toList == [101,111,102])=false:=by rw [hsl,hw];rfl
         have q4:(s.toList == [115,101,110,100])=false:=by rw [hsl,hw];rfl
         have q5:(s.toList == [101,120,112,101,99,116])=false:=by rw [hsl,hw];rfl
         have q6:(s.toList == [103,111,116,111])=true:=by rw [hsl,hw];rfl
         have HK2:=hide (show KB=(!yq && hd) by rw [HKn.out,hw,if_neg (show ¬ dJ=aH by decide),if_pos (show (bN dJ || dY dJ)=true by decide)])
         clear hw hsl hw0 hw1 hw2 hw3 hw4 hw5
         cases yq with
         | true =>
          go_wp2_with fail
          go_meet
          exact ⟨by rw [HK2.out];rfl,rfl⟩
         | false =>
          cases hd with
          | true =>
           go_wp2_with fail
           go_meet
           exact ⟨by rw [HK2.out];rfl,rfl⟩
          | false =>
           go_wp2_with fail
           go_meet
           exact ⟨by rw [HK2.out];rfl,rfl⟩
        case neg =>
         by_cases hw7:yt=cF
         case pos =>
          have hw:=hw7
          clear hw7
          have q0:(s.toList == [115,99,114,105,112,116])=false:=by rw [hsl,hw];rfl
          have q1:(s.toList == [111,110])=false:=by rw [hsl,hw];rfl
          have q2:(s.toList == [116,105,109,101,111,117,116])=false:=by rw [hsl,hw];rfl
          have q3:(s.toList == [101,111,102])=false:=by rw [hsl,hw];rfl
          have q4:(s.toList == [115,101,110,100])=false:=by rw [hsl,hw];rfl
          have q5:(s.toList == [101,120,112,101,99,116])=false:=by rw [hsl,hw];rfl
          have q6:(s.toList == [103,111,116,111])=false:=by rw [hsl,hw];rfl
          have q7:(s.toList == [112,97,117,115,101])=true:=by rw [hsl,hw];rfl
          have HK2:=hide (show KB=(!yq && hd) by rw [HKn.out,hw,if_neg (show ¬ cF=aH by decide),if_pos (show (bN cF || dY cF)=true by decide)])
          clear hw hsl hw0 hw1 hw2 hw3 hw4 hw5 hw6
          cases yq with
          | true =>
           go_wp2_with fail
           go_meet
           exact ⟨by rw [HK2.out];rfl,rfl⟩
          | false =>
           cases hd with
           | true =>
            go_wp2_with fail
            go_meet
            exact ⟨by rw [HK2.out];rfl,rfl⟩
           | false =>
            go_wp2_with fail
            go_meet
            exact ⟨by rw [HK2.out];rfl,rfl⟩
         case neg =>
          by_cases hw8:yt=dQ
          case pos =>
           have hw:=hw8
           clear hw8
           have q0:(s.toList == [115,99,114,105,112,116])=false:=by rw [hsl,hw];rfl
           have q1:(s.toList == [111,110])=false:=by rw [hsl,hw];rfl
           have q2:(s.toList == [116,105,109,101,111,117,116])=false:=by rw [hsl,hw];rfl
           have q3:(s.toList == [101,111,102])=false:=by rw [hsl,hw];rfl
           have q4:(s.toList == [115,101,110,100])=false:=by rw [hsl,hw];rfl
           have q5:(s.toList == [101,120,112,101,99,116])=false:=by rw [hsl,hw];rfl
           have q6:(s.toList == [103,111,116,111])=false:=by rw [hsl,hw];rfl
           have q7:(s.toList == [112,97,117,115,101])=false:=by rw [hsl,hw];rfl
           have q8:(s.toList == [100,111,110,101])=true:=by rw [hsl,hw];rfl
           have HK2:=hide (show KB=(!yq && hd) by rw [HKn.out,hw,if_neg (show ¬ dQ=aH by decide),if_pos (show (bN dQ || dY dQ)=true by decide)])
           clear hw hsl hw0 hw1 hw2 hw3 hw4 hw5 hw6 hw7
           cases yq with
           | true =>
            go_wp2_with fail
            go_meet
            exact ⟨by rw [HK2.out];rfl,rfl⟩
           | false =>
            cases hd with
            | true =>
             go_wp2_with fail
             go_meet
             exact ⟨by rw [HK2.out];rfl,rfl⟩
            | false =>
             go_wp2_with fail
             go_meet
             exact ⟨by rw [HK2.out];rfl,rfl⟩
          case neg =>
           by_cases hw9:yt=dP
           case pos =>
            have hw:=hw9
            clear hw9
            have q0:(s.toList == [115,99,114,105,112,116])=false:=by rw [hsl,hw];rfl
            have q1:(s.toList == [111,110])=false:=by rw [hsl,hw];rfl
            have q2:(s.toList == [116,105,109,101,111,117,116])=false:=by rw [hsl,hw];rfl
            have q3:(s.toList == [101,111,102])=false:=by rw [hsl,hw];rfl
            have q4:(s.toList == [115,101,110,100])=false:=by rw [hsl,hw];rfl
            have q5:(s.toList == [101,120,112,101,99,116])=false:=by rw [hsl,hw];rfl
            have q6:(s.toList == [103,111,116,111])=false:=by rw [hsl,hw];rfl
            have q7:(s.toList == [112,97,117,115,101])=false:=by rw [hsl,hw];rfl
            have q8:(s.toList == [100,111,110,101])=false:=by rw [hsl,hw];rfl
            have q9:(s.toList == [102,97,105,108])=true:=by rw [hsl,hw];rfl
            have HK2:=hide (show KB=(!yq && hd) by rw [HKn.out,hw,if_neg (show ¬ dP=aH by decide),if_pos (show (bN dP || dY dP)=true by decide)])
            clear hw hsl hw0 hw1 hw2 hw3 hw4 hw5 hw6 hw7 hw8
            cases yq with
            | true =>
             go_wp2_with fail
             go_meet
             exact ⟨by rw [HK2.out];rfl,rfl⟩
            | false =>
             cases hd with
             | true =>
              go_wp2_with fail
              go_meet
              exact ⟨by rw [HK2.out];rfl,rfl⟩
             | false =>
              go_wp2_with fail
              go_meet
              exact ⟨by rw [HK2.out];rfl,rfl⟩
           case neg =>
            by_cases hw10:yt=bG
            case pos =>
             have hw:=hw10
             clear hw10
             have q0:(s.toList == [115,99,114,105,112,116])=false:=by rw [hsl,hw];rfl
             have q1:(s.toList == [111,110])=false:=by rw [hsl,hw];rfl
             have q2:(s.toList == [116,105,109,101,111,117,116])=false:=by rw [hsl,hw];rfl
             have q3:(s.toList == [101,111,102])=false:=by rw [hsl,hw];rfl
             have q4:(s.toList == [115,101,110,100])=false:=by rw [hsl,hw];rfl
             have q5:(s.toList == [101,120,112,101,99,116])=false:=by rw [hsl,hw];rfl
             have q6:(s.toList == [103,111,116,111])=false:=by rw [hsl,hw];rfl
             have q7:(s.toList == [112,97,117,115,101])=false:=by rw [hsl,hw];rfl
             have q8:(s.toList == [100,111,110,101])=false:=by rw [hsl,hw];rfl
             have q9:(s.toList == [102,97,105,108])=false:=by rw [hsl,hw];rfl
             have q10:(s.toList == [108,97,98,101,108])=true:=by rw [hsl,hw];rfl
             have HK2:=hide (show KB=(!yq && hd) by rw [HKn.out,hw,if_neg (show ¬ bG=aH by decide),if_pos (show (bN bG || dY bG)=true by decide)])
             clear hw hsl hw0 hw1 hw2 hw3 hw4 hw5 hw6 hw7 hw8 hw9
             cases yq with
             | true =>
              go_wp2_with fail
              go_meet
              exact ⟨by rw [HK2.out];rfl,rfl⟩
             | false =>
              cases hd with
              | true =>
               go_wp2_with fail
               go_meet
               exact ⟨by rw [HK2.out];rfl,rfl⟩
              | false =>
               go_wp2_with fail
               go_meet
               exact ⟨by rw [HK2.out];rfl,rfl⟩
            case neg =>
             have q0:(s.toList == [115,99,114,105,112,116])=false:=by rw [hsl];exact beq_eq_false_iff_ne.2 hw0
             have q1:(s.toList == [111,110])=false:=by rw [hsl];exact beq_eq_false_iff_ne.2 hw1
             have q2:(s.toList == [116,105,109,101,111,117,116])=false:=by rw [hsl];exact beq_eq_false_iff_ne.2 hw2
             have q3:(s.toList == [101,111,102])=false:=by rw [hsl];exact beq_eq_false_iff_ne.2 hw3
             have q4:(s.toList == [115,101,110,100])=false:=by rw [hsl];exact beq_eq_false_iff_ne.2 hw4
             have q5:(s.toList == [101,120,112,101,99,116])=false:=by rw [hsl];exact beq_eq_false_iff_ne.2 hw5
             have q6:(s.toList == [103,111,116,111])=false:=by rw [hsl];exact beq_eq_false_iff_ne.2 hw6
             have q7:(s.toList == [112,97,117,115,101])=false:=by rw [hsl];exact beq_eq_false_iff_ne.2 hw7
             have q8:(s.toList == [100,111,110,101])=false:=by rw [hsl];exact beq_eq_false_iff_ne.2 hw8
             have q9:(s.toList == [102,97,105,108])=false:=by rw [hsl];exact beq_eq_false_iff_ne.2 hw9
             have q10:(s.toList == [108,97,98,101,108])=false:=by rw [hsl];exact beq_eq_false_iff_ne.2 hw10
             have HK2:=hide (show KB=false by
              rw [HKn.out,if_neg hw0,if_neg (show ¬ (bN yt || dY yt)=true from fun h=>by
               unfold bN dY at h
               simp [hw1,hw2,hw3,hw4,hw5,hw6,hw7,hw8,hw9,hw10] at h),Bool.and_false])
             clear hsl hw0 hw1 hw2 hw3 hw4 hw5 hw6 hw7 hw8 hw9 hw10
             go_wp2_with fail
             go_meet
             exact ⟨by rw [HK2.out],rfl⟩
 case rest =>
  obtain ⟨rfl,rfl⟩:=hcut
  cases hKB:KB with
  | false =>
   have HE:=hide (show lP p.pl=({ p with st:=bE p.line ⟨1,p.st.sl,p.st.sc,p.st.bad⟩ 0 11 }:Pp).pl by rw [HSy.out,if_pos hKB];rfl)
   clear hKB
   go_wp2_with fail
   refine (eA a ({ p with st:=⟨1,p.st.sl,p.st.sc,p.st.bad⟩ }:Pp).fr ⟨1,p.st.sl,p.st.sc,p.st.bad⟩ 0 11 V HP1.out.blk (by omega) (by omega)).mono ?_
   rintro e w5 ⟨rfl,hb,ho⟩
   go_wp2_with fail
   refine bodyPost_ret (v:=.tuple #[]) (by simp [results,Tryz.results40,go_sem]) rfl ?_
   exact ⟨rfl,⟨_,HP1.out.st ho hb,by rw [HE.out];rfl⟩,HO1.out.trans (HP1.out.only ho)⟩
  | true =>
   have HE:=hide (show lP p.pl=dA (dI ({ p with st:=⟨1,p.st.sl,p.st.sc,p.st.bad⟩ }:Pp).pl yt) by rw [HSy.out,if_neg (by rw [hKB];simp)])
   have HW:=hide (s9 (t:=yt) (by
    have q:=HKn.out
    rw [hKB] at q
    by_cases h1:yt=aH
    ·exact Or.inl h1
    ·rw [if_neg h1] at q
     by_cases h2:(bN yt || dY yt)=true
     ·rw [Bool.or_eq_true] at h2
      exact Or.inr h2
     ·rw [if_neg h2,Bool.and_false] at q
      exact absurd q (by decide)))
   clear hKB
   obtain ⟨⟨x0,x1,x2⟩,_⟩:=HN1.out.three
   go_upto_block 1 with fail
   clear x0 x1 x2
   go_cut [] from 64 to 75 (fun wx=>Hid (∃ p6,PAt wx B a p6∧p6.pl=dI ({ p with st:=⟨1,p.st.sl,p.st.sc,p.st.bad⟩ }:Pp).pl yt)∧Hid (OnB B w wx))
   case first =>
    obtain ⟨⟨x0,x1,x2⟩,_⟩:=HN1.out.three
    have hsl:=Hsl.out
    rcases HW.out with hw | hw | hw | hw | hw
    ·
      have q0:(s.toList == [115,99,114,105,112,116])=true:=by rw [hsl,hw];rfl
      have HM:=hide (show dI ({ p with st:=⟨1,p.st.sl,p.st.sc,p.st.bad⟩ }:Pp).pl yt=gW ({ p with st:=⟨1,p.st.sl,p.st.sc,p.st.bad⟩ }:Pp).pl by unfold dI;rw [if_pos hw])
      clear hsl HW hw
      have hc:=pbegin_c B a _ n V HP1.out Hsz2.out (show (1:Nat)≤10 by omega) (HV.out V HO1.out) hB
      go_wp2_with fail
      refine hc.mono ?_
      rintro e w5 ⟨rfl,⟨p6,hp6,hpl⟩,ho⟩
      have R:=hide (show ∃ p6,PAt w5 B a p6∧p6.pl=dI ({ p with st:=⟨1,p.st.sl,p.st.sc,p.st.bad⟩ }:Pp).pl yt from ⟨p6,hp6,by rw [hpl,HM.out]⟩)
      have RO:=hide (HO1.out.trans ho)
      clear hp6 hpl ho p6 hc
      go_wp2_with fail
      go_meet
      exact ⟨R,RO⟩
    ·
      have q0:(s.toList == [115,99,114,105,112,116])=false:=by rw [hsl,hw];rfl
      have q1:(s.toList == [111,110])=true:=by rw [hsl,hw];rfl
      have HM:=hide (show dI ({ p with st:=⟨1,p.st.sl,p.st.sc,p.st.bad⟩ }:Pp).pl yt=dE ({ p with st:=⟨1,p.st.sl,p.st.sc,p.st.bad⟩ }:Pp).pl yt by unfold dI;rw [hw,if_neg (show ¬ kOn=aH by decide),if_pos (show bN kOn=true by decide)])
      clear hsl HW hw
      have hc:=uO B a _ n yt V HP1.out Hsz2.out hn (show (1:Nat)≤10 by omega) HSf.out
      rw [← Hs.out] at hc
      go_wp2_with fail
      refine hc.mono ?_
      rintro e w5 ⟨rfl,⟨p6,hp6,hpl⟩,ho⟩
      have R:=hide (show ∃ p6,PAt w5 B a p6∧p6.pl=dI ({ p with st:=⟨1,p.st.sl,p.st.sc,p.st.bad⟩ }:Pp).pl yt from ⟨p6,hp6,by rw [hpl,HM.out]⟩)
      have RO:=hide (HO1.out.trans ho)
      clear hp6 hpl ho p6 hc
      go_wp2_with fail
      go_meet
      exact ⟨R,RO⟩
    ·
      have q0:(s.toList == [115,99,114,105,112,116])=false:=by rw [hsl,hw];rfl
      have q1:(s.toList == [111,110])=false:=by rw [hsl,hw];rfl
      have q2:(s.toList == [116,105,109,101,111,117,116])=true:=by rw [hsl,hw];rfl
      have HM:=hide (show dI ({ p with st:=⟨1,p.st.sl,p.st.sc,p.st.bad⟩ }:Pp).pl yt=dE ({ p with st:=⟨1,p.st.sl,p.st.sc,p.st.bad⟩ }:Pp).pl yt by unfold dI;rw [hw,if_neg (show ¬ aQ=aH by decide),if_pos (show bN aQ=true by decide)])
      clear hsl HW hw
      have hc:=uO B a _ n yt V HP1.out Hsz2.out hn (show (1:Nat)≤10 by omega) HSf.out
      rw [← Hs.out] at hc
      go_wp2_with fail
      refine hc.mono ?_
      rintro e w5 ⟨rfl,⟨p6,hp6,hpl⟩,ho⟩
      have R:=hide (show ∃ p6,PAt w5 B a p6∧p6.pl=dI ({ p with st:=⟨1,p.st.sl,p.st.sc,p.st.bad⟩ }:Pp).pl yt from ⟨p6,hp6,by rw [hpl,HM.out]⟩)
      have RO:=hide (HO1.out.trans ho)
      clear hp6 hpl ho p6 hc
      go_wp2_with fail
      go_meet
      exact ⟨R,RO⟩
    ·
      have q0:(s.toList == [115,99,114,105,112,116])=false:=by rw [hsl,hw];rfl
      have q1:(s.toList == [111,110])=false:=by rw [hsl,hw];rfl
      have q2:(s.toList == [116,105,109,101,111,117,116])=false:=by rw [hsl,hw];rfl
      have q3:(s.toList == [101,111,102])=true:=by rw [hsl,hw];rfl
      have HM:=hide (show dI ({ p with st:=⟨1,p.st.sl,p.st.sc,p.st.bad⟩ }:Pp).pl yt=dE ({ p with st:=⟨1,p.st.sl,p.st.sc,p.st.bad⟩ }:Pp).pl yt by unfold dI;rw [hw,if_neg (show ¬ dK=aH by decide),if_pos (show bN dK=true by decide)])
      clear hsl HW hw
      have hc:=uO B a _ n yt V HP1.out Hsz2.out hn (show (1:Nat)≤10 by omega) HSf.out
      rw [← Hs.out] at hc
      go_wp2_with fail
      refine hc.mono ?_
      rintro e w5 ⟨rfl,⟨p6,hp6,hpl⟩,ho⟩
      have R:=hide (show ∃ p6,PAt w5 B a p6∧p6.pl=dI ({ p with st:=⟨1,p.st.sl,p.st.sc,p.st.bad⟩ }:Pp).pl yt from ⟨p6,hp6,by rw [hpl,HM.out]⟩)
      have RO:=hide (HO1.out.trans ho)
      clear hp6 hpl ho p6 hc
      go_wp2_with fail
      go_meet
      exact ⟨R,RO⟩
    ·
      obtain ⟨hop,hw0,hw1,hw2,hw3⟩:=hw
      have q0:(s.toList == [115,99,114,105,112,116])=false:=by rw [hsl];exact beq_eq_false_iff_ne.2 hw0
      have q1:(s.toList == [111,110])=false:=by rw [hsl];exact beq_eq_false_iff_ne.2 hw1
      have q2:(s.toList == [116,105,109,101,111,117,116])=false:=by rw [hsl];exact beq_eq_false_iff_ne.2 hw2
      have q3:(s.toList == [101,111,102])=false:=by rw [hsl];exact beq_eq_false_iff_ne.2 hw3
      have HM:=hide (show dI ({ p with st:=⟨1,p.st.sl,p.st.sc,p.st.bad⟩ }:Pp).pl yt=cL ({ p with st:=⟨1,p.st.sl,p.st.sc,p.st.bad⟩ }:Pp).pl yt by unfold dI;rw [if_neg hw0,if_neg (show ¬ bN yt=true from fun h=>by unfold bN at h;simp [hw1,hw2,hw3] at h)])
      clear hsl HW hop hw0 hw1 hw2 hw3
      have hc:=pops_c B a _ n yt V HP1.out Hsz2.out hn (show (1:Nat)≤10 by omega) (HV.out V HO1.out) hB
      rw [← Hs.out] at hc
      go_wp2_with fail
      refine hc.mono ?_
      rintro e w5 ⟨rfl,⟨p6,hp6,hpl⟩,ho⟩
      have R:=hide (show ∃ p6,PAt w5 B a p6∧p6.pl=dI ({ p with st:=⟨1,p.st.sl,p.st.sc,p.st.bad⟩ }:Pp).pl yt from ⟨p6,hp6,by rw [hpl,HM.out]⟩)
      have RO:=hide (HO1.out.trans ho)
      clear hp6 hpl ho p6 hc
      go_wp2_with fail
      go_meet
      exact ⟨R,RO⟩
   case rest =>
    obtain ⟨⟨p6,hp6,hpl⟩,ho6⟩:=(show (∃ p6,PAt wc B a p6∧p6.pl=dI ({ p with st:=⟨1,p.st.sl,p.st.sc,p.st.bad⟩ }:Pp).pl yt)∧OnB B w wc from ⟨hcut.1.out,hcut.2.out⟩)
    have HP6:=hide hp6
    have HO6:=hide ho6
    have HE6:=hide (show lP p.pl=dA p6.pl by rw [HE.out,hpl])
    have hw6:p6.ws=p.ws:=by
     have q:=congrArg PM.ws hpl
     rw [say1_ws] at q
     exact q
    have HAt:=hide (show ∀ x ∈ p6.ws,x.at_≤1000000000 by rw [hw6];exact Hz.out.at_)
    clear hcut hp6 ho6 hpl hw6
    go_upto_region 28 with fail
    have d11:=HP6.out.cells2.2.1
    have d13:=HP6.out.cells2.2.2.2.1
    have d16:=HP6.out.cells2.2.2.2.2.2.2
    by_cases hb0:p6.st.bad=0
    case neg =>
     have q1:(p6.st.bad == 0)=false:=beq_eq_false_iff_ne.2 hb0
     have HE7:=hide (show lP p.pl=p6.pl by rw [HE6.out];unfold dA;rw [if_neg (fun e=>hb0 e.1)])
     clear hb0
     go_quiet (fail)
     go_wp2_with fail
     go_end0
     exact ⟨rfl,⟨p6,HP6.out.same (Only.drewN (Only.refl aA _) _),by rw [HE7.out]⟩,HO6.out.drewN _⟩
    case pos =>
     have q1:(p6.st.bad == 0)=true:=beq_iff_eq.2 hb0
     by_cases hlt:p6.st.nx < p6.ws.length
     case neg =>
      have q2:decide ((p6.st.nx:Int) < (p6.ws.length:Int))=false:=by simp;omega
      have q3:decide (p6.st.nx < p6.ws.length)=false:=by simp;omega
      have HE7:=hide (show lP p.pl=p6.pl by rw [HE6.out];unfold dA;rw [if_neg (fun e=>hlt e.2)])
      clear hb0 hlt
      go_quiet (fail)
      go_wp2_with fail
      go_end0
      exact ⟨rfl,⟨p6,HP6.out.same (Only.drewN (Only.refl aA _) _),by rw [HE7.out]⟩,HO6.out.drewN _⟩
     case pos =>
      have q2:decide ((p6.st.nx:Int) < (p6.ws.length:Int))=true:=by simp;omega
      have q3:decide (p6.st.nx < p6.ws.length)=true:=by simp;omega
      have HE7:=hide (show lP p.pl=({ p6 with st:=bE p6.line p6.st ((aC p6.ws p6.st.nx).at_:Nat) 2 }:Pp).pl by rw [HE6.out];unfold dA;rw [if_pos (show p6.pl.st.bad=0∧p6.pl.st.nx < p6.pl.ws.length from ⟨hb0,hlt⟩)];rfl)
      obtain ⟨b,o,hA,hba,hbl,_,_,k2⟩:=kL HP6.out.words p6.st.nx hlt
      rw [hA] at d11
      have hat:=HAt.out _ (eC hlt)
      have K2:=hide k2
      have j1:(0:Int)≤(p6.st.nx:Int):=by omega
      have j2:(p6.st.nx:Int) < (p6.ws.length:Int):=by omega
      have HAd:=hide hA
      clear hb0 hlt hA k2
      go_quiet (fail)
      obtain ⟨Y,hY⟩:∃ Y,Y=wc.drewN nq:=⟨_,rfl⟩
      have HP7:=hide (show PAt Y B a p6 by rw [hY];exact HP6.out.same (Only.drewN (Only.refl aA _) _))
      have HO7:=hide (show OnB B w Y by rw [hY];exact HO6.out.drewN _)
      have k2:Y.cell? ⟨b,o + p6.st.nx * 3 + 2,none⟩=some (.int .i64 ((aC p6.ws p6.st.nx).at_:Nat)):=by rw [hY];exact K2.out
      have HA:=hide hba
      rw [← hY]
      clear hY d11 d13 d16 K2 HP6 HO6
      go_upto_region 29 with fail
      obtain ⟨V0,hV0⟩:∃ V9,V9=Y.drew:=⟨_,rfl⟩
      have HP0:=hide (HP7.out.drew)
      have HO0:=hide (HO7.out.drew)
      have K0:V0.cell? ⟨b,o + p6.st.nx * 3 + 2,none⟩=some (.int .i64 ((aC p6.ws p6.st.nx).at_:Nat)):=by rw [hV0];exact k2
      rw [← hV0] at HP0 HO0
      have K11:V0.cell? ⟨a,11,none⟩=some (.slice (some ⟨b,o,none⟩) p6.ws.length p6.wc):=by have q:=HP0.out.cells2.2.1;rw [HAd.out] at q;exact q
      clear k2
      refine aS (l1:=?_) (l2:=?_) 12 (fun w'=>w'.cell? ⟨a,11,none⟩=some (.slice (some ⟨b,o,none⟩) p6.ws.length p6.wc)∧w'.cell? ⟨a,13,none⟩=some (.int .i64 p6.st.nx)∧w'.cell? ⟨b,o + p6.st.nx * 3 + 2,none⟩=some (.int .i64 ((aC p6.ws p6.st.nx).at_:Nat))) (by kernel_rfl) ?_ ?_ ?_ ?_ ?_ ?_ (fun hHeld=>?_)
      rotate_left 2
      ·simp
      ·kernel_rfl
      ·kernel_rfl
      ·simp only [List.take_succ_cons,List.take_zero];rfl
      ·simp only [List.drop_succ_cons,List.drop_zero];rfl
      ·rw [← hV0];exact ⟨K11,HP0.out.cells2.2.2.2.1,K0⟩
      rw [← hV0] at hHeld ⊢
      clear hV0
      refine tk 0 ?_ rfl ?_ ?_
      rotate_left
      ·(intro w9 hS9;(try simp only [ga]);go_simp<;>rfl)
      refine tk 1 ?_ rfl ?_ ?_
      rotate_left
      ·(intro w9 hS9;(try simp only [ga]);go_simp<;>rfl)
      refine tk 2 ?_ rfl ?_ ?_
      rotate_left
      ·(intro w9 hS9;(try simp only [ga]);go_simp<;>rfl)
      refine tk 3 ?_ rfl ?_ ?_
      rotate_left
      ·(intro w9 hS9;(try simp only [ga]);go_simp<;>rfl)
      refine tk 4 ?_ rfl ?_ ?_
      rotate_left
      ·(intro w9 hS9;(try simp only [ga]);go_simp<;>rfl)
      refine tk 5 ?_ rfl ?_ ?_
      rotate_left
      ·(intro w9 hS9;(try simp only [ga]);go_simp<;>rfl)
      refine tk 6 ?_ rfl ?_ ?_
      rotate_left
      ·(intro w9 hS9;(try simp only [ga]);go_simp<;>rfl)
      refine tk 7 ?_ rfl ?_ ?_
      rotate_left
      ·(intro w9 hS9;(try simp only [ga]);go_simp<;>rfl)
      refine tk 8 ?_ rfl ?_ ?_
      rotate_left
      ·(intro w9 hS9;(try simp only [ga]);go_simp<;>rfl)
      refine tk 9 ?_ rfl ?_ ?_
      rotate_left
      ·(intro w9 hS9;(try simp only [ga]);go_simp<;>rfl)
      refine tk 10 ?_ rfl ?_ ?_
      rotate_left
      ·(intro w9 hS9;(try simp only [ga]);go_simp<;>rfl)
      refine tk 11 ?_ rfl ?_ ?_
      rotate_left
      ·(intro w9 hS9;(try simp only [ga]);go_simp<;>rfl)
      try simp only [Act.put,gp]
      refine wpAnyH_done (by kernel_rfl) ?_ _
      try simp only [Exit.then]
      clear hHeld
      go_wp2_with fail
      refine (eA a p6.fr p6.st ((aC p6.ws p6.st.nx).at_:Nat) 2 V0 HP0.out.blk (by omega) (by omega)).mono ?_
      rintro e w7 ⟨rfl,hb,ho⟩
      go_wp2_with fail
      go_end0
      exact ⟨rfl,⟨_,HP0.out.st ho hb,by rw [HE7.out];rfl⟩,HO0.out.trans (HP0.out.only ho)⟩
end Go.Proofs.YtaioaojfdngfdaaGreatDoor
