/- What is wrong of a line's first word, by the document. Conditions: those of each theorem. -/
import Derived.Test.YtaioaojfdngfdaaGreatDoorPg26
import Derived.Test.YtaioaojfdngfdaaGreatDoorPg30
set_option linter.unusedVariables false
set_option linter.unusedSimpArgs false
set_option maxHeartbeats 12800000
namespace Go.Proofs.YtaioaojfdngfdaaGreatDoor
open Go.RowKit
set_option maxRecDepth 100000
theorem DAt.cells {w:World} {B a:Nat} {d:Dp} (h:DAt w B a d):w.cell? ⟨a,0,none⟩=some (.string d.name)∧w.cell? ⟨a,1,none⟩=some (.int .i64 d.dl)∧w.cell? ⟨a,2,none⟩=some (.int .i64 d.jm)∧w.cell? ⟨a,3,none⟩=some (.slice d.oA d.L.length d.oc) ∧
 w.cell? ⟨a,4,none⟩=some (.slice d.lA d.labels.length d.lc)∧w.cell? ⟨a,5,none⟩=some (.slice d.uA d.uses.length d.uc)∧w.cell? ⟨a,6,none⟩=some (.bool d.head)∧w.cell? ⟨a,7,none⟩=some (.bool d.opn)∧w.cell? ⟨a,8,none⟩=some (.bool d.tm)∧w.cell? ⟨a,9,none⟩=some (.bool d.ef) :=
 ⟨by rw [h.blk.cell];rfl,by rw [h.blk.cell];rfl,by rw [h.blk.cell];rfl,by rw [h.blk.cell];rfl,by rw [h.blk.cell];rfl,by rw [h.blk.cell];rfl,by rw [h.blk.cell];rfl,by rw [h.blk.cell];rfl,by rw [h.blk.cell];rfl,by rw [h.blk.cell];rfl⟩
theorem DAt.frozen {w:World} {B a:Nat} {d:Dp} (h:DAt w B a d) (i:Nat):w.frozen? ⟨a,i,none⟩=false:=Blk.frozen h.blk i
theorem s7 {d:Dp} {i:Nat} (h:d.L.length=i + 1):lastD d.pl=(opAt d.L i).o:=by
 unfold lastD
 show (d.L.map (·.o)).getD ((d.L.map (·.o)).length - 1) op0=_
 rw [List.length_map,h,List.getD_eq_getElem?_getD,List.getElem?_map,show i + 1 - 1=i by omega,bO (by omega)]
 rfl
theorem xM {d:DM} {w:WordM} (h:w.quoted=true∨(bZ w.text).2=false∨decide (w.text=aH)=d.head):cH d w=11:=by unfold cH;rw [if_pos h]
theorem place_go {d:DM} {w:WordM} (h1:w.quoted=false) (h2:(bZ w.text).2=true) (h3:decide (w.text=aH)≠d.head):cH d w=if bN w.text=true then
 (if d.opn=false then 8 else if w.text=kOn∧7 < (lastD d).arms.length then 4 else if (w.text=aQ∧d.tm=true)∨(w.text=dK∧d.ef=true) then 6 else 0)
 else if w.text≠aH∧w.text≠bG∧199 < d.ops.length then 4 else 0:=by
 unfold cH
 rw [if_neg (fun h=>by rcases h with h | h | h;rw [h1] at h;cases h;rw [h2] at h;cases h;exact h3 h)]
theorem uE (B a:Nat) (d:Dp) (t:List UInt8) (q:Bool) (at_:Nat) (w:World) (h:DAt w B a d) (hsf:d.opn=true→d.L≠[]) (hn:d.L.length≤1000000):Calls Tryz.prog 75 #[.pointer (some ⟨a,0,none⟩),.agg #[.string (bs t),.bool q,.int .i64 at_]] w fun e w'=>e=.returned (.int .i64 (cH d.pl ⟨t,q,at_⟩:Nat))∧Only aA w w':=by
 have hBa:=h.base
 have H:=hide h
 have HSf:=hide hsf
 have HSh:=hide (fun (X:World)=>nL t X)
 obtain ⟨S,hS⟩:∃ S,S=bZ t:=⟨_,rfl⟩
 have HK:=hide (show S.2=(decide (t=aH) || (bN t || dY t)) by rw [hS];exact eM t)
 rw [← hS] at HSh
 obtain ⟨R,hR⟩:∃ R,R=cH d.pl ⟨t,q,at_⟩:=⟨_,rfl⟩
 have HBd:=hide (show (q=true∨S.2=false∨decide (t=aH)=d.head)→R=11 from fun h=>by rw [hR];exact xM (by rw [← hS];exact h))
 have HGo:=hide (show q=false→S.2=true→decide (t=aH)≠d.head→R=if bN t=true then
  (if d.opn=false then 8 else if t=kOn∧7 < (lastD d.pl).arms.length then 4 else if (t=aQ∧d.tm=true)∨(t=dK∧d.ef=true) then 6 else 0)
  else if t≠aH∧t≠bG∧199 < d.L.length then 4 else 0 from fun h1 h2 h3=>by
   have e:=place_go (d:=d.pl) (w:=⟨t,q,at_⟩) h1 (by rw [← hS];exact h2) h3
   rw [show d.pl.ops.length=d.L.length from List.length_map _] at e
   rw [hR];exact e)
 rw [← hR]
 obtain ⟨S1,S2⟩:=S
 simp only at HSh HK HBd HGo
 obtain ⟨s,hs⟩:∃ s,s=bs t:=⟨_,rfl⟩
 have Hsl:=hide (show s.toList=t by rw [hs,ByteArray.toList_eq])
 rw [← hs] at HSh ⊢
 clear hS hR hs h hsf
 go_enter Tryz.func75,Tryz.ntmps75
 go_wp2_with fail
 generalize hX:World.alloc w _=X
 have hI:Blk X w.heap.size 141 #[.string s,.bool q,.int .i64 at_]:=by rw [← hX];exact Blk.new _ _ _
 have hO:Only aA w X:=by rw [← hX];exact (Only.refl aA w).alloc _
 clear hX
 obtain ⟨g,hg⟩:∃ g,g=w.heap.size:=⟨_,rfl⟩
 rw [← hg] at hI ⊢
 clear hg
 refine (HSh.out X).mono ?_
 rintro e wz ⟨rfl,hbz⟩
 have kz:Only aA X wz:=Only.of_below hbz _
 have HI:=hide (hI.only kz (fun h=>h))
 have HO:=hide (hO.trans kz)
 have HD:=hide (H.out.same HO.out)
 clear hI hO hbz kz
 go_upto_region 2 with fail
 cases q with
 | true =>
  obtain ⟨⟨x0,x1,x2⟩,_⟩:=HI.out.three
  have d6:=HD.out.cells.2.2.2.2.2.2.1
  have HE:=hide (HBd.out (Or.inl rfl))
  go_quiet (fail)
  go_wp2_with fail
  go_ret
  exact ⟨by rw [HE.out];rfl,HO.out.drewN _⟩
 | false =>
  cases S2 with
  | false =>
   obtain ⟨⟨x0,x1,x2⟩,_⟩:=HI.out.three
   have d6:=HD.out.cells.2.2.2.2.2.2.1
   have HE:=hide (HBd.out (Or.inr (Or.inl rfl)))
   go_quiet (fail)
   go_wp2_with fail
   go_ret
   exact ⟨by rw [HE.out];rfl,HO.out.drewN _⟩
  | true =>
   obtain ⟨hd,hhd⟩:∃ hd,hd=d.head:=⟨_,rfl⟩
   have HHd:=hide hhd
   have d6:=HD.out.cells.2.2.2.2.2.2.1
   rw [← hhd] at d6 HBd HGo
   clear hhd
   by_cases hsc:t=aH
   case pos =>
    have q1:(s.toList == [115,99,114,105,112,116])=true:=by rw [Hsl.out,hsc];rfl
    cases hd with
    | true =>
     obtain ⟨⟨x0,x1,x2⟩,_⟩:=HI.out.three
     have HE:=hide (HBd.out (Or.inr (Or.inr (by rw [hsc];rfl))))
     clear hsc HGo
     go_quiet (fail)
     go_wp2_with fail
     go_ret
     exact ⟨by rw [HE.out];rfl,HO.out.drewN _⟩
    | false =>
     obtain ⟨⟨x0,x1,x2⟩,_⟩:=HI.out.three
     have HE:=hide (show R=0 by rw [HGo.out rfl rfl (by rw [hsc];decide),hsc];rw [if_neg (show ¬ bN aH=true by decide),if_neg (fun h=>h.1 rfl)])
     have q2:(s.toList == [111,110])=false:=by rw [Hsl.out,hsc];rfl
     have q3:(s.toList == [116,105,109,101,111,117,116])=false:=by rw [Hsl.out,hsc];rfl
     have q4:(s.toList == [101,111,102])=false:=by rw [Hsl.out,hsc];rfl
     have q5:(s.toList != [115,99,114,105,112,116])=false:=by rw [Hsl.out,hsc];rfl
     clear hsc HGo HBd
     go_quiet (fail)
     obtain ⟨Y1,hY⟩:∃ Y,Y=World.drewN wz nq:=⟨_,rfl⟩
     have HI1:=hide (show Blk Y1 g 141 #[.string s,.bool false,.int .i64 at_] by rw [hY];exact HI.out.only (aN _ _) (fun h=>h))
     have HO1:=hide (show Only aA w Y1 by rw [hY];exact HO.out.drewN _)
     have HD1:=hide (show DAt Y1 B a d by rw [hY];exact HD.out.same (aN _ _))
     rw [← hY]
     clear hY
     obtain ⟨⟨x0,x1,x2⟩,_⟩:=HI1.out.three
     go_wp2_with fail
     go_ret
     exact ⟨by rw [HE.out];rfl,HO1.out⟩
   case neg =>
    have q1:(s.toList == [115,99,114,105,112,116])=false:=by rw [Hsl.out];exact beq_eq_false_iff_ne.2 hsc
    cases hd with
    | false =>
     obtain ⟨⟨x0,x1,x2⟩,_⟩:=HI.out.three
     have HE:=hide (HBd.out (Or.inr (Or.inr (decide_eq_false hsc))))
     clear hsc HGo
     go_quiet (fail)
     go_wp2_with fail
     go_ret
     exact ⟨by rw [HE.out];rfl,HO.out.drewN _⟩
    | true =>
     have HG:=hide (HGo.out rfl rfl (by rw [decide_eq_false hsc];decide))
     have hkn:bN t=true∨dY t=true:=by
      have e:=HK.out
      rw [decide_eq_false hsc,Bool.false_or] at e
      have e2:=e.symm
      rw [Bool.or_eq_true] at e2
      exact e2
     have q5:(s.toList != [115,99,114,105,112,116])=true:=by rw [Hsl.out];exact bne_iff_ne.2 hsc
     obtain ⟨⟨x0,x1,x2⟩,_⟩:=HI.out.three
     clear HGo HBd
     go_quiet (fail)
     obtain ⟨Y1,hY⟩:∃ Y,Y=World.drewN wz nq:=⟨_,rfl⟩
     have HI1:=hide (show Blk Y1 g 141 #[.string s,.bool false,.int .i64 at_] by rw [hY];exact HI.out.only (aN _ _) (fun h=>h))
     have HO1:=hide (show Only aA w Y1 by rw [hY];exact HO.out.drewN _)
     have HD1:=hide (show DAt Y1 B a d by rw [hY];exact HD.out.same (aN _ _))
     rw [← hY]
     clear hY
     clear x0 x1 x2 d6
     obtain ⟨⟨x0,x1,x2⟩,_⟩:=HI1.out.three
     by_cases harm:bN t=true
     case neg =>
      rw [if_neg harm] at HG
      have hn1:t≠kOn:=fun e=>harm (by rw [e];rfl)
      have hn2:t≠aQ:=fun e=>harm (by rw [e];rfl)
      have hn3:t≠dK:=fun e=>harm (by rw [e];rfl)
      have q2:(s.toList == [111,110])=false:=by rw [Hsl.out];exact beq_eq_false_iff_ne.2 hn1
      have q3:(s.toList == [116,105,109,101,111,117,116])=false:=by rw [Hsl.out];exact beq_eq_false_iff_ne.2 hn2
      have q4:(s.toList == [101,111,102])=false:=by rw [Hsl.out];exact beq_eq_false_iff_ne.2 hn3
      have d3:=HD1.out.cells.2.2.2.1
      by_cases hl:t=bG
      case pos =>
       have q6:(s.toList == [108,97,98,101,108])=true:=by rw [Hsl.out,hl];rfl
       have HE:=hide (show R=0 by rw [HG.out,if_neg (fun h=>h.2.1 hl)])
       clear hsc hkn harm hn1 hn2 hn3 hl
       go_wp2_with fail
       go_ret
       exact ⟨by rw [HE.out];rfl,HO1.out⟩
      case neg =>
       have q6:(s.toList == [108,97,98,101,108])=false:=by rw [Hsl.out];exact beq_eq_false_iff_ne.2 hl
       by_cases h2:199 < d.L.length
       case pos =>
        have q7:decide ((199:Int) < (d.L.length:Int))=true:=by simp;omega
        have q8:decide (199 < d.L.length)=true:=by simp;omega
        have HE:=hide (show R=4 by rw [HG.out,if_pos ⟨hsc,hl,h2⟩])
        clear hsc hkn harm hn1 hn2 hn3 hl h2
        go_wp2_with fail
        go_ret
        exact ⟨by rw [HE.out];rfl,HO1.out⟩
       case neg =>
        have q7:decide ((199:Int) < (d.L.length:Int))=false:=by simp;omega
        have q8:decide (199 < d.L.length)=false:=by simp;omega
        have HE:=hide (show R=0 by rw [HG.out,if_neg (fun h=>h2 h.2.2)])
        clear hsc hkn harm hn1 hn2 hn3 hl h2
        go_wp2_with fail
        go_ret
        exact ⟨by rw [HE.out];rfl,HO1.out⟩
     case pos =>
      rw [if_pos harm] at HG
      have hwd:t=kOn∨t=aQ∨t=dK:=by
       unfold bN at harm
       simp only [Bool.or_eq_true,decide_eq_true_eq] at harm
       exact harm
      obtain ⟨op,hop⟩:∃ op,op=d.opn:=⟨_,rfl⟩
      have d7:=HD1.out.cells.2.2.2.2.2.2.2.1
      rw [← hop] at d7 HG HSf
      clear hop hkn harm hsc
      rcases hwd with hw | hw | hw
      ·
        have q2:(s.toList == [111,110])=true:=by rw [Hsl.out,hw];rfl
        have q3:(s.toList == [116,105,109,101,111,117,116])=false:=by rw [Hsl.out,hw];rfl
        have q4:(s.toList == [101,111,102])=false:=by rw [Hsl.out,hw];rfl
        rw [hw] at HG
        cases op with
        | false =>
         have HE:=hide (show R=8 by rw [HG.out,if_pos rfl])
         clear hw
         go_wp2_with fail
         go_ret
         exact ⟨by rw [HE.out];rfl,HO1.out⟩
        | true =>
         rw [if_neg (show ¬ true=false by decide)] at HG
         obtain ⟨i,hi⟩:∃ i,d.L.length=i + 1:=⟨d.L.length - 1,by have:=List.length_pos_iff.2 (HSf.out rfl);omega⟩
         obtain ⟨b,hoA,hgB,hgl⟩:=HD1.out.ops.at_ (i:=i) (by omega)
         have hops:=HD1.out.ops
         rw [hoA] at hops
         obtain ⟨⟨_,_,_,_,k4,_,_⟩,_⟩:=hops.cells (i:=i) (by omega)
         have d3:=HD1.out.cells.2.2.2.1
         rw [hoA,hi] at d3
         have hlo:=s7 hi
         rw [hlo] at HG
         have w1:IntKind.i64.wrap ((i:Int) + 1 - 1)=(i:Int):=by rw [show (i:Int) + 1 - 1=(i:Int) by omega];exact IntWalk.i64_in _ (by omega)
         have w2:IntKind.i64.wrap (i:Int)=(i:Int):=IntWalk.i64_in _ (by omega)
         have j1:(0:Int)≤(i:Int):=by omega
         have j2:(i:Int) < (i:Int) + 1:=by omega
         have j3:(i:Int) < ((i + 1:Nat):Int):=by omega
         clear hops hoA hgl hw hi hlo
         by_cases h7:7 < (opAt d.L i).o.arms.length
         case pos =>
          have r1:decide ((7:Int) < ((opAt d.L i).o.arms.length:Int))=true:=by simp;omega
          have r2:decide (7 < (opAt d.L i).o.arms.length)=true:=by simp;omega
          have HE:=hide (show R=4 by rw [HG.out,if_pos (show kOn=kOn∧7 < (opAt d.L i).o.arms.length from ⟨rfl,h7⟩)])
          clear h7
          go_upto_region 8 with fail
          go_quiet (fail)
          go_wp2_with fail
          go_ret
          exact ⟨by rw [HE.out];rfl,HO1.out.drewN _⟩
         case neg =>
          have r1:decide ((7:Int) < ((opAt d.L i).o.arms.length:Int))=false:=by simp;omega
          have r2:decide (7 < (opAt d.L i).o.arms.length)=false:=by simp;omega
          have HE:=hide (show R=0 by rw [HG.out,if_neg (show ¬ (kOn=kOn∧7 < (opAt d.L i).o.arms.length) from fun h=>h7 h.2),if_neg (show ¬ ((kOn=aQ∧d.tm=true)∨(kOn=dK∧d.ef=true)) from fun h=>by rcases h with h | h<;>exact absurd h.1 (by decide))])
          clear h7
          go_upto_region 8 with fail
          go_quiet (fail)
          obtain ⟨Y2,hY⟩:∃ Y,Y=World.drewN Y1 nq:=⟨_,rfl⟩
          have HI2:=hide (show Blk Y2 g 141 #[.string s,.bool false,.int .i64 at_] by rw [hY];exact HI1.out.only (aN _ _) (fun h=>h))
          have HO2:=hide (show Only aA w Y2 by rw [hY];exact HO1.out.drewN _)
          have HD2:=hide (show DAt Y2 B a d by rw [hY];exact HD1.out.same (aN _ _))
          rw [← hY]
          clear hY
          clear x0 x1 x2
          obtain ⟨⟨x0,x1,x2⟩,_⟩:=HI2.out.three
          go_wp2_with fail
          go_ret
          exact ⟨by rw [HE.out];rfl,HO2.out⟩
      ·
        have q2:(s.toList == [111,110])=false:=by rw [Hsl.out,hw];rfl
        have q3:(s.toList == [116,105,109,101,111,117,116])=true:=by rw [Hsl.out,hw];rfl
        have q4:(s.toList == [101,111,102])=false:=by rw [Hsl.out,hw];rfl
        rw [hw] at HG
        cases op with
        | false =>
         have HE:=hide (show R=8 by rw [HG.out,if_pos rfl])
         clear hw
         go_wp2_with fail
         go_ret
         exact ⟨by rw [HE.out];rfl,HO1.out⟩
        | true =>
         rw [if_neg (show ¬ true=false by decide)] at HG
         rw [if_neg (show ¬ (aQ=kOn∧7 < (lastD d.pl).arms.length) from fun h=>absurd h.1 (by decide))] at HG
         obtain ⟨bb,hbb⟩:∃ bb,bb=d.tm:=⟨_,rfl⟩
         have HBB:=hide hbb
         clear hw hbb
         go_upto_region 8 with fail
         go_quiet (fail)
         obtain ⟨Y2,hY⟩:∃ Y,Y=World.drewN Y1 nq:=⟨_,rfl⟩
         have HI2:=hide (show Blk Y2 g 141 #[.string s,.bool false,.int .i64 at_] by rw [hY];exact HI1.out.only (aN _ _) (fun h=>h))
         have HO2:=hide (show Only aA w Y2 by rw [hY];exact HO1.out.drewN _)
         have HD2:=hide (show DAt Y2 B a d by rw [hY];exact HD1.out.same (aN _ _))
         rw [← hY]
         clear hY
         clear x0 x1 x2 d7
         obtain ⟨⟨x0,x1,x2⟩,_⟩:=HI2.out.three
         have d8:=HD2.out.cells.2.2.2.2.2.2.2.2.1
         have d9:=HD2.out.cells.2.2.2.2.2.2.2.2.2
         rw [show d.tm=bb from HBB.out.symm] at d8 HG
         cases bb with
         | true =>
          have HE:=hide (show R=6 by rw [HG.out,if_pos (Or.inl ⟨rfl,rfl⟩)])
          go_wp2_with fail
          go_ret
          exact ⟨by rw [HE.out];rfl,HO2.out⟩
         | false =>
          have HE:=hide (show R=0 by rw [HG.out,if_neg (fun h=>by rcases h with h | h;exact absurd h.2 (by decide);exact absurd h.1 (by decide))])
          go_wp2_with fail
          go_ret
          exact ⟨by rw [HE.out];rfl,HO2.out⟩
      ·
        have q2:(s.toList == [111,110])=false:=by rw [Hsl.out,hw];rfl
        have q3:(s.toList == [116,105,109,101,111,117,116])=false:=by rw [Hsl.out,hw];rfl
        have q4:(s.toList == [101,111,102])=true:=by rw [Hsl.out,hw];rfl
        rw [hw] at HG
        cases op with
        | false =>
         have HE:=hide (show R=8 by rw [HG.out,if_pos rfl])
         clear hw
         go_wp2_with fail
         go_ret
         exact ⟨by rw [HE.out];rfl,HO1.out⟩
        | true =>
         rw [if_neg (show ¬ true=false by decide)] at HG
         rw [if_neg (show ¬ (dK=kOn∧7 < (lastD d.pl).arms.length) from fun h=>absurd h.1 (by decide))] at HG
         obtain ⟨bb,hbb⟩:∃ bb,bb=d.ef:=⟨_,rfl⟩
         have HBB:=hide hbb
         clear hw hbb
         go_upto_region 8 with fail
         go_quiet (fail)
         obtain ⟨Y2,hY⟩:∃ Y,Y=World.drewN Y1 nq:=⟨_,rfl⟩
         have HI2:=hide (show Blk Y2 g 141 #[.string s,.bool false,.int .i64 at_] by rw [hY];exact HI1.out.only (aN _ _) (fun h=>h))
         have HO2:=hide (show Only aA w Y2 by rw [hY];exact HO1.out.drewN _)
         have HD2:=hide (show DAt Y2 B a d by rw [hY];exact HD1.out.same (aN _ _))
         rw [← hY]
         clear hY
         clear x0 x1 x2 d7
         obtain ⟨⟨x0,x1,x2⟩,_⟩:=HI2.out.three
         have d8:=HD2.out.cells.2.2.2.2.2.2.2.2.1
         have d9:=HD2.out.cells.2.2.2.2.2.2.2.2.2
         rw [show d.ef=bb from HBB.out.symm] at d9 HG
         cases bb with
         | true =>
          have HE:=hide (show R=6 by rw [HG.out,if_pos (Or.inr ⟨rfl,rfl⟩)])
          go_wp2_with fail
          go_ret
          exact ⟨by rw [HE.out];rfl,HO2.out⟩
         | false =>
          have HE:=hide (show R=0 by rw [HG.out,if_neg (fun h=>by rcases h with h | h;exact absurd h.1 (by decide);exact absurd h.2 (by decide))])
          go_wp2_with fail
          go_ret
          exact ⟨by rw [HE.out];rfl,HO2.out⟩
end Go.Proofs.YtaioaojfdngfdaaGreatDoor
