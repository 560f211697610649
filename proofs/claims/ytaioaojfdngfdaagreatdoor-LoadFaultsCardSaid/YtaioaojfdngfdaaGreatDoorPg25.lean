/- The document's reader of scripts: its small parts. Conditions: those of each theorem. -/
import Derived.Test.YtaioaojfdngfdaaGreatDoorPg20
import Derived.Test.YtaioaojfdngfdaaGreatDoorPg17
import Derived.Test.YtaioaojfdngfdaaGreatDoorPg24
set_option linter.unusedVariables false
set_option linter.unusedSimpArgs false
set_option maxHeartbeats 3200000
namespace Go.Proofs.YtaioaojfdngfdaaGreatDoor
open Go.RowKit
set_option maxRecDepth 100000
def lbAt (l:List (List UInt8 × Int)) (k:Nat):List UInt8 × Int:=l.getD k ([],0)
theorem qG {l:List (List UInt8 × Int)} {k:Nat} (hk:k < l.length):l[k]?=some (lbAt l k):=by simp [lbAt,List.getD,hk]
theorem zE {k:List UInt8} {l:List (List UInt8 × Int)} {q:Nat} (hq:q < l.length):findD k (l.drop q)=if (lbAt l q).1=k then (lbAt l q).2 else findD k (l.drop (q + 1)):=by
 rw [List.drop_eq_getElem_cons hq]
 have:=qG hq
 rw [List.getElem?_eq_getElem hq] at this
 injection this with this
 rw [this]
 rfl
theorem xG {M:Nat→Prop} (A:Option Addr) (c:Nat) (l:List (List UInt8 × Int)) (k:List UInt8) (w:World) (hr:Rd w M A (flat encLb l)) (hn:l.length≤1000000):Calls Tryz.prog 44 #[.slice A l.length c,.string (bs k)] w fun e w'=>e=.returned (.int .i64 (findD k l))∧w'=w:=by
 obtain ⟨R,hR⟩:∃ R,R=findD k l:=⟨_,rfl⟩
 have HR0:=hide (show findD k (l.drop 0)=R from hR.symm)
 rw [← hR]
 clear hR
 obtain ⟨t,ht⟩:∃ t,t=bs k:=⟨_,rfl⟩
 have Ht:=hide ht
 rw [← ht]
 clear ht
 obtain ⟨n,hnn⟩:∃ n,n=l.length:=⟨_,rfl⟩
 have Hn:=hide hnn
 rw [← hnn] at hn ⊢
 clear hnn
 have HRd:=hide hr
 clear hr
 go_enter Tryz.func44,Tryz.ntmps44
 go_wp2_with fail
 go_loopw [5] (fun i wr=>∃ q:Nat,q≤n∧i=.int .i64 q∧Hid (findD k (l.drop q)=R)∧w=wr) (fun i _=>n - (intOf i).toNat)
 case atStart=>exact ⟨0,Nat.zero_le _,rfl,HR0,rfl⟩
 case round =>
  obtain ⟨q,hqn,rfl,HR,rfl⟩:=hrel
  by_cases hlt:q < n
  case neg =>
   have d1:decide ((q:Int) < (n:Int))=false:=by simp;omega
   have d2:decide (q < n)=false:=by simp;omega
   have HE:=hide (show R = -1 by
    have e:=HR.out
    rw [List.drop_eq_nil_of_le (by have:=Hn.out;omega)] at e
    rw [← e];rfl)
   clear hlt
   go_wp2_with fail
   go_ret
   exact ⟨by rw [HE.out];rfl,rfl⟩
  case pos =>
   have d1:decide ((q:Int) < (n:Int))=true:=by simp;omega
   have d2:decide (q < n)=true:=by simp;omega
   have j1:(0:Int)≤(q:Int):=by omega
   have j2:(q:Int) < (n:Int):=by omega
   have w1:IntKind.i64.wrap ((q:Int) + 1)=(q:Int) + 1:=IntWalk.i64_in _ (by omega)
   have hql:q < l.length:=by have:=Hn.out;omega
   obtain ⟨b,ob,hA,_,hb,hc⟩:=cR (n:=2) (enc:=encLb) (fun _=>rfl) HRd.out q _ (qG hql) (by omega)
   have k0:=hc 0 (by omega)
   have k1:=hc 1 (by omega)
   have HD:=hide (zE (k:=k) hql)
   obtain ⟨⟨xn,xv⟩,hx⟩:∃ x,x=lbAt l q:=⟨_,rfl⟩
   rw [← hx] at k0 k1 HD
   have k0':w.cell? ⟨b,ob + q * 2,none⟩=some (.string (bs xn)):=k0
   have k1':w.cell? ⟨b,ob + q * 2 + 1,none⟩=some (.int .i64 xv):=k1
   rw [hA]
   clear hx hc k0 k1 hlt hA
   obtain ⟨u,hu⟩:∃ u,u=bs xn:=⟨_,rfl⟩
   rw [← hu] at k0'
   have Hu:=hide hu
   clear hu
   by_cases he:xn=k
   case pos =>
    have q1:(u.toList == t.toList)=true:=by rw [Hu.out,Ht.out,he];exact beq_self_eq_true _
    have HE:=hide (show R=xv by rw [← HR.out,HD.out,if_pos he])
    clear he
    go_wp2_with fail
    go_ret
    exact ⟨by rw [HE.out];rfl,rfl⟩
   case neg =>
    have q1:(u.toList == t.toList)=false:=by rw [Hu.out,Ht.out,ByteArray.toList_eq,ByteArray.toList_eq];exact beq_eq_false_iff_ne.2 he
    have HE:=hide (show findD k (l.drop (q + 1))=R by rw [← HR.out,HD.out,if_neg he])
    clear he
    go_wp2_with fail
    refine ⟨⟨q + 1,by omega,by simp,HE,trivial⟩,?_⟩
    simp only [intOf];omega
def l5:List (List UInt8):=fQ.map (·.1)
def mJ:List (List UInt8):=fQ.map (·.2)
theorem x4 (t:List UInt8) (q:Nat) (hq:q < 11):mS t (fQ.drop q)=if l5.getD q []=t then (mJ.getD q [],true) else mS t (fQ.drop (q + 1)):=by
 have:q=0∨q=1∨q=2∨q=3∨q=4∨q=5∨q=6∨q=7∨q=8∨q=9∨q=10:=by omega
 rcases this with rfl | rfl | rfl | rfl | rfl | rfl | rfl | rfl | rfl | rfl | rfl<;>rfl
theorem rV (q:Nat) (hq:q < 11):(flat encLn l5).toArray[q]?=some (.string (bs (l5.getD q [])))∧(flat encLn mJ).toArray[q]?=some (.string (bs (mJ.getD q []))):=by
 have:q=0∨q=1∨q=2∨q=3∨q=4∨q=5∨q=6∨q=7∨q=8∨q=9∨q=10:=by omega
 rcases this with rfl | rfl | rfl | rfl | rfl | rfl | rfl | rfl | rfl | rfl | rfl<;>exact ⟨rfl,rfl⟩
theorem nL (k:List UInt8) (w:World):Calls Tryz.prog 76 #[.string (bs k)] w fun e w'=>e=.returned (.tuple #[.string (bs (bZ k).1),.bool (bZ k).2])∧Below w.heap.size w w':=by
 obtain ⟨R,hR⟩:∃ R,R=bZ k:=⟨_,rfl⟩
 have HR0:=hide (show mS k (fQ.drop 0)=R from hR.symm)
 rw [← hR]
 clear hR
 obtain ⟨t,ht⟩:∃ t,t=bs k:=⟨_,rfl⟩
 have Ht:=hide ht
 rw [← ht]
 clear ht
 go_enter Tryz.func76,Tryz.ntmps76
 go_upto_region 3 with fail
 generalize hX:World.alloc (World.alloc w _) _=X
 have HW:=hide (show Blk X w.heap.size 9 (flat encLn l5).toArray by rw [← hX];exact (Blk.new _ _ _).alloc _)
 have HF:=hide (show Blk X (w.heap.size + 1) 9 (flat encLn mJ).toArray by rw [← hX];exact Blk.new' (by simp))
 have HB:=hide (show Below w.heap.size w X by rw [← hX];exact ((Below.refl _ w).alloc (Nat.le_refl _) _).alloc (by simp) _)
 clear hX
 go_wp2_with fail
 go_loopw [6] (fun i wr=>∃ q:Nat,q≤11∧i=.int .i64 q∧Hid (mS k (fQ.drop q)=R)∧X=wr) (fun i _=>11 - (intOf i).toNat)
 case atStart=>exact ⟨0,Nat.zero_le _,rfl,HR0,rfl⟩
 case round =>
  obtain ⟨q,hqn,rfl,HR,rfl⟩:=hrel
  by_cases hlt:q < 11
  case neg =>
   obtain rfl:q=11:=by omega
   have HE:=hide (show R=([],false) from HR.out.symm)
   clear hlt hqn
   go_wp2_with fail
   refine bodyPost_ret (v:=.tuple #[.string (bs ([]:List UInt8)),.bool false]) (by simp [results,Tryz.results76,go_sem];try rfl) rfl ?_
   exact ⟨by rw [HE.out],HB.out⟩
  case pos =>
   have d1:decide ((q:Int) < 11)=true:=by simp;omega
   have d2:decide (q < 11)=true:=by simp;omega
   have j1:(0:Int)≤(q:Int):=by omega
   have j2:(q:Int) < (11:Int):=by omega
   have w1:IntKind.i64.wrap ((q:Int) + 1)=(q:Int) + 1:=IntWalk.i64_in _ (by omega)
   have HD:=hide (x4 k q hlt)
   have k0:X.cell? ⟨w.heap.size,q,none⟩=some (.string (bs (l5.getD q []))):=by rw [HW.out.cell];exact (rV q hlt).1
   have k1:X.cell? ⟨w.heap.size + 1,q,none⟩=some (.string (bs (mJ.getD q []))):=by rw [HF.out.cell];exact (rV q hlt).2
   generalize l5.getD q []=xn at *
   generalize mJ.getD q []=xf at *
   obtain ⟨u,hu⟩:∃ u,u=bs xn:=⟨_,rfl⟩
   rw [← hu] at k0
   have Hu:=hide hu
   clear hu
   have Hlt:=hide hlt
   clear hlt
   by_cases he:xn=k
   case pos =>
    have q1:(u.toList == t.toList)=true:=by rw [Hu.out,Ht.out,he];exact beq_self_eq_true _
    have HE:=hide (show R=(xf,true) by rw [← HR.out,HD.out,if_pos he])
    clear he
    go_wp2_with fail
    refine bodyPost_ret (v:=.tuple #[.string (bs xf),.bool true]) (by simp [results,Tryz.results76,go_sem];try rfl) rfl ?_
    exact ⟨by rw [HE.out],HB.out⟩
   case neg =>
    have q1:(u.toList == t.toList)=false:=by rw [Hu.out,Ht.out,ByteArray.toList_eq,ByteArray.toList_eq];exact beq_eq_false_iff_ne.2 he
    have HE:=hide (show mS k (fQ.drop (q + 1))=R by rw [← HR.out,HD.out,if_neg he])
    clear he
    go_wp2_with fail
    refine ⟨⟨q + 1,by have:=Hlt.out;omega,by simp,HE,trivial⟩,?_⟩
    have:=Hlt.out
    simp only [intOf];omega
def gC:List (List UInt8):=[dO,bS,dJ,cF,dQ,dP]
theorem index_drop (t:List UInt8) (q:Nat) (hq:q < 6):kT t (gC.drop q) q=if gC.getD q []=t then q + 1 else kT t (gC.drop (q + 1)) (q + 1):=by
 have:q=0∨q=1∨q=2∨q=3∨q=4∨q=5:=by omega
 rcases this with rfl | rfl | rfl | rfl | rfl | rfl<;>rfl
theorem kinds_at (q:Nat) (hq:q < 6):(flat encLn gC).toArray[q]?=some (.string (bs (gC.getD q []))):=by
 have:q=0∨q=1∨q=2∨q=3∨q=4∨q=5:=by omega
 rcases this with rfl | rfl | rfl | rfl | rfl | rfl<;>rfl
theorem dG (k:List UInt8) (w:World):Calls Tryz.prog 121 #[.string (bs k)] w fun e w'=>e=.returned (.int .i64 (eI k:Nat))∧Below w.heap.size w w':=by
 obtain ⟨R,hR⟩:∃ R,R=eI k:=⟨_,rfl⟩
 have HR0:=hide (show kT k (gC.drop 0) 0=R from hR.symm)
 rw [← hR]
 clear hR
 obtain ⟨t,ht⟩:∃ t,t=bs k:=⟨_,rfl⟩
 have Ht:=hide ht
 rw [← ht]
 clear ht
 go_enter Tryz.func121,Tryz.ntmps121
 go_upto_region 2 with fail
 generalize hX:World.alloc w _=X
 have HW:=hide (show Blk X w.heap.size 9 (flat encLn gC).toArray by rw [← hX];exact Blk.new _ _ _)
 have HB:=hide (show Below w.heap.size w X by rw [← hX];exact (Below.refl _ w).alloc (Nat.le_refl _) _)
 clear hX
 go_wp2_with fail
 go_loopw [4] (fun i wr=>∃ q:Nat,q≤6∧i=.int .i64 q∧Hid (kT k (gC.drop q) q=R)∧X=wr) (fun i _=>6 - (intOf i).toNat)
 case atStart=>exact ⟨0,Nat.zero_le _,rfl,HR0,rfl⟩
 case round =>
  obtain ⟨q,hqn,rfl,HR,rfl⟩:=hrel
  by_cases hlt:q < 6
  case neg =>
   obtain rfl:q=6:=by omega
   have HE:=hide (show R=0 from HR.out.symm)
   clear hlt hqn
   go_wp2_with fail
   go_ret
   exact ⟨by rw [HE.out];rfl,HB.out⟩
  case pos =>
   have d1:decide ((q:Int) < 6)=true:=by simp;omega
   have d2:decide (q < 6)=true:=by simp;omega
   have j1:(0:Int)≤(q:Int):=by omega
   have j2:(q:Int) < (6:Int):=by omega
   have w1:IntKind.i64.wrap ((q:Int) + 1)=(q:Int) + 1:=IntWalk.i64_in _ (by omega)
   have HD:=hide (index_drop k q hlt)
   have k0:X.cell? ⟨w.heap.size,q,none⟩=some (.string (bs (gC.getD q []))):=by rw [HW.out.cell];exact kinds_at q hlt
   generalize gC.getD q []=xn at *
   obtain ⟨u,hu⟩:∃ u,u=bs xn:=⟨_,rfl⟩
   rw [← hu] at k0
   have Hu:=hide hu
   clear hu
   have Hlt:=hide hlt
   clear hlt
   by_cases he:xn=k
   case pos =>
    have q1:(u.toList == t.toList)=true:=by rw [Hu.out,Ht.out,he];exact beq_self_eq_true _
    have HE:=hide (show R=q + 1 by rw [← HR.out,HD.out,if_pos he])
    clear he
    go_wp2_with fail
    go_ret
    exact ⟨by rw [HE.out];rfl,HB.out⟩
   case neg =>
    have q1:(u.toList == t.toList)=false:=by rw [Hu.out,Ht.out,ByteArray.toList_eq,ByteArray.toList_eq];exact beq_eq_false_iff_ne.2 he
    have HE:=hide (show kT k (gC.drop (q + 1)) (q + 1)=R by rw [← HR.out,HD.out,if_neg he])
    clear he
    go_wp2_with fail
    refine ⟨⟨q + 1,by have:=Hlt.out;omega,by simp,HE,trivial⟩,?_⟩
    have:=Hlt.out
    simp only [intOf];omega
theorem jC (k:List UInt8) (w:World) (hk:k.length≤1000000000):Calls Tryz.prog 120 #[.int .u8 100,.string (bs k)] w fun e w'=>e=.returned (.tuple #[.int .i64 (aF 100 k).1,.int .i64 (aF 100 k).2])∧w'=w:=by
 have HN:=hide (fun (w:World)=>gQ (bs k) 1000000000000 w (by rw [bJ];exact hk))
 rw [show (bs k).data.toList=k from rfl] at HN
 obtain ⟨N,hN⟩:∃ N,N=bK k 1000000000000:=⟨_,rfl⟩
 obtain ⟨R,hR⟩:∃ R,R=aF 100 k:=⟨_,rfl⟩
 have HR:=hide (show R=if k=cK∧((100:UInt8)=100∨(100:UInt8)=101) then (9223372036854775807,0) else if N.2=0∧(100:UInt8)=100∧N.1=0 then (0,12) else N by rw [hR,hN];rfl)
 rw [← hN] at HN
 rw [← hR]
 clear hN hR
 obtain ⟨N1,N2⟩:=N
 simp only at HN HR
 obtain ⟨t,ht⟩:∃ t,t=bs k:=⟨_,rfl⟩
 have htl:t.toList=k:=by rw [ht,ByteArray.toList_eq]
 rw [← ht] at HN ⊢
 clear ht
 by_cases hn:k=cK
 case pos =>
  have q1:(t.toList == [110,101,118,101,114])=true:=by rw [htl,hn];rfl
  have HE:=hide (show R=(9223372036854775807,0) by rw [HR.out,if_pos ⟨hn,Or.inl (by decide)⟩])
  clear hn htl
  go_enter Tryz.func120,Tryz.ntmps120
  go_wp2_with fail
  refine bodyPost_ret (v:=.tuple #[.int .i64 9223372036854775807,.int .i64 0]) (by simp [results,Tryz.results120,go_sem];try rfl) rfl ?_
  exact ⟨by rw [HE.out];rfl,rfl⟩
 case neg =>
  have q1:(t.toList == [110,101,118,101,114])=false:=by rw [htl];exact beq_eq_false_iff_ne.2 hn
  by_cases h0:N2=0
  case pos =>
   have e0:(((N2:Nat):Int) == 0)=true:=by rw [h0];rfl
   by_cases h1:N1=0
   case pos =>
    have e1:(N1 == 0)=true:=by rw [h1];rfl
    have HE:=hide (show R=(0,12) by rw [HR.out,if_neg (fun h=>hn h.1),if_pos ⟨h0,by decide,h1⟩])
    clear h0 h1 hn htl
    go_enter Tryz.func120,Tryz.ntmps120
    go_wp2_with fail
    refine (HN.out _).mono ?_
    rintro e wz ⟨rfl,rfl⟩
    go_wp2_with fail
    refine bodyPost_ret (v:=.tuple #[.int .i64 0,.int .i64 12]) (by simp [results,Tryz.results120,go_sem];try rfl) rfl ?_
    exact ⟨by rw [HE.out];rfl,rfl⟩
   case neg =>
    have e1:(N1 == 0)=false:=beq_eq_false_iff_ne.2 h1
    have HE:=hide (show R=(N1,N2) by rw [HR.out,if_neg (fun h=>hn h.1),if_neg (fun h=>h1 h.2.2)])
    clear h0 h1 hn htl
    go_enter Tryz.func120,Tryz.ntmps120
    go_wp2_with fail
    refine (HN.out _).mono ?_
    rintro e wz ⟨rfl,rfl⟩
    go_wp2_with fail
    refine bodyPost_ret (v:=.tuple #[.int .i64 N1,.int .i64 ((N2:Nat):Int)]) (by simp [results,Tryz.results120,go_sem];try rfl) rfl ?_
    exact ⟨by rw [HE.out],rfl⟩
  case neg =>
   have e0:(((N2:Nat):Int) == 0)=false:=beq_eq_false_iff_ne.2 (by omega)
   have HE:=hide (show R=(N1,N2) by rw [HR.out,if_neg (fun h=>hn h.1),if_neg (fun h=>h0 h.1)])
   clear h0 hn htl
   go_enter Tryz.func120,Tryz.ntmps120
   go_wp2_with fail
   refine (HN.out _).mono ?_
   rintro e wz ⟨rfl,rfl⟩
   go_wp2_with fail
   refine bodyPost_ret (v:=.tuple #[.int .i64 N1,.int .i64 ((N2:Nat):Int)]) (by simp [results,Tryz.results120,go_sem];try rfl) rfl ?_
   exact ⟨by rw [HE.out],rfl⟩
theorem jB (k:List UInt8) (w:World) (hk:k.length≤1000000000):Calls Tryz.prog 120 #[.int .u8 101,.string (bs k)] w fun e w'=>e=.returned (.tuple #[.int .i64 (aF 101 k).1,.int .i64 (aF 101 k).2])∧w'=w:=by
 have HN:=hide (fun (w:World)=>gQ (bs k) 1000000000000 w (by rw [bJ];exact hk))
 rw [show (bs k).data.toList=k from rfl] at HN
 obtain ⟨N,hN⟩:∃ N,N=bK k 1000000000000:=⟨_,rfl⟩
 obtain ⟨R,hR⟩:∃ R,R=aF 101 k:=⟨_,rfl⟩
 have HR:=hide (show R=if k=cK∧((101:UInt8)=100∨(101:UInt8)=101) then (9223372036854775807,0) else if N.2=0∧(101:UInt8)=100∧N.1=0 then (0,12) else N by rw [hR,hN];rfl)
 rw [← hN] at HN
 rw [← hR]
 clear hN hR
 obtain ⟨N1,N2⟩:=N
 simp only at HN HR
 obtain ⟨t,ht⟩:∃ t,t=bs k:=⟨_,rfl⟩
 have htl:t.toList=k:=by rw [ht,ByteArray.toList_eq]
 rw [← ht] at HN ⊢
 clear ht
 by_cases hn:k=cK
 case pos =>
  have q1:(t.toList == [110,101,118,101,114])=true:=by rw [htl,hn];rfl
  have HE:=hide (show R=(9223372036854775807,0) by rw [HR.out,if_pos ⟨hn,Or.inr (by decide)⟩])
  clear hn htl
  go_enter Tryz.func120,Tryz.ntmps120
  go_wp2_with fail
  refine bodyPost_ret (v:=.tuple #[.int .i64 9223372036854775807,.int .i64 0]) (by simp [results,Tryz.results120,go_sem];try rfl) rfl ?_
  exact ⟨by rw [HE.out];rfl,rfl⟩
 case neg =>
  have q1:(t.toList == [110,101,118,101,114])=false:=by rw [htl];exact beq_eq_false_iff_ne.2 hn
  have HE:=hide (show R=(N1,N2) by rw [HR.out,if_neg (fun h=>hn h.1),if_neg (fun h=>absurd h.2.1 (by decide))])
  clear hn htl
  go_enter Tryz.func120,Tryz.ntmps120
  go_wp2_with fail
  refine (HN.out _).mono ?_
  rintro e wz ⟨rfl,rfl⟩
  cases e0:(((N2:Nat):Int) == 0) with
  | true =>
   go_wp2_with fail
   refine bodyPost_ret (v:=.tuple #[.int .i64 N1,.int .i64 ((N2:Nat):Int)]) (by simp [results,Tryz.results120,go_sem];try rfl) rfl ?_
   exact ⟨by rw [HE.out],rfl⟩
  | false =>
   go_wp2_with fail
   refine bodyPost_ret (v:=.tuple #[.int .i64 N1,.int .i64 ((N2:Nat):Int)]) (by simp [results,Tryz.results120,go_sem];try rfl) rfl ?_
   exact ⟨by rw [HE.out],rfl⟩
theorem i8 (k:List UInt8) (w:World) (hk:k.length≤1000000000):Calls Tryz.prog 120 #[.int .u8 116,.string (bs k)] w fun e w'=>e=.returned (.tuple #[.int .i64 (aF 116 k).1,.int .i64 (aF 116 k).2])∧w'=w:=by
 have HN:=hide (fun (w:World)=>gQ (bs k) 1000000000000 w (by rw [bJ];exact hk))
 rw [show (bs k).data.toList=k from rfl] at HN
 obtain ⟨N,hN⟩:∃ N,N=bK k 1000000000000:=⟨_,rfl⟩
 obtain ⟨R,hR⟩:∃ R,R=aF 116 k:=⟨_,rfl⟩
 have HR:=hide (show R=if k=cK∧((116:UInt8)=100∨(116:UInt8)=101) then (9223372036854775807,0) else if N.2=0∧(116:UInt8)=100∧N.1=0 then (0,12) else N by rw [hR,hN];rfl)
 rw [← hN] at HN
 rw [← hR]
 clear hN hR
 obtain ⟨N1,N2⟩:=N
 simp only at HN HR
 obtain ⟨t,ht⟩:∃ t,t=bs k:=⟨_,rfl⟩
 have htl:t.toList=k:=by rw [ht,ByteArray.toList_eq]
 rw [← ht] at HN ⊢
 clear ht
 by_cases hn:k=cK
 case pos =>
  have q1:(t.toList == [110,101,118,101,114])=true:=by rw [htl,hn];rfl
  have HE:=hide (show R=(N1,N2) by rw [HR.out,if_neg (fun h=>by rcases h.2 with h | h<;>exact absurd h (by decide)),if_neg (fun h=>absurd h.2.1 (by decide))])
  clear hn htl
  go_enter Tryz.func120,Tryz.ntmps120
  go_wp2_with fail
  refine (HN.out _).mono ?_
  rintro e wz ⟨rfl,rfl⟩
  cases e0:(((N2:Nat):Int) == 0) with
  | true =>
   go_wp2_with fail
   refine bodyPost_ret (v:=.tuple #[.int .i64 N1,.int .i64 ((N2:Nat):Int)]) (by simp [results,Tryz.results120,go_sem];try rfl) rfl ?_
   exact ⟨by rw [HE.out],rfl⟩
  | false =>
   go_wp2_with fail
   refine bodyPost_ret (v:=.tuple #[.int .i64 N1,.int .i64 ((N2:Nat):Int)]) (by simp [results,Tryz.results120,go_sem];try rfl) rfl ?_
   exact ⟨by rw [HE.out],rfl⟩
 case neg =>
  have q1:(t.toList == [110,101,118,101,114])=false:=by rw [htl];exact beq_eq_false_iff_ne.2 hn
  have HE:=hide (show R=(N1,N2) by rw [HR.out,if_neg (fun h=>hn h.1),if_neg (fun h=>absurd h.2.1 (by decide))])
  clear hn htl
  go_enter Tryz.func120,Tryz.ntmps120
  go_wp2_with fail
  refine (HN.out _).mono ?_
  rintro e wz ⟨rfl,rfl⟩
  cases e0:(((N2:Nat):Int) == 0) with
  | true =>
   go_wp2_with fail
   refine bodyPost_ret (v:=.tuple #[.int .i64 N1,.int .i64 ((N2:Nat):Int)]) (by simp [results,Tryz.results120,go_sem];try rfl) rfl ?_
   exact ⟨by rw [HE.out],rfl⟩
  | false =>
   go_wp2_with fail
   refine bodyPost_ret (v:=.tuple #[.int .i64 N1,.int .i64 ((N2:Nat):Int)]) (by simp [results,Tryz.results120,go_sem];try rfl) rfl ?_
   exact ⟨by rw [HE.out],rfl⟩
theorem jA (k:List UInt8) (w:World) (hk:k.length≤1000000000):Calls Tryz.prog 120 #[.int .u8 106,.string (bs k)] w fun e w'=>e=.returned (.tuple #[.int .i64 (aF 106 k).1,.int .i64 (aF 106 k).2])∧w'=w:=by
 have HN:=hide (fun (w:World)=>gQ (bs k) 1000 w (by rw [bJ];exact hk))
 rw [show (bs k).data.toList=k from rfl] at HN
 obtain ⟨N,hN⟩:∃ N,N=bK k 1000:=⟨_,rfl⟩
 obtain ⟨R,hR⟩:∃ R,R=aF 106 k:=⟨_,rfl⟩
 have HR:=hide (show R=if k=cK∧((106:UInt8)=100∨(106:UInt8)=101) then (9223372036854775807,0) else if N.2=0∧(106:UInt8)=100∧N.1=0 then (0,12) else N by rw [hR,hN];rfl)
 rw [← hN] at HN
 rw [← hR]
 clear hN hR
 obtain ⟨N1,N2⟩:=N
 simp only at HN HR
 obtain ⟨t,ht⟩:∃ t,t=bs k:=⟨_,rfl⟩
 have htl:t.toList=k:=by rw [ht,ByteArray.toList_eq]
 rw [← ht] at HN ⊢
 clear ht
 by_cases hn:k=cK
 case pos =>
  have q1:(t.toList == [110,101,118,101,114])=true:=by rw [htl,hn];rfl
  have HE:=hide (show R=(N1,N2) by rw [HR.out,if_neg (fun h=>by rcases h.2 with h | h<;>exact absurd h (by decide)),if_neg (fun h=>absurd h.2.1 (by decide))])
  clear hn htl
  go_enter Tryz.func120,Tryz.ntmps120
  go_wp2_with fail
  refine (HN.out _).mono ?_
  rintro e wz ⟨rfl,rfl⟩
  cases e0:(((N2:Nat):Int) == 0) with
  | true =>
   go_wp2_with fail
   refine bodyPost_ret (v:=.tuple #[.int .i64 N1,.int .i64 ((N2:Nat):Int)]) (by simp [results,Tryz.results120,go_sem];try rfl) rfl ?_
   exact ⟨by rw [HE.out],rfl⟩
  | false =>
   go_wp2_with fail
   refine bodyPost_ret (v:=.tuple #[.int .i64 N1,.int .i64 ((N2:Nat):Int)]) (by simp [results,Tryz.results120,go_sem];try rfl) rfl ?_
   exact ⟨by rw [HE.out],rfl⟩
 case neg =>
  have q1:(t.toList == [110,101,118,101,114])=false:=by rw [htl];exact beq_eq_false_iff_ne.2 hn
  have HE:=hide (show R=(N1,N2) by rw [HR.out,if_neg (fun h=>hn h.1),if_neg (fun h=>absurd h.2.1 (by decide))])
  clear hn htl
  go_enter Tryz.func120,Tryz.ntmps120
  go_wp2_with fail
  refine (HN.out _).mono ?_
  rintro e wz ⟨rfl,rfl⟩
  cases e0:(((N2:Nat):Int) == 0) with
  | true =>
   go_wp2_with fail
   refine bodyPost_ret (v:=.tuple #[.int .i64 N1,.int .i64 ((N2:Nat):Int)]) (by simp [results,Tryz.results120,go_sem];try rfl) rfl ?_
   exact ⟨by rw [HE.out],rfl⟩
  | false =>
   go_wp2_with fail
   refine bodyPost_ret (v:=.tuple #[.int .i64 N1,.int .i64 ((N2:Nat):Int)]) (by simp [results,Tryz.results120,go_sem];try rfl) rfl ?_
   exact ⟨by rw [HE.out],rfl⟩
end Go.Proofs.YtaioaojfdngfdaaGreatDoor
