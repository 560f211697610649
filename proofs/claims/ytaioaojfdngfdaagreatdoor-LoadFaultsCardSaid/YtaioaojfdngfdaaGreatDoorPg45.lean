/- A text cut into scripts, by the program. Conditions: those of each theorem. -/
import Derived.Test.YtaioaojfdngfdaaGreatDoorPg44
import Derived.BigRegion
set_option linter.unusedVariables false
set_option linter.unusedSimpArgs false
set_option maxHeartbeats 25600000
namespace Go.Proofs.YtaioaojfdngfdaaGreatDoor
open Go.RowKit
theorem cutGo_at (ls:List (List UInt8)) (k:Nat) (h:k < ls.length) (p:PartM):dD (ls.drop k) k p=if headB (ls.getD k [])=true then p :: dD (ls.drop (k + 1)) (k + 1) ⟨k + 1,[ls.getD k []]⟩ else dD (ls.drop (k + 1)) (k + 1) ⟨p.line,p.l++[ls.getD k []]⟩:=by
 have e:ls.getD k []=ls[k]:=by simp [List.getD,h]
 rw [List.drop_eq_getElem_cons h,e]
 rfl
theorem rd_tail {w:World} {M:Nat→Prop} {b o:Nat} {xs ys:List Value} (h:Rd w M (some ⟨b,o,none⟩) (xs++ys)):Rd w M (some ⟨b,o + xs.length,none⟩) ys:=by
 rcases h with h | ⟨b',o',hA,hm,hb,hc⟩
 ·exact Or.inl (List.append_eq_nil_iff.1 h).2
 ·injection hA with hA;injection hA with h1 h2
  subst h1 h2
  refine Or.inr ⟨b,o + xs.length,rfl,hm,hb,fun j hj=>?_⟩
  have:=hc (xs.length + j) (by simp;omega)
  rw [← Nat.add_assoc] at this
  rw [this,List.getElem?_append_right (by omega)]
  congr 1
  omega
theorem Tryz.infoStr':(Tryz.prog.info? 9).map (fun i=>(i.zero,i.size,i.bytes))=some (some (.string ⟨#[]⟩),1,16):=by kernel_rfl
theorem uP {w:World} {base size n c:Nat} {e:TypeId} {A:Option Addr} {xs:List Value} (h:w.ownsRow base e size (.slice A n c) n xs):n≤c:=by
 obtain ⟨A',c',he,hc⟩:=aW h
 injection he with _ _ he
 omega
set_option maxRecDepth 100000 in
theorem cut_c (s:ByteArray) (w:World) (hs:s.size≤40000) (hl:LenV w):Calls Tryz.prog 47 #[.string s] w fun e w'=>(∃ (A:Option Addr) (c:Nat) (V:List PartV),e=.returned (.slice A V.length c)∧V.map (·.m)=pL s.data.toList∧Rd w' (· < w.heap.size) A (flat encPart V)∧∀ p ∈ V,Rd w' (· < w.heap.size) p.A (flat encLn p.l)∧p.l.length≤p.c)∧Only aA w w':=by
 obtain ⟨ls,hls⟩:∃ ls,ls=bI s.data.toList:=⟨_,rfl⟩
 have hln:ls.length≤40001:=by
  have h1:=eP s.data.toList []
  rw [hls]
  unfold bI
  have h2:s.data.toList.length=s.size:=by simp
  omega
 have HLs:=hide (fun (X:World) (hX:LenV X)=>wM s X (by omega) hX)
 rw [← hls] at HLs
 obtain ⟨P,hP⟩:∃ P,P=dD ls 0 ⟨1,[]⟩:=⟨_,rfl⟩
 have HPs:=hide (show pL s.data.toList=jN P by rw [hP,hls];rfl)
 have HP0:=hide (show P=[]++dD (ls.drop 0) 0 ⟨1,[]⟩ from hP)
 have HSt:=hide (cutGo_at ls)
 obtain ⟨i0,hi,hz0,hz1,hz2⟩:=info_parts Tryz.infoPart
 obtain ⟨i1,hi1,hz10,hz11,hz12⟩:=info_parts Tryz.infoStr'
 rw [HPs.out]
 have HL:=hide hl
 have HSz0:=hide (show ∀ q,(ls.getD q []).length≤40000 from fun q=>(by
  have h1:=mH s.data.toList q
  have h2:s.data.toList.length=s.size:=by simp
  rw [← hls] at h1
  omega))
 obtain ⟨n,hn⟩:∃ n,n=ls.length:=⟨_,rfl⟩
 clear hls hP HPs hl
 go_enter Tryz.func47,Tryz.ntmps47
 go_wp2_with fail
 generalize hX:World.alloc w _=X
 obtain ⟨g,hg⟩:∃ g,g=w.heap.size:=⟨_,rfl⟩
 have HX:=hide (show Only aA w X by rw [← hX];exact (Only.refl _ w).alloc _)
 have HG:=hide (show Blk X g 100 #[.int .i64 1,.slice none 0 0] by rw [← hX,hg];exact Blk.new _ _ _)
 rw [← hg]
 have HLX:=hide (show LenV X from HL.out.elim fun m h=>⟨m,cM HX.out (fun h=>h) h⟩)
 clear hX
 refine (HLs.out X HLX.out).mono ?_
 rintro e W ⟨rfl,hbl,hb⟩
 have HB0:=hide hb
 have HLn:=hide hbl
 obtain ⟨gl,hgl⟩:∃ gl,gl=X.heap.size:=⟨_,rfl⟩
 rw [← hgl] at HLn ⊢
 obtain ⟨B,hB⟩:∃ B,B=W.heap.size:=⟨_,rfl⟩
 have hglB:gl < B:=by rw [hB];exact HLn.out.lt
 have hgg:g < gl:=by rw [hgl];exact HG.out.lt
 have hgB:g < B:=by rw [hB,hg];have:=HX.out.size;have:=HB0.out.size;have h3:=HG.out.lt;omega
 have HC0:=hide (show CutAt W B g [] (.slice none 0 0) 1 none 0 [] from
  ⟨HG.out.below HB0.out,World.ownsRow_nil _ _ _ _,World.ownsRow_nil _ _ _ _,fun p hp=>(by cases hp),hgB,by rw [hB];exact Nat.le_refl _⟩)
 have HK0:=hide (show Only aA w W from HX.out.trans (Only.of_below HB0.out _))
 have hwg:w.heap.size≤g:=by rw [hg];exact Nat.le_refl _
 have hwB:w.heap.size≤B:=by rw [hB];exact HK0.out.size
 have HCsz:=hide (show B≤W.heap.size by rw [hB];exact Nat.le_refl _)
 clear hbl hb hg hB HX HG HLX HB0 HL HLs hgl
 have HLc:=hide (fun (q:Nat) (hq:q < ls.length)=>show W.cell? ⟨gl,q,none⟩=some (.string (bs (ls.getD q []))) by rw [HLn.out.cell,List.getElem?_toArray,cN ls q hq])
 clear HLn
 have HHd:=hide (fun (x:List UInt8) (X:World) (h:x.length≤40000)=>heads_c (bs x) X (by show x.length≤_;omega))
 have HSz:=hide (show ∀ q,(ls.getD q []).length≤40000 from HSz0.out)
 clear HSz0
 rw [← hn] at hln HLc HSt ⊢
 have Hn:=hide hn
 clear hn
 go_wp2_with fail
 go_loopw [3,5,6,11] (fun v _ _ i wr=>∃ (k:Nat) (out:List PartV) (ln:Nat) (uA:Option Addr) (uc:Nat) (cur:List (List UInt8)),k≤n∧i=.int .i64 k∧Hid (CutAt wr B g out v ln uA uc cur)∧Hid (P=out.map (·.m)++dD (ls.drop k) k ⟨ln,cur⟩)∧Hid (out.length≤k∧cur.length≤k∧ln≤k + 1∧v.ownBlock≠some g∧∀ p ∈ out,p.l.length≤40001∧p.l.length≤p.c)∧Hid (Only (fun j=>j=g∨B≤j) W wr)) (fun _ _ _ i _=>n - (intOf i).toNat)
 case atStart=>exact ⟨0,[],1,none,0,[],Nat.zero_le _,rfl,HC0,HP0,hide ⟨Nat.le_refl _,Nat.le_refl _,Nat.le_refl _,(by intro h;cases h),fun p hp=>(by cases hp)⟩,hide (Only.refl _ _)⟩
 case round =>
  clear HC0 HP0
  obtain ⟨k,out,ln,uA,uc,cur,hk,rfl,HC,HP,HQ,HK⟩:=hrel
  obtain ⟨VA,vc,rfl,hvc⟩:=aW HC.out.own
  have w1:IntKind.i64.wrap ((k:Int) + 1)=(k:Int) + 1:=IntWalk.i64_in _ (by omega)
  by_cases hlt:k < n
  case pos =>
   have d1:decide ((k:Int) < (n:Int))=true:=by simp;exact hlt
   have d2:decide (k < n)=true:=by simp;exact hlt
   have j1:(0:Int)≤(k:Int):=by omega
   have j2:(k:Int) < (n:Int):=by omega
   have hgl:gl < W.heap.size:=by have:=HCsz.out;omega
   have gL:wr.cell? ⟨gl,k,none⟩=some (.string (bs (ls.getD k []))):=cM HK.out (fun h=>by
    rcases h with h | h
    ·have h':gl=g:=h;omega
    ·have h':B≤gl:=h;omega) (HLc.out k hlt)
   have HS:=hide (HSt.out k hlt ⟨ln,cur⟩)
   have HZ:=hide (HSz.out k)
   obtain ⟨x,hx⟩:∃ x,x=ls.getD k []:=⟨_,rfl⟩
   rw [← hx] at gL HS HZ
   have Hx:=hide hx
   clear hx hlt hgl
   have hcall:=HHd.out x wr HZ.out
   cases hh:headB x with
   | true =>
    rw [hh] at hcall
    have HCa:=hide hcall
    have HS2:=hide (HS.out.trans (if_pos hh))
    clear hcall hh HS
    obtain ⟨g0,g1⟩:=HC.out.blk.two
    have f0:=HC.out.blk.frozen 0
    have f1:=HC.out.blk.frozen 1
    go_upto_region 7 with (go_at_call 81;refine HCa.out.mono ?_;rintro e w2 ⟨rfl,hw2⟩;obtain rfl:=hw2.symm)
    clear HCa
    have hX:=hide (show Rd (wr.alloc (.cells #[.int .i64 (ln:Nat),.slice uA cur.length uc] 100)) aA (some ⟨wr.heap.size,0,none⟩) [.int .i64 (ln:Nat),.slice uA cur.length uc] from aY (Blk.new _ _ _) (fun h=>h))
    have HCx:=hide (HC.out.same ((Only.refl _ wr).alloc (.cells #[.int .i64 (ln:Nat),.slice uA cur.length uc] 100)))
    have hsz:out.length≤40001:=by have:=HQ.out.1;omega
    go_upto_region 8 with (at_builtin;refine aD _ rfl (.tmp 18) (.tmp 20) _ rfl B 100 i0 (.agg #[.int .i64 0,.slice none 0 0]) 2 32 Tryz.underlying97 hi hz0 hz1 hz2 rfl (by omega) _ out.length (flat encPart out) rfl HCx.out.own aA (some ⟨wr.heap.size,0,none⟩) 1 1 [.int .i64 (ln:Nat),.slice uA cur.length uc] rfl hX.out rfl (by intro u hu;simp at hu;rcases hu with rfl | rfl<;>rfl) (by simp only [maxLen];omega) (by omega) HCx.out.sz ?_;intro v5 w5 hown5 hgr5 hv5;have Own5:=hide hown5;have Gr5:=hide hgr5;have Hv5:=hide hv5;clear hown5 hgr5 hv5)
    have HB5:=hide (show Blk w5 g 100 #[.int .i64 (ln:Nat),.slice uA cur.length uc] from HCx.out.blk.only ((Only.refl (fun j=>(Value.slice VA out.length vc).ownBlock=some j) _).grown Gr5.out (fun j hj=>Or.inl hj)) HQ.out.2.2.2.1)
    have h0:=HB5.out.frozen 0
    have h1:=HB5.out.frozen 1
    obtain ⟨c0,c1⟩:=HB5.out.two
    have HPu:=hide (HCx.out.push (i:=k + 1) Own5.out Gr5.out Hv5.out HQ.out.2.2.2.1)
    have HK5:=hide (HK.out.alloc (.cells #[.int .i64 (ln:Nat),.slice uA cur.length uc] 100))
    clear g0 g1 f0 f1
    go_upto_region 9 with fail
    rw [show ((k:Int) + 1)=((k + 1:Nat):Int) by omega]
    generalize hXX:World.setCell (World.setCell _ _ _) _ _=XX
    rw [hXX] at HPu
    have HC2:=hide HPu.out.1
    have HK2:=hide (HK5.out.fresh HPu.out.2 (fun j _ h=>Or.inl h))
    obtain ⟨VA5,vc5,hv5,hvc5⟩:=aW HC2.out.own
    have HP2:=hide (show P=(out++[(⟨ln,uA,uc,cur⟩:PartV)]).map (·.m)++dD (ls.drop (k + 1)) (k + 1) ⟨k + 1,[]++[x]⟩ by rw [HP.out,HS2.out];simp [PartV.m])
    have HQ2:=hide (show (out++[(⟨ln,uA,uc,cur⟩:PartV)]).length≤k + 1∧([]:List (List UInt8)).length≤k∧k + 1≤k + 1 + 1∧v5.ownBlock≠some g∧∀ p ∈ out++[(⟨ln,uA,uc,cur⟩:PartV)],p.l.length≤40001∧p.l.length≤p.c from ⟨by simp;exact HQ.out.1,Nat.zero_le _,by omega,(by
     rcases Hv5.out with e | e
     ·rw [e];exact HQ.out.2.2.2.1
     ·rw [e];intro hx;injection hx with hx;have:=HCx.out.lt;have:=HCx.out.sz;omega),fun p hp=>(by
      rcases List.mem_append.1 hp with hp | hp
      ·exact HQ.out.2.2.2.2 p hp
      ·rw [List.mem_singleton] at hp;subst hp;exact ⟨by have:=HQ.out.2.1;show cur.length≤_;omega,uP HC.out.row⟩)⟩)
    clear hXX HPu HK5 HB5 h0 h1 c0 c1 Own5 Gr5 Hv5 HCx hX HP HQ HS2 HC HK hsz hvc hv5
    obtain ⟨g0,g1⟩:=HC2.out.blk.two
    have f0:=HC2.out.blk.frozen 0
    have f1:=HC2.out.blk.frozen 1
    have hXr:=hide (show Rd (XX.alloc (.cells #[.string (bs x)] 9)) aA (some ⟨XX.heap.size,0,none⟩) [.string (bs x)] from aY (Blk.new _ _ _) (fun h=>h))
    have HCx:=hide (HC2.out.same ((Only.refl _ XX).alloc (.cells #[.string (bs x)] 9)))
    have hsz2:0≤40001:=by have:=HQ2.out.2.1;omega
    go_wp2_with (at_builtin;refine aD _ rfl (.tmp 26) (.tmp 28) _ rfl B 9 i1 (.string ⟨#[]⟩) 1 16 Tryz.underlying35 hi1 hz10 hz11 hz12 rfl (by omega) _ 0 (flat encLn ([]:List (List UInt8))) rfl HCx.out.row aA (some ⟨XX.heap.size,0,none⟩) 1 1 [.string (bs x)] rfl hXr.out rfl (by intro u hu;simp at hu;subst hu;rfl) (by simp only [maxLen];omega) (by omega) HCx.out.sz ?_;intro v6 w6 hown6 hgr6 hv6;obtain ⟨UA,ucc,rfl,hucc⟩:=aW hown6;have Own6:=hide hown6;have Gr6:=hide hgr6;have Hv6:=hide hv6;have h1:w6.frozen? ⟨g,1,none⟩=false:=(HCx.out.blk.grown HCx.out.row (by decide) hgr6).frozen 1;have h2:=(HCx.out.blk.grown HCx.out.row (by decide) hgr6).two.2;clear hown6 hgr6 hv6)
    have HAd:=hide (HCx.out.add Own6.out Gr6.out Hv6.out)
    have HC3:=hide HAd.out.1
    have HK3:=hide ((HK2.out.alloc (.cells #[.string (bs x)] 9)).fresh HAd.out.2 (fun j _ h=>Or.inl h))
    have HQ3:=hide (show (out++[(⟨ln,uA,uc,cur⟩:PartV)]).length≤k + 1∧(([]:List (List UInt8))++[x]).length≤k + 1∧(k + 1)≤k + 1 + 1∧v5.ownBlock≠some g∧∀ p ∈ (out++[(⟨ln,uA,uc,cur⟩:PartV)]),p.l.length≤40001∧p.l.length≤p.c from ⟨HQ2.out.1,by have:=HQ2.out.2.1;rw [List.length_append];exact Nat.add_le_add_right this 1,HQ2.out.2.2.1,HQ2.out.2.2.2⟩)
    clear HAd HCx hXr HC2 HK2 HQ2 g0 g1 f0 f1 h1 Own6 Gr6 Hv6 hsz2 h2
    go_roundw
    case rel=>exact ⟨k + 1,(out++[(⟨ln,uA,uc,cur⟩:PartV)]),(k + 1),UA,ucc,([]:List (List UInt8))++[x],by omega,by go_num,HC3,HP2,HQ3,HK3⟩
    case measure=>simp [intOf];omega
   | false =>
    rw [hh] at hcall
    have HCa:=hide hcall
    have HS2:=hide (HS.out.trans (if_neg (by rw [hh];decide)))
    clear hcall hh HS
    have HC2:=hide HC.out
    have HK2:=hide HK.out
    have HP2:=hide (show P=out.map (·.m)++dD (ls.drop (k + 1)) (k + 1) ⟨ln,cur++[x]⟩ by rw [HP.out,HS2.out])
    have HQ2:=hide (show out.length≤k + 1∧cur.length≤k∧ln≤k + 1 + 1∧(Value.slice VA out.length vc).ownBlock≠some g∧∀ p ∈ out,p.l.length≤40001∧p.l.length≤p.c from ⟨by have:=HQ.out.1;omega,HQ.out.2.1,by have:=HQ.out.2.2.1;omega,HQ.out.2.2.2.1,HQ.out.2.2.2.2⟩)
    clear HP HQ HS2 HC HK
    go_upto_region 9 with (go_at_call 81;refine HCa.out.mono ?_;rintro e w2 ⟨rfl,hw2⟩;obtain rfl:=hw2.symm)
    obtain ⟨g0,g1⟩:=HC2.out.blk.two
    have f0:=HC2.out.blk.frozen 0
    have f1:=HC2.out.blk.frozen 1
    have hXr:=hide (show Rd (wr.alloc (.cells #[.string (bs x)] 9)) aA (some ⟨wr.heap.size,0,none⟩) [.string (bs x)] from aY (Blk.new _ _ _) (fun h=>h))
    have HCx:=hide (HC2.out.same ((Only.refl _ wr).alloc (.cells #[.string (bs x)] 9)))
    have hsz2:cur.length≤40001:=by have:=HQ2.out.2.1;omega
    go_wp2_with (at_builtin;refine aD _ rfl (.tmp 26) (.tmp 28) _ rfl B 9 i1 (.string ⟨#[]⟩) 1 16 Tryz.underlying35 hi1 hz10 hz11 hz12 rfl (by omega) _ cur.length (flat encLn cur) rfl HCx.out.row aA (some ⟨wr.heap.size,0,none⟩) 1 1 [.string (bs x)] rfl hXr.out rfl (by intro u hu;simp at hu;subst hu;rfl) (by simp only [maxLen];omega) (by omega) HCx.out.sz ?_;intro v6 w6 hown6 hgr6 hv6;obtain ⟨UA,ucc,rfl,hucc⟩:=aW hown6;have Own6:=hide hown6;have Gr6:=hide hgr6;have Hv6:=hide hv6;have h1:w6.frozen? ⟨g,1,none⟩=false:=(HCx.out.blk.grown HCx.out.row (by decide) hgr6).frozen 1;have h2:=(HCx.out.blk.grown HCx.out.row (by decide) hgr6).two.2;clear hown6 hgr6 hv6)
    have HAd:=hide (HCx.out.add Own6.out Gr6.out Hv6.out)
    have HC3:=hide HAd.out.1
    have HK3:=hide ((HK2.out.alloc (.cells #[.string (bs x)] 9)).fresh HAd.out.2 (fun j _ h=>Or.inl h))
    have HQ3:=hide (show out.length≤k + 1∧(cur++[x]).length≤k + 1∧ln≤k + 1 + 1∧(Value.slice VA out.length vc).ownBlock≠some g∧∀ p ∈ out,p.l.length≤40001∧p.l.length≤p.c from ⟨HQ2.out.1,by have:=HQ2.out.2.1;rw [List.length_append];exact Nat.add_le_add_right this 1,HQ2.out.2.2.1,HQ2.out.2.2.2⟩)
    clear HAd HCx hXr HC2 HK2 HQ2 g0 g1 f0 f1 h1 Own6 Gr6 Hv6 hsz2 h2
    go_roundw
    case rel=>exact ⟨k + 1,out,ln,UA,ucc,cur++[x],by omega,by go_num,HC3,HP2,HQ3,HK3⟩
    case measure=>simp [intOf];omega
  case neg =>
   obtain rfl:k=n:=by omega
   have d1:decide ((k:Int) < (k:Int))=false:=by simp
   have d2:decide (k < k)=false:=by simp
   have HPE:=hide (show P=(out++[(⟨ln,uA,uc,cur⟩:PartV)]).map (·.m) by
    rw [HP.out,Hn.out,List.drop_length]
    simp [dD,PartV.m])
   obtain ⟨g0,g1⟩:=HC.out.blk.two
   have hX:=hide (show Rd (wr.alloc (.cells #[.int .i64 (ln:Nat),.slice uA cur.length uc] 100)) aA (some ⟨wr.heap.size,0,none⟩) [.int .i64 (ln:Nat),.slice uA cur.length uc] from aY (Blk.new _ _ _) (fun h=>h))
   have HCx:=hide (HC.out.same ((Only.refl _ wr).alloc (.cells #[.int .i64 (ln:Nat),.slice uA cur.length uc] 100)))
   have hsz:out.length≤40001:=by have:=HQ.out.1;omega
   go_upto_region 12 with (at_builtin;refine aD _ rfl (.tmp 32) (.tmp 34) _ rfl B 100 i0 (.agg #[.int .i64 0,.slice none 0 0]) 2 32 Tryz.underlying97 hi hz0 hz1 hz2 rfl (by omega) _ out.length (flat encPart out) rfl HCx.out.own aA (some ⟨wr.heap.size,0,none⟩) 1 1 [.int .i64 (ln:Nat),.slice uA cur.length uc] rfl hX.out rfl (by intro u hu;simp at hu;rcases hu with rfl | rfl<;>rfl) (by simp only [maxLen];omega) (by omega) HCx.out.sz ?_;intro v5 w5 hown5 hgr5 hv5;have Own5:=hide hown5;have Gr5:=hide hgr5;have Hv5:=hide hv5;clear hown5 hgr5 hv5)
   have HEn:=hide (HCx.out.done Own5.out Gr5.out Hv5.out)
   have HKE:=hide ((HK.out.alloc (.cells #[.int .i64 (ln:Nat),.slice uA cur.length uc] 100)).fresh HEn.out.2.2 (fun j _ h=>Or.inl h))
   obtain ⟨V,hV⟩:∃ V,V=out++[(⟨ln,uA,uc,cur⟩:PartV)]:=⟨_,rfl⟩
   have hVn:V≠[]:=by rw [hV];simp
   have hVs:V.length≤40002:=by rw [hV];simp;omega
   have HVl:=hide (show ∀ p ∈ V,p.l.length≤40001∧p.l.length≤p.c from fun p hp=>(by
    rw [hV] at hp
    rcases List.mem_append.1 hp with hp | hp
    ·exact HQ.out.2.2.2.2 p hp
    ·rw [List.mem_singleton] at hp;subst hp;exact ⟨by have:=HQ.out.2.1;show cur.length≤_;omega,uP HC.out.row⟩))
   rw [← hV] at HPE HEn
   have HOk:=hide (show Only aA w w5 from HK0.out.fresh HKE.out (fun j _ h=>Or.inr (by
    rcases h with h | h
    ·have h':j=g:=h;omega
    ·have h':B≤j:=h;omega)))
   obtain ⟨VA5,vc5,hv5,hvc5⟩:=aW HEn.out.1
   subst hv5
   have HR:=hide (show Rd w5 (· < w.heap.size) VA5 (flat encPart V) from Rd.of_own HEn.out.1 (fun j hj=>Nat.lt_of_lt_of_le hj hwB))
   have HI:=hide (show ∀ p ∈ V,Rd w5 (· < w.heap.size) p.A (flat encLn p.l)∧p.l.length≤p.c from fun p hp=>⟨(HEn.out.2.1 p hp).mono (fun b hb=>Nat.lt_of_lt_of_le hb hwB),(HVl.out p hp).2⟩)
   clear hV HEn HKE hX HCx HC HK HP HQ Own5 Gr5 Hv5 hsz g0 g1 HK0 HCsz
   obtain ⟨q,r,rfl⟩:∃ q r,V=q :: r:=by cases V with
    | nil=>exact absurd rfl hVn
    | cons q r=>exact ⟨q,r,rfl⟩
   obtain ⟨b,o,rfl,_,hb,hc⟩:=HR.out.at_ (j:=0) (by simp [flat,encPart])
   have g0:w5.cell? ⟨b,o,none⟩=some (.int .i64 (q.line:Nat)):=hc 0 (by simp [flat,encPart])
   have g1:w5.cell? ⟨b,o + 1,none⟩=some (.slice q.A q.l.length q.c):=hc 1 (by simp [flat,encPart])
   have HCn:=hide (vH q.A q.c q.l w5 ((HI.out q (List.mem_cons_self ..)).1.mono (fun _ h=>h.elim)) (by have:=(HVl.out q (List.mem_cons_self ..)).1;simp only [maxLen];omega))
   have HP2:=hide (show jN P=jN (q.m :: r.map (·.m)) by rw [HPE.out];rfl)
   have HTl:=hide (rd_tail (xs:=encPart q) (ys:=flat encPart r) HR.out)
   have hl:(q :: r).length=r.length + 1:=rfl
   rw [hl] at hvc5 hVs ⊢
   clear hc HPE HVl hVn hl
   cases hs:dV q.l with
   | true =>
    rw [hs] at HCn
    have HPq:=hide (show jN P=(q :: r).map (·.m) by rw [HP2.out];exact oP hs _)
    clear hs HP2
    go_wp2_with (go_at_call 82;refine HCn.out.mono ?_;rintro e w2 ⟨rfl,hw2⟩;obtain rfl:=hw2.symm)
    go_ret
    exact ⟨⟨_,_,q :: r,rfl,by rw [HPq.out],HR.out,HI.out⟩,HOk.out⟩
   | false =>
    rw [hs] at HCn
    have HPq:=hide (show jN P=r.map (·.m) by rw [HP2.out];exact oQ (by show ¬ dV q.l=true;rw [hs];decide) _)
    clear hs HP2
    have j1:(1:Int)≤((r.length + 1:Nat):Int):=by omega
    have j2:((r.length + 1:Nat):Int)≤(vc5:Int):=by omega
    by_cases hc1:vc5=1
    case pos =>
     subst hc1
     obtain rfl:r=[]:=by cases r with
      | nil=>rfl
      | cons a t=>simp at hvc5
     go_wp2_with (go_at_call 82;refine HCn.out.mono ?_;rintro e w2 ⟨rfl,hw2⟩;obtain rfl:=hw2.symm)
     go_ret
     exact ⟨⟨_,_,[],rfl,by rw [HPq.out],Or.inl rfl,fun p hp=>(by cases hp)⟩,HOk.out⟩
    case neg =>
     have d1:decide (vc5=1)=false:=by simp [hc1]
     have d2:(vc5 == 1)=false:=by simp [hc1]
     go_wp2_with (go_at_call 82;refine HCn.out.mono ?_;rintro e w2 ⟨rfl,hw2⟩;obtain rfl:=hw2.symm)
     go_ret
     exact ⟨⟨some ⟨b,o + 2,none⟩,vc5 - 1,r,by simp,by rw [HPq.out],HTl.out,fun p hp=>HI.out p (List.mem_cons_of_mem _ hp)⟩,HOk.out⟩
end Go.Proofs.YtaioaojfdngfdaaGreatDoor
