/- The reader of a set's text, by the program: all of it. Conditions: those of each theorem. -/
import Derived.Test.YtaioaojfdngfdaaGreatDoorPg10
import Derived.Deep.LoopGhost
set_option linter.unusedVariables false
set_option linter.unusedSimpArgs false
set_option maxHeartbeats 6400000
namespace Go.Proofs.YtaioaojfdngfdaaGreatDoor
open Go.RowKit
theorem read_no {s:ByteArray} (h:isL s 0 91=false):b7 (suf s 0)=(0,if 0=s.size then 3 else 2):=by
 by_cases hs:0 < s.size
 ·rw [if_neg (by omega),bL hs]
  have h1:¬ s[0]=91:=by rw [cS hs] at h;simpa using h
  simp [b7,h1]
 ·rw [if_pos (by omega),dU (by omega)]
  rfl
theorem read_not {s:ByteArray} (h:isL s 0 91=true) (h2:isL s 1 94=true):b7 (suf s 0)=(2 + (bF (suf s 2)).1,(bF (suf s 2)).2):=by
 rw [(fG h).1,(fG h2).1]
 simp [b7]
theorem read_yes {s:ByteArray} (h:isL s 0 91=true) (h2:isL s 1 94=false):b7 (suf s 0)=(1 + (bF (suf s 1)).1,(bF (suf s 1)).2):=by
 rw [(fG h).1]
 by_cases h1:1 < s.size
 ·rw [bL h1]
  have h3:¬ s[1]=94:=by rw [cS h1] at h2;simpa using h2
  simp [b7,h3]
 ·rw [dU (show s.size≤0 + 1 by omega)]
  simp [b7]
theorem RAt.drew {w:World} {r:Nat} {s:ByteArray} {a b:Nat} (h:RAt w r s a b):RAt w.drew r s a b:=Blk.drew h
def vI (s:ByteArray) (q p b:Nat):Prop:=q≤p∧p≤s.size∧((b≠0∧bF (suf s q)=(p - q,b))∨(b=0∧isL s p 93=true∧bF (suf s q)=(p - q + 1,0))∨(b=0∧isL s p 93=false∧bF (suf s q)=(p - q + (bF (suf s p)).1,(bF (suf s p)).2)))
theorem iS {s:ByteArray} {q p:Nat} (h1:q≤p) (h2:p≤s.size) (h3:bF (suf s q)=(p - q + (bF (suf s p)).1,(bF (suf s p)).2)):vI s q (p + (bH (suf s p)).1) (bH (suf s p)).2:=by
 have h4:=iC (suf s p)
 rw [eS] at h4
 refine ⟨by omega,by omega,?_⟩
 by_cases hb:(bH (suf s p)).2=0
 ·by_cases hd:isL s (p + (bH (suf s p)).1) 93=true
  ·refine Or.inr (Or.inl ⟨hb,hd,?_⟩)
   rw [h3,jE (r:=suf s (p + (bH (suf s p)).1 + 1)) hb (by rw [dS,(fG hd).1])]
   simp only [Prod.mk.injEq,and_true]
   omega
  ·have hd':isL s (p + (bH (suf s p)).1) 93=false:=by simpa using hd
   refine Or.inr (Or.inr ⟨hb,hd',?_⟩)
   rw [h3,jF hb (fun r=>by rw [dS];exact vU hd' r),dS]
   simp only [Prod.mk.injEq,and_true]
   omega
 ·refine Or.inl ⟨hb,?_⟩
  rw [h3,kN hb]
  simp only [Prod.mk.injEq,and_true]
  omega
set_option maxRecDepth 100000 in
theorem whole_c {w:World} {r:Nat} {s:ByteArray} (h:RAt w r s 0 0) (hs:s.size≤9223372036854775807) :
 Calls Tryz.prog 246 #[.pointer (some ⟨r,0,none⟩)] w (lX w r s (b7 (suf s 0)).1 (b7 (suf s 0)).2):=by
 have hrl:=h.lt
 obtain ⟨W,hW⟩:∃ W,W=w.alloc (.cells #[.int .u64 0,.int .u64 0,.int .u64 0,.int .u64 0] 249):=⟨_,rfl⟩
 have HW:=hide hW
 have HR:=hide (show RAt W r s 0 0 by rw [hW];exact RAt.only (S:=fun _=>False) h ((Only.refl _ w).alloc _) (fun h=>h))
 have HO:=hide (show Only (· = r) w W by rw [hW];exact (Only.refl _ w).alloc _)
 have HG:=hide (show Blk W w.heap.size 249 #[.int .u64 0,.int .u64 0,.int .u64 0,.int .u64 0] by rw [hW];exact Blk.new w 249 _)
 have hrl':¬ r=w.heap.size:=by omega
 have hrg:¬ w.heap.size=r:=by omega
 have HI:=hide (fun (w':World) (p b:Nat) (n:Int) (v:Bool) (h':RAt w' r s p b) (hp:p≤s.size) (hv:IsV s p n v)=>isv_q h' hs hp hv)
 have HST:=hide (fun (w':World) (h':RAt w' r s 0 0)=>stop_c h' hs (Nat.zero_le _))
 have HPt:=hide (fun (w':World) (p:Nat) (h':RAt w' r s p 0) (hp:p≤s.size)=>part_c h' hs hp)
 clear hW h
 obtain ⟨⟨g0,g1,g2⟩,f0,f1,f2⟩:=HR.out.cells
 cases h91:isL s 0 91 with
 | false =>
  have HX:=hide (read_no h91)
  have v91:IsV s 0 91 false:=⟨by decide,by decide,h91⟩
  clear h91
  go_enter Tryz.func246,Tryz.ntmps246
  go_upto_region 1 with fail
  change Code.wp _ _ _ _ (w.alloc (.cells #[.int .u64 0,.int .u64 0,.int .u64 0,.int .u64 0] 249))
  rw [← HW.out]
  go_wp2_with fail
  refine (HI.out _ _ _ _ _ HR.out (Nat.zero_le _) v91).mono ?_
  rintro e w3 ⟨rfl,m0,hq⟩
  replace HR:=hide (show RAt w3 r s 0 0 by rw [hq];exact HR.out.drewN _)
  replace HO:=hide (show Only (· = r) w w3 by rw [hq];exact HO.out.drewN _)
  replace HG:=hide (show Blk w3 w.heap.size 249 #[.int .u64 0,.int .u64 0,.int .u64 0,.int .u64 0] by rw [hq];exact HG.out.drewN _)
  clear hq g0 g1 g2 f0 f1 f2
  obtain ⟨⟨g0,g1,g2⟩,f0,f1,f2⟩:=HR.out.cells
  go_wp2_with fail
  refine (HST.out _ HR.out).mono ?_
  rintro e w4 ⟨rfl,hr4,ho4⟩
  replace HG:=hide (HG.out.only ho4 hrg)
  replace HO:=hide (HO.out.trans ho4)
  replace HR:=hide hr4
  clear hr4 ho4 g0 g1 g2 f0 f1 f2
  obtain ⟨⟨k0,k1,k2,k3⟩,l0,l1,l2,l3⟩:=HG.out.four
  go_wp2_with fail
  clear k0 k1 k2 k3 l0 l1 l2 l3
  rw [dW]
  have r2:=HG.out.put [.int .u64 0,.int .u64 0,.int .u64 0,.int .u64 0] rfl
  have r3:=hide (bC [.int .u64 0,.int .u64 0,.int .u64 0,.int .u64 0] 0 HO.out (Nat.le_refl w.heap.size))
  have r4:=hide (HR.out.only (aP [.int .u64 0,.int .u64 0,.int .u64 0,.int .u64 0] 0 w4 w.heap.size) hrl')
  obtain ⟨wz,hz⟩:∃ wz,wz=aE w4 w.heap.size 0 [.int .u64 0,.int .u64 0,.int .u64 0,.int .u64 0]:=⟨_,rfl⟩
  rw [← hz] at r2 r3 r4 ⊢
  clear hz
  obtain ⟨⟨k0,k1,k2,k3⟩,_⟩:=r2.four
  refine bodyPost_ret (v:=.agg #[.int .u64 0,.int .u64 0,.int .u64 0,.int .u64 0]) (by simp [results,Tryz.results246,go_sem,k0,k1,k2,k3]) rfl ?_
  rw [HX.out]
  exact ⟨0,0,0,0,rfl,r4.out,r3.out⟩
 | true =>
  have v91:IsV s 0 91 true:=⟨by decide,by decide,h91⟩
  have hsz:0 < s.size:=(fG h91).2
  have u1:IntKind.i64.wrap ((0:Int) + 1)=1:=by decide
  cases h94:isL s 1 94 with
  | false =>
   have v94:IsV s 1 94 false:=⟨by decide,by decide,h94⟩
   have HX:=hide (read_yes h91 h94)
   have hq0:1≤s.size:=by omega
   clear h91 h94
   go_enter Tryz.func246,Tryz.ntmps246
   go_upto_region 1 with fail
   change Code.wp _ _ _ _ (w.alloc (.cells #[.int .u64 0,.int .u64 0,.int .u64 0,.int .u64 0] 249))
   rw [← HW.out]
   go_wp2_with fail
   refine (HI.out _ _ _ _ _ HR.out (Nat.zero_le _) v91).mono ?_
   rintro e w3 ⟨rfl,m0,hq⟩
   replace HR:=hide (show RAt w3 r s 0 0 by rw [hq];exact HR.out.drewN _)
   replace HO:=hide (show Only (· = r) w w3 by rw [hq];exact HO.out.drewN _)
   replace HG:=hide (show Blk w3 w.heap.size 249 #[.int .u64 0,.int .u64 0,.int .u64 0,.int .u64 0] by rw [hq];exact HG.out.drewN _)
   clear hq g0 g1 g2 f0 f1 f2
   obtain ⟨⟨g0,g1,g2⟩,f0,f1,f2⟩:=HR.out.cells
   go_wp2_with fail
   obtain ⟨w4,hw4⟩:∃ w4,w4=w3.setCell ⟨r,1,none⟩ (.int .i64 1):=⟨_,rfl⟩
   replace HG:=hide (show Blk w4 w.heap.size 249 #[.int .u64 0,.int .u64 0,.int .u64 0,.int .u64 0] by rw [hw4];exact HG.out.only ((Only.refl (· = r) w3).setCell (Or.inl rfl) _) hrg)
   replace HO:=hide (show Only (· = r) w w4 by rw [hw4];exact HO.out.setCell (Or.inl rfl) _)
   replace HR:=hide (show RAt w4 r s 1 0 by rw [hw4];exact HR.out.at_ 1)
   rw [← hw4]
   clear hw4 g0 g1 g2 f0 f1 f2
   obtain ⟨⟨g0,g1,g2⟩,f0,f1,f2⟩:=HR.out.cells
   refine (HI.out _ _ _ _ _ HR.out (by omega) v94).mono ?_
   rintro e w5 ⟨rfl,m0,hq⟩
   replace HR:=hide (show RAt w5 r s 1 0 by rw [hq];exact HR.out.drewN _)
   replace HO:=hide (show Only (· = r) w w5 by rw [hq];exact HO.out.drewN _)
   replace HG:=hide (show Blk w5 w.heap.size 249 #[.int .u64 0,.int .u64 0,.int .u64 0,.int .u64 0] by rw [hq];exact HG.out.drewN _)
   clear hq g0 g1 g2 f0 f1 f2
   obtain ⟨⟨g0,g1,g2⟩,f0,f1,f2⟩:=HR.out.cells
   go_wp2_with fail
   have HAF:=hide (iS (s:=s) (q:=1) (p:=1) (Nat.le_refl _) hq0 (by simp))
   refine (HPt.out _ _ HR.out hq0).mono ?_
   rintro e wS ⟨x0,x1,x2,x3,rfl,hrS,hoS⟩
   obtain ⟨m,b,hmb⟩:∃ m b,bH (suf s 1)=(m,b):=⟨_,_,rfl⟩
   rw [hmb] at hrS HAF
   simp only at hrS HAF
   replace HG:=hide (HG.out.only hoS hrg)
   replace HO:=hide (HO.out.trans hoS)
   replace HR:=hide hrS
   clear hrS hoS hmb g0 g1 g2 f0 f1 f2
   unfold setA
   have hgS:¬ wS.heap.size=r:=by have:=HR.out.lt;omega
   have hgS2:¬ wS.heap.size=w.heap.size:=by have:=HG.out.lt;omega
   have hgS3:¬ w.heap.size=wS.heap.size:=fun h=>hgS2 h.symm
   have hwS:w.heap.size≤wS.heap.size:=by have:=HG.out.lt;omega
   have HR0:=hide (show RAt (wS.alloc (.cells #[.int .u64 x0,.int .u64 x1,.int .u64 x2,.int .u64 x3] 249)) r s (1 + m) b from RAt.only (S:=fun _=>False) HR.out ((Only.refl _ wS).alloc _) (fun h=>h))
   have HG0:=hide (show Blk (wS.alloc (.cells #[.int .u64 x0,.int .u64 x1,.int .u64 x2,.int .u64 x3] 249)) w.heap.size 249 #[.int .u64 0,.int .u64 0,.int .u64 0,.int .u64 0] from HG.out.alloc _)
   have HO0:=hide (show Only (· = r) w (wS.alloc (.cells #[.int .u64 x0,.int .u64 x1,.int .u64 x2,.int .u64 x3] 249)) from HO.out.alloc _)
   have HQ0:=hide (show Blk (wS.alloc (.cells #[.int .u64 x0,.int .u64 x1,.int .u64 x2,.int .u64 x3] 249)) wS.heap.size 249 #[.int .u64 x0,.int .u64 x1,.int .u64 x2,.int .u64 x3] from Blk.new wS 249 _)
   clear HR HG HO
   go_wp2_with fail
   go_loopg [] (2 * (s.size - (1 + m)) + (if b=0 then 1 else 0)) (fun gk wr=>∃ p b x0 x1 x2 x3,Hid (RAt wr r s p b)∧Hid (Only (· = r) w wr)∧Hid (Blk wr w.heap.size 249 #[.int .u64 0,.int .u64 0,.int .u64 0,.int .u64 0])∧Hid (Blk wr wS.heap.size 249 #[.int .u64 x0,.int .u64 x1,.int .u64 x2,.int .u64 x3])∧Hid (vI s 1 p b)∧gk=2 * (s.size - p) + (if b=0 then 1 else 0))
   case atStart=>exact ⟨1 + m,b,x0,x1,x2,x3,HR0,HO0,HG0,HQ0,hide HAF,rfl⟩
   case round =>
    clear HR0 HO0 HG0 HQ0 HAF
    obtain ⟨p,b,x0,x1,x2,x3,HR,HO,HG,HQ,HA,hgk⟩:=hrel
    have hA:=HA.out
    obtain ⟨hp1,hp2,hA⟩:=hA
    obtain ⟨⟨g0,g1,g2⟩,f0,f1,f2⟩:=HR.out.cells
    rcases hA with ⟨hb,hP⟩ | ⟨rfl,hd,hP⟩ | ⟨rfl,hd,hP⟩
    ·have HP:=hide (show b7 (suf s 0)=(p,b) by rw [HX.out,hP];simp only [Prod.mk.injEq,and_true];omega)
     have hbe:((b:Int) == 0)=false:=by simpa using hb
     have hbn:((b:Int) != 0)=true:=by simpa using hb
     obtain ⟨⟨k0,k1,k2,k3⟩,l0,l1,l2,l3⟩:=HG.out.four
     clear hP hb HX
     go_wp2_with fail
     clear k0 k1 k2 k3 l0 l1 l2 l3
     rw [dW]
     have r2:=HG.out.put [.int .u64 0,.int .u64 0,.int .u64 0,.int .u64 0] rfl
     have r3:=hide (bC [.int .u64 0,.int .u64 0,.int .u64 0,.int .u64 0] 0 HO.out (Nat.le_refl w.heap.size))
     have r4:=hide (HR.out.only (aP [.int .u64 0,.int .u64 0,.int .u64 0,.int .u64 0] 0 wr w.heap.size) hrl')
     obtain ⟨wz,hz⟩:∃ wz,wz=aE wr w.heap.size 0 [.int .u64 0,.int .u64 0,.int .u64 0,.int .u64 0]:=⟨_,rfl⟩
     rw [← hz] at r2 r3 r4 ⊢
     clear hz
     obtain ⟨⟨k0,k1,k2,k3⟩,_⟩:=r2.four
     refine bodyPost_ret (v:=.agg #[.int .u64 0,.int .u64 0,.int .u64 0,.int .u64 0]) (by simp [results,Tryz.results246,go_sem,k0,k1,k2,k3]) rfl ?_
     rw [HP.out]
     exact ⟨0,0,0,0,rfl,r4.out,r3.out⟩
    ·have HP:=hide (show b7 (suf s 0)=(p + 1,0) by rw [HX.out,hP];simp only [Prod.mk.injEq,and_true];omega)
     have v93:IsV s p 93 true:=⟨by decide,by decide,hd⟩
     have hlt:=(fG hd).2
     have w1:IntKind.i64.wrap ((p:Int) + 1)=(p:Int) + 1:=IntWalk.i64_in _ (by omega)
     clear hP hd HX
     go_wp2_with fail
     refine (HI.out _ _ _ _ _ HR.out hp2 v93).mono ?_
     rintro e w7 ⟨rfl,m0,hq⟩
     replace HR:=hide (show RAt w7 r s p 0 by rw [hq];exact HR.out.drewN _)
     replace HO:=hide (show Only (· = r) w w7 by rw [hq];exact HO.out.drewN _)
     replace HG:=hide (show Blk w7 w.heap.size 249 #[.int .u64 0,.int .u64 0,.int .u64 0,.int .u64 0] by rw [hq];exact HG.out.drewN _)
     replace HQ:=hide (show Blk w7 wS.heap.size 249 #[.int .u64 x0,.int .u64 x1,.int .u64 x2,.int .u64 x3] by rw [hq];exact HQ.out.drewN _)
     clear hq g0 g1 g2 f0 f1 f2
     obtain ⟨⟨g0,g1,g2⟩,f0,f1,f2⟩:=HR.out.cells
     obtain ⟨⟨k0,k1,k2,k3⟩,l0,l1,l2,l3⟩:=HG.out.four
     obtain ⟨⟨j0,j1,j2,j3⟩,i0,i1,i2,i3⟩:=HQ.out.four
     replace HG:=hide (show Blk (w7.setCell ⟨r,1,none⟩ (.int .i64 ((p:Int) + 1))) w.heap.size 249 #[.int .u64 0,.int .u64 0,.int .u64 0,.int .u64 0] from HG.out.only ((Only.refl (· = r) w7).setCell (Or.inl rfl) _) hrg)
     replace HO:=hide (show Only (· = r) w (w7.setCell ⟨r,1,none⟩ (.int .i64 ((p:Int) + 1))) from HO.out.setCell (Or.inl rfl) _)
     replace HR:=hide (show RAt (w7.setCell ⟨r,1,none⟩ (.int .i64 ((p:Int) + 1))) r s (p + 1) 0 from HR.out.at_ (p + 1))
     go_wp2_with fail
     clear k0 k1 k2 k3 l0 l1 l2 l3 j0 j1 j2 j3 i0 i1 i2 i3
     rw [dW]
     have r2:=HG.out.put [.int .u64 x0,.int .u64 x1,.int .u64 x2,.int .u64 x3] rfl
     have r3:=hide (bC [.int .u64 x0,.int .u64 x1,.int .u64 x2,.int .u64 x3] 0 HO.out (Nat.le_refl w.heap.size))
     have r4:=hide (HR.out.only (aP [.int .u64 x0,.int .u64 x1,.int .u64 x2,.int .u64 x3] 0 (w7.setCell ⟨r,1,none⟩ (.int .i64 ((p:Int) + 1))) w.heap.size) hrl')
     obtain ⟨wz,hz⟩:∃ wz,wz=aE (w7.setCell ⟨r,1,none⟩ (.int .i64 ((p:Int) + 1))) w.heap.size 0 [.int .u64 x0,.int .u64 x1,.int .u64 x2,.int .u64 x3]:=⟨_,rfl⟩
     rw [← hz] at r2 r3 r4 ⊢
     clear hz
     obtain ⟨⟨k0,k1,k2,k3⟩,_⟩:=r2.four
     refine bodyPost_ret (v:=.agg #[.int .u64 x0,.int .u64 x1,.int .u64 x2,.int .u64 x3]) (by simp [results,Tryz.results246,go_sem,k0,k1,k2,k3]) rfl ?_
     rw [HP.out]
     exact ⟨x0,x1,x2,x3,rfl,r4.out,r3.out⟩
    ·have HP:=hide hP
     have v93:IsV s p 93 false:=⟨by decide,by decide,hd⟩
     have HN:=hide (iS (s:=s) (q:=1) hp1 hp2 hP)
     have hms:=iC (suf s p)
     have hmp:=hJ (l:=suf s p)
     rw [eS] at hms
     obtain ⟨m,b,hmb⟩:∃ m b,bH (suf s p)=(m,b):=⟨_,_,rfl⟩
     have HPm:=hide (fun (w':World) (h':RAt w' r s p 0)=>show Calls Tryz.prog 252 #[.pointer (some ⟨r,0,none⟩)] w' (lX w' r s (p + m) b) from by
      have h:=HPt.out w' p h' hp2
      rw [hmb] at h
      exact h)
     rw [hmb] at HN hms hmp
     simp only at HN hms hmp
     have HMS:=hide hms
     have HMP:=hide hmp
     have HGK:=hide hgk
     clear hP hd HX hmb hms hmp hgk
     go_wp2_with fail
     refine (HI.out _ _ _ _ _ HR.out hp2 v93).mono ?_
     rintro e w7 ⟨rfl,m0,hq⟩
     replace HR:=hide (show RAt w7 r s p 0 by rw [hq];exact HR.out.drewN _)
     replace HO:=hide (show Only (· = r) w w7 by rw [hq];exact HO.out.drewN _)
     replace HG:=hide (show Blk w7 w.heap.size 249 #[.int .u64 0,.int .u64 0,.int .u64 0,.int .u64 0] by rw [hq];exact HG.out.drewN _)
     replace HQ:=hide (show Blk w7 wS.heap.size 249 #[.int .u64 x0,.int .u64 x1,.int .u64 x2,.int .u64 x3] by rw [hq];exact HQ.out.drewN _)
     clear hq g0 g1 g2 f0 f1 f2
     obtain ⟨⟨g0,g1,g2⟩,f0,f1,f2⟩:=HR.out.cells
     obtain ⟨⟨j0,j1,j2,j3⟩,i0,i1,i2,i3⟩:=HQ.out.four
     go_wp2_with fail
     go_region_with (first
      | (go_at_call 252
         refine (HPm.out _ HR.out.drew).mono ?_
         rintro e w8 ⟨y0,y1,y2,y3,rfl,hr8,ho8⟩
         unfold setA
         have HR8:=hide hr8
         have HO8:=hide (HO.out.drew.trans ho8)
         have HG8:=hide (HG.out.drew.only ho8 hrg)
         have HQ8:=hide (HQ.out.drew.only ho8 hgS)
         clear hr8 ho8
         obtain ⟨⟨k0,k1,k2,k3⟩,l0,l1,l2,l3⟩:=HQ8.out.four)
      | (go_at_call 253
         refine (or_c x0 x1 x2 x3 y0 y1 y2 y3 _).mono ?_
         rintro e w9 ⟨z0,z1,z2,z3,rfl,hb9⟩
         unfold setA
         have HR9:=hide (RAt.only (S:=fun _=>False) HR8.out (Only.of_below hb9 _) (fun h=>h))
         have HO9:=hide (HO8.out.trans (Only.of_below hb9 _))
         have HG9:=hide (HG8.out.below hb9)
         have HQ9:=hide (HQ8.out.below hb9)
         clear hb9
         obtain ⟨⟨m0,m1,m2,m3⟩,n0,n1,n2,n3⟩:=HQ9.out.four))
     all_goals
      go_wp2_with fail
      go_roundg (2 * (s.size - (p + m)) + (if b=0 then 1 else 0))
      case rel =>
       refine ⟨p + m,b,z0,z1,z2,z3,?_,?_,?_,?_,HN,rfl⟩
       ·exact hide (show RAt (aE w9 wS.heap.size 0 [.int .u64 z0,.int .u64 z1,.int .u64 z2,.int .u64 z3]) r s (p + m) b from RAt.only HR9.out (aP _ 0 w9 wS.heap.size) (fun h=>hgS h.symm))
       ·exact hide (show Only (· = r) w (aE w9 wS.heap.size 0 [.int .u64 z0,.int .u64 z1,.int .u64 z2,.int .u64 z3]) from bC _ 0 HO9.out hwS)
       ·exact hide (show Blk (aE w9 wS.heap.size 0 [.int .u64 z0,.int .u64 z1,.int .u64 z2,.int .u64 z3]) w.heap.size 249 #[.int .u64 0,.int .u64 0,.int .u64 0,.int .u64 0] from HG9.out.only (aP _ 0 w9 wS.heap.size) hgS3)
       ·exact hide (show Blk (aE w9 wS.heap.size 0 [.int .u64 z0,.int .u64 z1,.int .u64 z2,.int .u64 z3]) wS.heap.size 249 #[.int .u64 z0,.int .u64 z1,.int .u64 z2,.int .u64 z3] from HQ9.out.put [.int .u64 z0,.int .u64 z1,.int .u64 z2,.int .u64 z3] rfl)
      case measure =>
       have h1:=HMS.out
       have h2:=HMP.out
       have h3:=HGK.out
       simp only [if_true] at h3
       split<;>omega
  | true =>
   have v94:IsV s 1 94 true:=⟨by decide,by decide,h94⟩
   have HX:=hide (read_not h91 h94)
   have hq0:2≤s.size:=by have:=(fG h94).2;omega
   clear h91 h94
   go_enter Tryz.func246,Tryz.ntmps246
   go_upto_region 1 with fail
   change Code.wp _ _ _ _ (w.alloc (.cells #[.int .u64 0,.int .u64 0,.int .u64 0,.int .u64 0] 249))
   rw [← HW.out]
   go_wp2_with fail
   refine (HI.out _ _ _ _ _ HR.out (Nat.zero_le _) v91).mono ?_
   rintro e w3 ⟨rfl,m0,hq⟩
   replace HR:=hide (show RAt w3 r s 0 0 by rw [hq];exact HR.out.drewN _)
   replace HO:=hide (show Only (· = r) w w3 by rw [hq];exact HO.out.drewN _)
   replace HG:=hide (show Blk w3 w.heap.size 249 #[.int .u64 0,.int .u64 0,.int .u64 0,.int .u64 0] by rw [hq];exact HG.out.drewN _)
   clear hq g0 g1 g2 f0 f1 f2
   obtain ⟨⟨g0,g1,g2⟩,f0,f1,f2⟩:=HR.out.cells
   go_wp2_with fail
   obtain ⟨w4,hw4⟩:∃ w4,w4=w3.setCell ⟨r,1,none⟩ (.int .i64 1):=⟨_,rfl⟩
   replace HG:=hide (show Blk w4 w.heap.size 249 #[.int .u64 0,.int .u64 0,.int .u64 0,.int .u64 0] by rw [hw4];exact HG.out.only ((Only.refl (· = r) w3).setCell (Or.inl rfl) _) hrg)
   replace HO:=hide (show Only (· = r) w w4 by rw [hw4];exact HO.out.setCell (Or.inl rfl) _)
   replace HR:=hide (show RAt w4 r s 1 0 by rw [hw4];exact HR.out.at_ 1)
   rw [← hw4]
   clear hw4 g0 g1 g2 f0 f1 f2
   obtain ⟨⟨g0,g1,g2⟩,f0,f1,f2⟩:=HR.out.cells
   refine (HI.out _ _ _ _ _ HR.out (by omega) v94).mono ?_
   rintro e w5 ⟨rfl,m0,hq⟩
   replace HR:=hide (show RAt w5 r s 1 0 by rw [hq];exact HR.out.drewN _)
   replace HO:=hide (show Only (· = r) w w5 by rw [hq];exact HO.out.drewN _)
   replace HG:=hide (show Blk w5 w.heap.size 249 #[.int .u64 0,.int .u64 0,.int .u64 0,.int .u64 0] by rw [hq];exact HG.out.drewN _)
   clear hq g0 g1 g2 f0 f1 f2
   obtain ⟨⟨g0,g1,g2⟩,f0,f1,f2⟩:=HR.out.cells
   go_wp2_with fail
   obtain ⟨w6,hw6⟩:∃ w6,w6=w5.setCell ⟨r,1,none⟩ (.int .i64 2):=⟨_,rfl⟩
   replace HG:=hide (show Blk w6 w.heap.size 249 #[.int .u64 0,.int .u64 0,.int .u64 0,.int .u64 0] by rw [hw6];exact HG.out.only ((Only.refl (· = r) w5).setCell (Or.inl rfl) _) hrg)
   replace HO:=hide (show Only (· = r) w w6 by rw [hw6];exact HO.out.setCell (Or.inl rfl) _)
   replace HR:=hide (show RAt w6 r s 2 0 by rw [hw6];exact HR.out.at_ 2)
   rw [← hw6]
   clear hw6 g0 g1 g2 f0 f1 f2
   obtain ⟨⟨g0,g1,g2⟩,f0,f1,f2⟩:=HR.out.cells
   have HAF:=hide (iS (s:=s) (q:=2) (p:=2) (Nat.le_refl _) hq0 (by simp))
   refine (HPt.out _ _ HR.out hq0).mono ?_
   rintro e wS ⟨x0,x1,x2,x3,rfl,hrS,hoS⟩
   obtain ⟨m,b,hmb⟩:∃ m b,bH (suf s 2)=(m,b):=⟨_,_,rfl⟩
   rw [hmb] at hrS HAF
   simp only at hrS HAF
   replace HG:=hide (HG.out.only hoS hrg)
   replace HO:=hide (HO.out.trans hoS)
   replace HR:=hide hrS
   clear hrS hoS hmb g0 g1 g2 f0 f1 f2
   unfold setA
   have hgS:¬ wS.heap.size=r:=by have:=HR.out.lt;omega
   have hgS2:¬ wS.heap.size=w.heap.size:=by have:=HG.out.lt;omega
   have hgS3:¬ w.heap.size=wS.heap.size:=fun h=>hgS2 h.symm
   have hwS:w.heap.size≤wS.heap.size:=by have:=HG.out.lt;omega
   have HR0:=hide (show RAt (wS.alloc (.cells #[.int .u64 x0,.int .u64 x1,.int .u64 x2,.int .u64 x3] 249)) r s (2 + m) b from RAt.only (S:=fun _=>False) HR.out ((Only.refl _ wS).alloc _) (fun h=>h))
   have HG0:=hide (show Blk (wS.alloc (.cells #[.int .u64 x0,.int .u64 x1,.int .u64 x2,.int .u64 x3] 249)) w.heap.size 249 #[.int .u64 0,.int .u64 0,.int .u64 0,.int .u64 0] from HG.out.alloc _)
   have HO0:=hide (show Only (· = r) w (wS.alloc (.cells #[.int .u64 x0,.int .u64 x1,.int .u64 x2,.int .u64 x3] 249)) from HO.out.alloc _)
   have HQ0:=hide (show Blk (wS.alloc (.cells #[.int .u64 x0,.int .u64 x1,.int .u64 x2,.int .u64 x3] 249)) wS.heap.size 249 #[.int .u64 x0,.int .u64 x1,.int .u64 x2,.int .u64 x3] from Blk.new wS 249 _)
   clear HR HG HO
   go_wp2_with fail
   go_loopg [] (2 * (s.size - (2 + m)) + (if b=0 then 1 else 0)) (fun gk wr=>∃ p b x0 x1 x2 x3,Hid (RAt wr r s p b)∧Hid (Only (· = r) w wr)∧Hid (Blk wr w.heap.size 249 #[.int .u64 0,.int .u64 0,.int .u64 0,.int .u64 0])∧Hid (Blk wr wS.heap.size 249 #[.int .u64 x0,.int .u64 x1,.int .u64 x2,.int .u64 x3])∧Hid (vI s 2 p b)∧gk=2 * (s.size - p) + (if b=0 then 1 else 0))
   case atStart=>exact ⟨2 + m,b,x0,x1,x2,x3,HR0,HO0,HG0,HQ0,hide HAF,rfl⟩
   case round =>
    clear HR0 HO0 HG0 HQ0 HAF
    obtain ⟨p,b,x0,x1,x2,x3,HR,HO,HG,HQ,HA,hgk⟩:=hrel
    have hA:=HA.out
    obtain ⟨hp1,hp2,hA⟩:=hA
    obtain ⟨⟨g0,g1,g2⟩,f0,f1,f2⟩:=HR.out.cells
    rcases hA with ⟨hb,hP⟩ | ⟨rfl,hd,hP⟩ | ⟨rfl,hd,hP⟩
    ·have HP:=hide (show b7 (suf s 0)=(p,b) by rw [HX.out,hP];simp only [Prod.mk.injEq,and_true];omega)
     have hbe:((b:Int) == 0)=false:=by simpa using hb
     have hbn:((b:Int) != 0)=true:=by simpa using hb
     obtain ⟨⟨k0,k1,k2,k3⟩,l0,l1,l2,l3⟩:=HG.out.four
     clear hP hb HX
     go_wp2_with fail
     clear k0 k1 k2 k3 l0 l1 l2 l3
     rw [dW]
     have r2:=HG.out.put [.int .u64 0,.int .u64 0,.int .u64 0,.int .u64 0] rfl
     have r3:=hide (bC [.int .u64 0,.int .u64 0,.int .u64 0,.int .u64 0] 0 HO.out (Nat.le_refl w.heap.size))
     have r4:=hide (HR.out.only (aP [.int .u64 0,.int .u64 0,.int .u64 0,.int .u64 0] 0 wr w.heap.size) hrl')
     obtain ⟨wz,hz⟩:∃ wz,wz=aE wr w.heap.size 0 [.int .u64 0,.int .u64 0,.int .u64 0,.int .u64 0]:=⟨_,rfl⟩
     rw [← hz] at r2 r3 r4 ⊢
     clear hz
     obtain ⟨⟨k0,k1,k2,k3⟩,_⟩:=r2.four
     refine bodyPost_ret (v:=.agg #[.int .u64 0,.int .u64 0,.int .u64 0,.int .u64 0]) (by simp [results,Tryz.results246,go_sem,k0,k1,k2,k3]) rfl ?_
     rw [HP.out]
     exact ⟨0,0,0,0,rfl,r4.out,r3.out⟩
    ·have HP:=hide (show b7 (suf s 0)=(p + 1,0) by rw [HX.out,hP];simp only [Prod.mk.injEq,and_true];omega)
     have v93:IsV s p 93 true:=⟨by decide,by decide,hd⟩
     have hlt:=(fG hd).2
     have w1:IntKind.i64.wrap ((p:Int) + 1)=(p:Int) + 1:=IntWalk.i64_in _ (by omega)
     clear hP hd HX
     go_wp2_with fail
     refine (HI.out _ _ _ _ _ HR.out hp2 v93).mono ?_
     rintro e w7 ⟨rfl,m0,hq⟩
     replace HR:=hide (show RAt w7 r s p 0 by rw [hq];exact HR.out.drewN _)
     replace HO:=hide (show Only (· = r) w w7 by rw [hq];exact HO.out.drewN _)
     replace HG:=hide (show Blk w7 w.heap.size 249 #[.int .u64 0,.int .u64 0,.int .u64 0,.int .u64 0] by rw [hq];exact HG.out.drewN _)
     replace HQ:=hide (show Blk w7 wS.heap.size 249 #[.int .u64 x0,.int .u64 x1,.int .u64 x2,.int .u64 x3] by rw [hq];exact HQ.out.drewN _)
     clear hq g0 g1 g2 f0 f1 f2
     obtain ⟨⟨g0,g1,g2⟩,f0,f1,f2⟩:=HR.out.cells
     obtain ⟨⟨k0,k1,k2,k3⟩,l0,l1,l2,l3⟩:=HG.out.four
     obtain ⟨⟨j0,j1,j2,j3⟩,i0,i1,i2,i3⟩:=HQ.out.four
     replace HG:=hide (show Blk (w7.setCell ⟨r,1,none⟩ (.int .i64 ((p:Int) + 1))) w.heap.size 249 #[.int .u64 0,.int .u64 0,.int .u64 0,.int .u64 0] from HG.out.only ((Only.refl (· = r) w7).setCell (Or.inl rfl) _) hrg)
     replace HO:=hide (show Only (· = r) w (w7.setCell ⟨r,1,none⟩ (.int .i64 ((p:Int) + 1))) from HO.out.setCell (Or.inl rfl) _)
     replace HR:=hide (show RAt (w7.setCell ⟨r,1,none⟩ (.int .i64 ((p:Int) + 1))) r s (p + 1) 0 from HR.out.at_ (p + 1))
     go_wp2_with fail
     clear k0 k1 k2 k3 l0 l1 l2 l3 j0 j1 j2 j3 i0 i1 i2 i3
     refine (negate_c x0 x1 x2 x3 _).mono ?_
     rintro e w9 ⟨n0,n1,n2,n3,rfl,hb9⟩
     unfold setA
     replace HG:=hide (HG.out.below hb9)
     replace HO:=hide (HO.out.trans (Only.of_below hb9 _))
     replace HR:=hide (RAt.only (S:=fun _=>False) HR.out (Only.of_below hb9 _) (fun h=>h))
     obtain ⟨⟨k0,k1,k2,k3⟩,l0,l1,l2,l3⟩:=HG.out.four
     clear hb9 g0 g1 g2 f0 f1 f2
     go_wp2_with fail
     clear k0 k1 k2 k3 l0 l1 l2 l3
     rw [dW]
     have r2:=HG.out.put [.int .u64 n0,.int .u64 n1,.int .u64 n2,.int .u64 n3] rfl
     have r3:=hide (bC [.int .u64 n0,.int .u64 n1,.int .u64 n2,.int .u64 n3] 0 HO.out (Nat.le_refl w.heap.size))
     have r4:=hide (HR.out.only (aP [.int .u64 n0,.int .u64 n1,.int .u64 n2,.int .u64 n3] 0 w9 w.heap.size) hrl')
     obtain ⟨wz,hz⟩:∃ wz,wz=aE w9 w.heap.size 0 [.int .u64 n0,.int .u64 n1,.int .u64 n2,.int .u64 n3]:=⟨_,rfl⟩
     rw [← hz] at r2 r3 r4 ⊢
     clear hz
     obtain ⟨⟨k0,k1,k2,k3⟩,_⟩:=r2.four
     refine bodyPost_ret (v:=.agg #[.int .u64 n0,.int .u64 n1,.int .u64 n2,.int .u64 n3]) (by simp [results,Tryz.results246,go_sem,k0,k1,k2,k3]) rfl ?_
     rw [HP.out]
     exact ⟨n0,n1,n2,n3,rfl,r4.out,r3.out⟩
    ·have HP:=hide hP
     have v93:IsV s p 93 false:=⟨by decide,by decide,hd⟩
     have HN:=hide (iS (s:=s) (q:=2) hp1 hp2 hP)
     have hms:=iC (suf s p)
     have hmp:=hJ (l:=suf s p)
     rw [eS] at hms
     obtain ⟨m,b,hmb⟩:∃ m b,bH (suf s p)=(m,b):=⟨_,_,rfl⟩
     have HPm:=hide (fun (w':World) (h':RAt w' r s p 0)=>show Calls Tryz.prog 252 #[.pointer (some ⟨r,0,none⟩)] w' (lX w' r s (p + m) b) from by
      have h:=HPt.out w' p h' hp2
      rw [hmb] at h
      exact h)
     rw [hmb] at HN hms hmp
     simp only at HN hms hmp
     have HMS:=hide hms
     have HMP:=hide hmp
     have HGK:=hide hgk
     clear hP hd HX hmb hms hmp hgk
     go_wp2_with fail
     refine (HI.out _ _ _ _ _ HR.out hp2 v93).mono ?_
     rintro e w7 ⟨rfl,m0,hq⟩
     replace HR:=hide (show RAt w7 r s p 0 by rw [hq];exact HR.out.drewN _)
     replace HO:=hide (show Only (· = r) w w7 by rw [hq];exact HO.out.drewN _)
     replace HG:=hide (show Blk w7 w.heap.size 249 #[.int .u64 0,.int .u64 0,.int .u64 0,.int .u64 0] by rw [hq];exact HG.out.drewN _)
     replace HQ:=hide (show Blk w7 wS.heap.size 249 #[.int .u64 x0,.int .u64 x1,.int .u64 x2,.int .u64 x3] by rw [hq];exact HQ.out.drewN _)
     clear hq g0 g1 g2 f0 f1 f2
     obtain ⟨⟨g0,g1,g2⟩,f0,f1,f2⟩:=HR.out.cells
     obtain ⟨⟨j0,j1,j2,j3⟩,i0,i1,i2,i3⟩:=HQ.out.four
     go_wp2_with fail
     go_region_with (first
      | (go_at_call 252
         refine (HPm.out _ HR.out.drew).mono ?_
         rintro e w8 ⟨y0,y1,y2,y3,rfl,hr8,ho8⟩
         unfold setA
         have HR8:=hide hr8
         have HO8:=hide (HO.out.drew.trans ho8)
         have HG8:=hide (HG.out.drew.only ho8 hrg)
         have HQ8:=hide (HQ.out.drew.only ho8 hgS)
         clear hr8 ho8
         obtain ⟨⟨k0,k1,k2,k3⟩,l0,l1,l2,l3⟩:=HQ8.out.four)
      | (go_at_call 253
         refine (or_c x0 x1 x2 x3 y0 y1 y2 y3 _).mono ?_
         rintro e w9 ⟨z0,z1,z2,z3,rfl,hb9⟩
         unfold setA
         have HR9:=hide (RAt.only (S:=fun _=>False) HR8.out (Only.of_below hb9 _) (fun h=>h))
         have HO9:=hide (HO8.out.trans (Only.of_below hb9 _))
         have HG9:=hide (HG8.out.below hb9)
         have HQ9:=hide (HQ8.out.below hb9)
         clear hb9
         obtain ⟨⟨m0,m1,m2,m3⟩,n0,n1,n2,n3⟩:=HQ9.out.four))
     all_goals
      go_wp2_with fail
      go_roundg (2 * (s.size - (p + m)) + (if b=0 then 1 else 0))
      case rel =>
       refine ⟨p + m,b,z0,z1,z2,z3,?_,?_,?_,?_,HN,rfl⟩
       ·exact hide (show RAt (aE w9 wS.heap.size 0 [.int .u64 z0,.int .u64 z1,.int .u64 z2,.int .u64 z3]) r s (p + m) b from RAt.only HR9.out (aP _ 0 w9 wS.heap.size) (fun h=>hgS h.symm))
       ·exact hide (show Only (· = r) w (aE w9 wS.heap.size 0 [.int .u64 z0,.int .u64 z1,.int .u64 z2,.int .u64 z3]) from bC _ 0 HO9.out hwS)
       ·exact hide (show Blk (aE w9 wS.heap.size 0 [.int .u64 z0,.int .u64 z1,.int .u64 z2,.int .u64 z3]) w.heap.size 249 #[.int .u64 0,.int .u64 0,.int .u64 0,.int .u64 0] from HG9.out.only (aP _ 0 w9 wS.heap.size) hgS3)
       ·exact hide (show Blk (aE w9 wS.heap.size 0 [.int .u64 z0,.int .u64 z1,.int .u64 z2,.int .u64 z3]) wS.heap.size 249 #[.int .u64 z0,.int .u64 z1,.int .u64 z2,.int .u64 z3] from HQ9.out.put [.int .u64 z0,.int .u64 z1,.int .u64 z2,.int .u64 z3] rfl)
      case measure =>
       have h1:=HMS.out
       have h2:=HMP.out
       have h3:=HGK.out
       simp only [if_true] at h3
       split<;>omega
end Go.Proofs.YtaioaojfdngfdaaGreatDoor
