/- Parts of a chain of lemmas: Read, Item. Conditions: those of each theorem. -/
import Derived.Test.YtaioaojfdngfdaaGreatDoorPg11
import Derived.BigRegion
set_option linter.unusedVariables false
set_option linter.unusedSimpArgs false
set_option maxHeartbeats 6400000
namespace Go.Proofs.YtaioaojfdngfdaaGreatDoor
open Go.RowKit
theorem mY (s:ByteArray):suf s 0=s.data.toList:=rfl
set_option maxRecDepth 100000 in
theorem Read_c (s:ByteArray) (w:World) (hs:s.size≤9223372036854775807):Calls Tryz.prog 234 #[.string s] w fun e w' =>
 ∃ a b c d:Int,e=.returned (.tuple #[.agg (setA a b c d),.int .i64 (b7 s.data.toList).1,.int .i64 (b7 s.data.toList).2])∧Only aA w w':=by
 obtain ⟨at_,bad,hrd⟩:∃ at_ bad,b7 s.data.toList=(at_,bad):=⟨_,_,rfl⟩
 obtain ⟨W,hW⟩:∃ W,W=(w.alloc (.cells #[.int .u64 0,.int .u64 0,.int .u64 0,.int .u64 0] 249)).alloc (.cells #[.string s,.int .i64 0,.int .i64 0] 320):=⟨_,rfl⟩
 have HW:=hide hW
 have HR:=hide (show RAt W (w.heap.size + 1) s 0 0 by rw [hW];exact Blk.new' (by simp))
 have HB:=hide (show Only aA w W by rw [hW];exact ((Only.refl _ w).alloc _).alloc _)
 have HG:=hide (show Blk W w.heap.size 249 #[.int .u64 0,.int .u64 0,.int .u64 0,.int .u64 0] by rw [hW];exact (Blk.new w 249 _).alloc _)
 have HC:=hide (show Calls Tryz.prog 246 #[.pointer (some ⟨w.heap.size + 1,0,none⟩)] W (lX W (w.heap.size + 1) s at_ bad) from by
  have h:=whole_c HR.out hs
  rw [mY,hrd] at h
  exact h)
 rw [hrd]
 clear hW hrd
 go_enter Tryz.func234,Tryz.ntmps234
 go_upto_region 2 with fail
 change Code.wp _ _ _ _ ((w.alloc (.cells #[.int .u64 0,.int .u64 0,.int .u64 0,.int .u64 0] 249)).alloc (.cells #[.string s,.int .i64 0,.int .i64 0] 320))
 rw [← HW.out]
 go_wp2_with fail
 refine HC.out.mono ?_
 rintro e w2 ⟨q0,q1,q2,q3,rfl,hr2,ho2⟩
 unfold setA
 have HG3:=hide ((HG.out.only ho2 (by omega)).alloc (.cells #[.int .u64 q0,.int .u64 q1,.int .u64 q2,.int .u64 q3] 249))
 have HB3:=hide ((HB.out.fresh ho2 (fun i _ h=>Or.inr (by omega))).alloc (.cells #[.int .u64 q0,.int .u64 q1,.int .u64 q2,.int .u64 q3] 249))
 have HR3:=hide (Blk.alloc hr2 (.cells #[.int .u64 q0,.int .u64 q1,.int .u64 q2,.int .u64 q3] 249))
 have HS3:=hide (Blk.new w2 249 #[.int .u64 q0,.int .u64 q1,.int .u64 q2,.int .u64 q3])
 have hn1:¬ w2.heap.size=w.heap.size:=by have:=ho2.size;have:=HR.out.lt;omega
 have hn2:¬ w2.heap.size=w.heap.size + 1:=by have:=ho2.size;have:=HR.out.lt;omega
 clear ho2 hr2 HC HG HB HR
 go_upto_region 3 with fail
 change Code.wp _ _ _ _ (w2.alloc (.cells #[.int .u64 q0,.int .u64 q1,.int .u64 q2,.int .u64 q3] 249))
 obtain ⟨w3,hw3⟩:∃ w3,w3=w2.alloc (.cells #[.int .u64 q0,.int .u64 q1,.int .u64 q2,.int .u64 q3] 249):=⟨_,rfl⟩
 rw [← hw3] at HG3 HB3 HR3 HS3 ⊢
 clear hw3
 have hn3:¬ w.heap.size=w2.heap.size:=fun h=>hn1 h.symm
 have hn4:¬ w.heap.size + 1=w2.heap.size:=fun h=>hn2 h.symm
 obtain ⟨⟨g0,g1,g2⟩,f0,f1,f2⟩:=RAt.cells HR3.out
 obtain ⟨⟨k0,k1,k2,k3⟩,l0,l1,l2,l3⟩:=HG3.out.four
 obtain ⟨⟨j0,j1,j2,j3⟩,i0,i1,i2,i3⟩:=HS3.out.four
 by_cases hb:bad=0
 ·subst hb
  go_upto_region 4 with fail
  go_region
  clear k0 k1 k2 k3 l0 l1 l2 l3 j0 j1 j2 j3 i0 i1 i2 i3
  go_wp2_with fail
  rw [dW]
  have r2:=(HG3.out.put [.int .u64 q0,.int .u64 q1,.int .u64 q2,.int .u64 q3] rfl).drew
  have r3:=hide (bC [.int .u64 q0,.int .u64 q1,.int .u64 q2,.int .u64 q3] 0 HB3.out (Nat.le_refl w.heap.size)).drew
  obtain ⟨wz,hz⟩:∃ wz,wz=(aE w3 w.heap.size 0 [.int .u64 q0,.int .u64 q1,.int .u64 q2,.int .u64 q3]).drew:=⟨_,rfl⟩
  rw [← hz] at r2 r3 ⊢
  clear hz
  obtain ⟨⟨k0,k1,k2,k3⟩,_⟩:=r2.four
  refine bodyPost_ret (v:=.tuple #[.agg #[.int .u64 q0,.int .u64 q1,.int .u64 q2,.int .u64 q3],.int .i64 at_,.int .i64 (0:Nat)]) (by simp [results,Tryz.results234,go_sem,k0,k1,k2,k3]) rfl ?_
  exact ⟨q0,q1,q2,q3,rfl,r3.out⟩
 ·have hbe:((bad:Int) == 0)=false:=by simpa using hb
  go_upto_region 5 with fail
  go_region
  clear k0 k1 k2 k3 l0 l1 l2 l3 j0 j1 j2 j3 i0 i1 i2 i3
  go_wp2_with fail
  rw [dW]
  have r2:=(HG3.out.put [.int .u64 0,.int .u64 0,.int .u64 0,.int .u64 0] rfl).drew
  have r3:=hide (bC [.int .u64 0,.int .u64 0,.int .u64 0,.int .u64 0] 0 HB3.out (Nat.le_refl w.heap.size)).drew
  obtain ⟨wz,hz⟩:∃ wz,wz=(aE w3 w.heap.size 0 [.int .u64 0,.int .u64 0,.int .u64 0,.int .u64 0]).drew:=⟨_,rfl⟩
  rw [← hz] at r2 r3 ⊢
  clear hz
  obtain ⟨⟨k0,k1,k2,k3⟩,_⟩:=r2.four
  refine bodyPost_ret (v:=.tuple #[.agg #[.int .u64 0,.int .u64 0,.int .u64 0,.int .u64 0],.int .i64 at_,.int .i64 bad]) (by simp [results,Tryz.results234,go_sem,k0,k1,k2,k3]) rfl ?_
  exact ⟨0,0,0,0,rfl,r3.out⟩
structure ItM where
 run:Bool
 a:Int
 b:Int
 c:Int
 d:Int
def cC (x:ItM):List Value:=[.bool x.run,.int .u64 x.a,.int .u64 x.b,.int .u64 x.c,.int .u64 x.d]
def rU (x:ItM):Prop:=x.run=true→x.a=0∧x.b=0∧x.c=0∧x.d=0
def wK (l:List UInt8) (w:World) (e:Ending) (w':World):Prop :=
 ∃ x:ItM,e=.returned (.tuple #[.agg (cC x).toArray,.int .i64 (bM l).2.1,.int .i64 (bM l).2.2])∧x.run=(bM l).1∧rU x∧Only aA w w'
theorem yF {c:UInt8} {r:List UInt8} (h1:c≠42) (h2:c≠63) (h3:c≠91) (h4:c≠93) (h5:c≠37):bM (c :: r)=(false,1,0):=by
 simp [bM,h1,h2,h3,h4,h5]
theorem rX {a b:UInt8} (h:a≠b):((a.toNat:Int) == (b.toNat:Int))=false:=by
 rw [← pT];simp [h]
set_option maxRecDepth 100000 in
theorem item_c (s:ByteArray) (w:World) (h0:0 < s.size) (hs:s.size≤9223372036854775807):Calls Tryz.prog 223 #[.string s] w (wK s.data.toList w):=by
 obtain ⟨L,hL⟩:∃ L,L=s.data.toList:=⟨_,rfl⟩
 have hcons:L=s[0] :: suf s 1:=by rw [hL,← mY];exact bL h0
 have HRD:=hide (fun (w':World)=>Read_c s w' hs)
 rw [← hL] at HRD ⊢
 have HL:=hide hL
 have HG:=hide (Blk.new w 253 #[.bool false,.int .u64 0,.int .u64 0,.int .u64 0,.int .u64 0])
 have HO:=hide (show Only aA w (w.alloc (.cells #[.bool false,.int .u64 0,.int .u64 0,.int .u64 0,.int .u64 0] 253)) from (Only.refl _ w).alloc _)
 have j1:(0:Int) < (s.size:Int):=by omega
 have j2:(0:Int)≤(0:Int):=by omega
 clear hL
 obtain ⟨c,hc⟩:∃ c,c=s[0]:=⟨_,rfl⟩
 have hcn:(s[0]).toNat=c.toNat:=by rw [hc]
 rw [← hc] at hcons
 have HC:=hide hcons
 clear hcons
 by_cases h42:c=42
 ·have HI:=hide (show bM L=(true,1,0) by rw [HC.out,h42];rfl)
  have b42:((c.toNat:Int) == 42)=true:=by rw [h42];rfl
  clear h42 hc
  go_enter Tryz.func223,Tryz.ntmps223
  go_wp2_with fail
  have r2:=Blk.new w 253 #[.bool true,.int .u64 0,.int .u64 0,.int .u64 0,.int .u64 0]
  have r3:=hide (show Only aA w (w.alloc (.cells #[.bool true,.int .u64 0,.int .u64 0,.int .u64 0,.int .u64 0] 253)) from (Only.refl _ w).alloc _)
  obtain ⟨wz,hz⟩:∃ wz,wz=w.alloc (.cells #[.bool true,.int .u64 0,.int .u64 0,.int .u64 0,.int .u64 0] 253):=⟨_,rfl⟩
  rw [← hz] at r2 r3 ⊢
  clear hz
  obtain ⟨⟨k0,k1,k2,k3,k4⟩,_⟩:=r2.five
  refine bodyPost_ret (v:=.tuple #[.agg #[.bool true,.int .u64 0,.int .u64 0,.int .u64 0,.int .u64 0],.int .i64 (1:Nat),.int .i64 (0:Nat)]) (by simp [results,Tryz.results223,go_sem,k0,k1,k2,k3,k4]) rfl ?_
  refine ⟨⟨true,0,0,0,0⟩,by rw [HI.out];rfl,by rw [HI.out],fun _=>⟨rfl,rfl,rfl,rfl⟩,r3.out⟩
 have b42:((c.toNat:Int) == 42)=false:=rX (b:=42) h42
 by_cases h63:c=63
 ·have HI:=hide (show bM L=(false,1,0) by rw [HC.out,h63];rfl)
  have b63:((c.toNat:Int) == 63)=true:=by rw [h63];rfl
  clear h42 h63 hc
  go_enter Tryz.func223,Tryz.ntmps223
  go_wp2_with fail
  refine (vN 0 255 _ (by omega) (by omega)).mono ?_
  rintro e w4 ⟨q0,q1,q2,q3,rfl,hb⟩
  have hbo:=Only.of_below hb aA
  clear hb
  unfold setA
  replace HG:=hide (HG.out.only hbo (fun h=>h))
  replace HO:=hide (HO.out.trans hbo)
  obtain ⟨⟨g0,g1,g2,g3,g4⟩,f0,f1,f2,f3,f4⟩:=HG.out.five
  clear hbo
  go_wp2_with fail
  clear g0 g1 g2 g3 g4 f0 f1 f2 f3 f4
  rw [put5]
  have r2:=HG.out.put [.bool false,.int .u64 q0,.int .u64 q1,.int .u64 q2,.int .u64 q3] rfl
  have r3:=hide (bC [.bool false,.int .u64 q0,.int .u64 q1,.int .u64 q2,.int .u64 q3] 0 HO.out (Nat.le_refl w.heap.size))
  obtain ⟨wz,hz⟩:∃ wz,wz=aE w4 w.heap.size 0 [.bool false,.int .u64 q0,.int .u64 q1,.int .u64 q2,.int .u64 q3]:=⟨_,rfl⟩
  rw [← hz] at r2 r3 ⊢
  clear hz
  obtain ⟨⟨k0,k1,k2,k3,k4⟩,_⟩:=r2.five
  refine bodyPost_ret (v:=.tuple #[.agg #[.bool false,.int .u64 q0,.int .u64 q1,.int .u64 q2,.int .u64 q3],.int .i64 (1:Nat),.int .i64 (0:Nat)]) (by simp [results,Tryz.results223,go_sem,k0,k1,k2,k3,k4]) rfl ?_
  refine ⟨⟨false,q0,q1,q2,q3⟩,by rw [HI.out];rfl,by rw [HI.out],(by intro h;cases h),r3.out⟩
 have b63:((c.toNat:Int) == 63)=false:=rX (b:=63) h63
 by_cases h91:c=91
 ·have HI:=hide (show bM L=(false,b7 L) by rw [HC.out,h91];rfl)
  have b91:((c.toNat:Int) == 91)=true:=by rw [h91];rfl
  obtain ⟨at_,bad,hrd⟩:∃ at_ bad,b7 L=(at_,bad):=⟨_,_,rfl⟩
  rw [hrd] at HRD HI
  clear h42 h63 h91 hc hrd
  go_enter Tryz.func223,Tryz.ntmps223
  go_wp2_with fail
  refine (HRD.out _).mono ?_
  rintro e w4 ⟨q0,q1,q2,q3,rfl,hbo⟩
  unfold setA
  replace HG:=hide ((HG.out.only hbo (fun h=>h)).alloc (.cells #[.int .u64 q0,.int .u64 q1,.int .u64 q2,.int .u64 q3] 249))
  replace HO:=hide ((HO.out.trans hbo).alloc (.cells #[.int .u64 q0,.int .u64 q1,.int .u64 q2,.int .u64 q3] 249))
  have HS:=hide (Blk.new w4 249 #[.int .u64 q0,.int .u64 q1,.int .u64 q2,.int .u64 q3])
  go_upto_region 8 with fail
  change Code.wp _ _ _ _ (w4.alloc (.cells #[.int .u64 q0,.int .u64 q1,.int .u64 q2,.int .u64 q3] 249))
  obtain ⟨w5,hw5⟩:∃ w5,w5=w4.alloc (.cells #[.int .u64 q0,.int .u64 q1,.int .u64 q2,.int .u64 q3] 249):=⟨_,rfl⟩
  rw [← hw5] at HG HO HS ⊢
  clear hw5
  obtain ⟨⟨g0,g1,g2,g3,g4⟩,f0,f1,f2,f3,f4⟩:=HG.out.five
  obtain ⟨⟨j0,j1,j2,j3⟩,_⟩:=HS.out.four
  go_wp2_with fail
  clear g0 g1 g2 g3 g4 f0 f1 f2 f3 f4 j0 j1 j2 j3
  rw [put5]
  have r2:=HG.out.put [.bool false,.int .u64 q0,.int .u64 q1,.int .u64 q2,.int .u64 q3] rfl
  have r3:=hide (bC [.bool false,.int .u64 q0,.int .u64 q1,.int .u64 q2,.int .u64 q3] 0 HO.out (Nat.le_refl w.heap.size))
  obtain ⟨wz,hz⟩:∃ wz,wz=aE w5 w.heap.size 0 [.bool false,.int .u64 q0,.int .u64 q1,.int .u64 q2,.int .u64 q3]:=⟨_,rfl⟩
  rw [← hz] at r2 r3 ⊢
  clear hz
  obtain ⟨⟨k0,k1,k2,k3,k4⟩,_⟩:=r2.five
  refine bodyPost_ret (v:=.tuple #[.agg #[.bool false,.int .u64 q0,.int .u64 q1,.int .u64 q2,.int .u64 q3],.int .i64 at_,.int .i64 bad]) (by simp [results,Tryz.results223,go_sem,k0,k1,k2,k3,k4]) rfl ?_
  refine ⟨⟨false,q0,q1,q2,q3⟩,by rw [HI.out];rfl,by rw [HI.out],(by intro h;cases h),r3.out⟩
 have b91:((c.toNat:Int) == 91)=false:=rX (b:=91) h91
 by_cases h93:c=93
 ·have HI:=hide (show bM L=(false,0,2) by rw [HC.out,h93];rfl)
  have b93:((c.toNat:Int) == 93)=true:=by rw [h93];rfl
  clear h42 h63 h91 h93 hc
  go_enter Tryz.func223,Tryz.ntmps223
  go_wp2_with fail
  have r2:=Blk.new w 253 #[.bool false,.int .u64 0,.int .u64 0,.int .u64 0,.int .u64 0]
  have r3:=hide (show Only aA w (w.alloc (.cells #[.bool false,.int .u64 0,.int .u64 0,.int .u64 0,.int .u64 0] 253)) from (Only.refl _ w).alloc _)
  obtain ⟨wz,hz⟩:∃ wz,wz=w.alloc (.cells #[.bool false,.int .u64 0,.int .u64 0,.int .u64 0,.int .u64 0] 253):=⟨_,rfl⟩
  rw [← hz] at r2 r3 ⊢
  clear hz
  obtain ⟨⟨k0,k1,k2,k3,k4⟩,_⟩:=r2.five
  refine bodyPost_ret (v:=.tuple #[.agg #[.bool false,.int .u64 0,.int .u64 0,.int .u64 0,.int .u64 0],.int .i64 (0:Nat),.int .i64 (2:Nat)]) (by simp [results,Tryz.results223,go_sem,k0,k1,k2,k3,k4]) rfl ?_
  refine ⟨⟨false,0,0,0,0⟩,by rw [HI.out];rfl,by rw [HI.out],(by intro h;cases h),r3.out⟩
 have b93:((c.toNat:Int) == 93)=false:=rX (b:=93) h93
 by_cases h37:c=37
 ·have b37:((c.toNat:Int) == 37)=true:=by rw [h37];rfl
  by_cases hz1:s.size=1
  ·have HI:=hide (show bM L=(false,1,3) by rw [HC.out,h37,dU (by omega)];rfl)
   have z1:((s.size:Int) == 1)=true:=by rw [hz1];rfl
   clear h42 h63 h91 h93 h37 hc hz1
   go_enter Tryz.func223,Tryz.ntmps223
   go_wp2_with fail
   have r2:=Blk.new w 253 #[.bool false,.int .u64 0,.int .u64 0,.int .u64 0,.int .u64 0]
   have r3:=hide (show Only aA w (w.alloc (.cells #[.bool false,.int .u64 0,.int .u64 0,.int .u64 0,.int .u64 0] 253)) from (Only.refl _ w).alloc _)
   obtain ⟨wz,hz⟩:∃ wz,wz=w.alloc (.cells #[.bool false,.int .u64 0,.int .u64 0,.int .u64 0,.int .u64 0] 253):=⟨_,rfl⟩
   rw [← hz] at r2 r3 ⊢
   clear hz
   obtain ⟨⟨k0,k1,k2,k3,k4⟩,_⟩:=r2.five
   refine bodyPost_ret (v:=.tuple #[.agg #[.bool false,.int .u64 0,.int .u64 0,.int .u64 0,.int .u64 0],.int .i64 (1:Nat),.int .i64 (3:Nat)]) (by simp [results,Tryz.results223,go_sem,k0,k1,k2,k3,k4]) rfl ?_
   refine ⟨⟨false,0,0,0,0⟩,by rw [HI.out];rfl,by rw [HI.out],(by intro h;cases h),r3.out⟩
  ·have hlt1:1 < s.size:=by omega
   have HI:=hide (show bM L=(false,2,0) by rw [HC.out,h37,bL hlt1];rfl)
   have z1:((s.size:Int) == 1)=false:=by simp only [beq_eq_false_iff_ne,ne_eq];omega
   have j3:(1:Int) < (s.size:Int):=by omega
   have HSg:=hide (fun (w':World)=>sE (s[1]).toNat w' (by have:=(s[1]).toNat_lt;omega))
   clear h42 h63 h91 h93 h37 hc hz1
   go_enter Tryz.func223,Tryz.ntmps223
   go_wp2_with fail
   refine (HSg.out _).mono ?_
   rintro e w4 ⟨q0,q1,q2,q3,rfl,hb⟩
   have hbo:=Only.of_below hb aA
   clear hb
   unfold setA
   replace HG:=hide (HG.out.only hbo (fun h=>h))
   replace HO:=hide (HO.out.trans hbo)
   obtain ⟨⟨g0,g1,g2,g3,g4⟩,f0,f1,f2,f3,f4⟩:=HG.out.five
   clear hbo
   go_wp2_with fail
   clear g0 g1 g2 g3 g4 f0 f1 f2 f3 f4
   rw [put5]
   have r2:=HG.out.put [.bool false,.int .u64 q0,.int .u64 q1,.int .u64 q2,.int .u64 q3] rfl
   have r3:=hide (bC [.bool false,.int .u64 q0,.int .u64 q1,.int .u64 q2,.int .u64 q3] 0 HO.out (Nat.le_refl w.heap.size))
   obtain ⟨wz,hz⟩:∃ wz,wz=aE w4 w.heap.size 0 [.bool false,.int .u64 q0,.int .u64 q1,.int .u64 q2,.int .u64 q3]:=⟨_,rfl⟩
   rw [← hz] at r2 r3 ⊢
   clear hz
   obtain ⟨⟨k0,k1,k2,k3,k4⟩,_⟩:=r2.five
   refine bodyPost_ret (v:=.tuple #[.agg #[.bool false,.int .u64 q0,.int .u64 q1,.int .u64 q2,.int .u64 q3],.int .i64 (2:Nat),.int .i64 (0:Nat)]) (by simp [results,Tryz.results223,go_sem,k0,k1,k2,k3,k4]) rfl ?_
   refine ⟨⟨false,q0,q1,q2,q3⟩,by rw [HI.out];rfl,by rw [HI.out],(by intro h;cases h),r3.out⟩
 ·have HI:=hide (show bM L=(false,1,0) by rw [HC.out];exact yF h42 h63 h91 h93 h37)
  have b37:((c.toNat:Int) == 37)=false:=rX (b:=37) h37
  have HSg:=hide (fun (w':World)=>sE c.toNat w' (by have:=c.toNat_lt;omega))
  clear h42 h63 h91 h93 h37 hc
  go_enter Tryz.func223,Tryz.ntmps223
  go_wp2_with fail
  refine (HSg.out _).mono ?_
  rintro e w4 ⟨q0,q1,q2,q3,rfl,hb⟩
  have hbo:=Only.of_below hb aA
  clear hb
  unfold setA
  replace HG:=hide (HG.out.only hbo (fun h=>h))
  replace HO:=hide (HO.out.trans hbo)
  obtain ⟨⟨g0,g1,g2,g3,g4⟩,f0,f1,f2,f3,f4⟩:=HG.out.five
  clear hbo
  go_wp2_with fail
  clear g0 g1 g2 g3 g4 f0 f1 f2 f3 f4
  rw [put5]
  have r2:=HG.out.put [.bool false,.int .u64 q0,.int .u64 q1,.int .u64 q2,.int .u64 q3] rfl
  have r3:=hide (bC [.bool false,.int .u64 q0,.int .u64 q1,.int .u64 q2,.int .u64 q3] 0 HO.out (Nat.le_refl w.heap.size))
  obtain ⟨wz,hz⟩:∃ wz,wz=aE w4 w.heap.size 0 [.bool false,.int .u64 q0,.int .u64 q1,.int .u64 q2,.int .u64 q3]:=⟨_,rfl⟩
  rw [← hz] at r2 r3 ⊢
  clear hz
  obtain ⟨⟨k0,k1,k2,k3,k4⟩,_⟩:=r2.five
  refine bodyPost_ret (v:=.tuple #[.agg #[.bool false,.int .u64 q0,.int .u64 q1,.int .u64 q2,.int .u64 q3],.int .i64 (1:Nat),.int .i64 (0:Nat)]) (by simp [results,Tryz.results223,go_sem,k0,k1,k2,k3,k4]) rfl ?_
  refine ⟨⟨false,q0,q1,q2,q3⟩,by rw [HI.out];rfl,by rw [HI.out],(by intro h;cases h),r3.out⟩
end Go.Proofs.YtaioaojfdngfdaaGreatDoor
