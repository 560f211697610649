/- A set's text, by the page. Conditions: those of each theorem. -/
import Derived.Test.YtaioaojfdngfdaaGreatDoorPg21
import Derived.Test.YtaioaojfdngfdaaGreatDoorPg13
set_option linter.unusedVariables false
set_option linter.unusedSimpArgs false
set_option maxHeartbeats 12800000
namespace Go.Proofs.YtaioaojfdngfdaaGreatDoor
open Go.RowKit
def rT (s:ByteArray) (X E:Nat) (first:Bool) (a:Nat):Prop :=
 (first=true∧a + (bF (suf s a)).1=X∧(bF (suf s a)).2=E) ∨
 (first=false∧(isL s a 93=true→a + 1=X∧E=0)∧(isL s a 93=false→a + (bF (suf s a)).1=X∧(bF (suf s a)).2=E))
theorem rD {s:ByteArray} {X E a n:Nat} (h1:a + (bF (suf s a)).1=X) (h2:(bF (suf s a)).2=E) (hp:bH (suf s a)=(n,0)):rT s X E false (a + n):=by
 refine Or.inr ⟨rfl,fun hi=>?_,fun hi=>?_⟩
 ·have hlt:a + n < s.size:=by
   rcases Nat.lt_or_ge (a + n) s.size with h | h
   ·exact h
   ·rw [gG h] at hi;cases hi
  rw [cS hlt] at hi
  have hc:s[a + n]=93:=of_decide_eq_true hi
  have hd:(suf s a).drop (bH (suf s a)).1=93 :: suf s (a + n + 1):=by rw [hp,dS,bL hlt,hc]
  have:=jE (by rw [hp]) hd
  rw [this,hp] at h1 h2
  exact ⟨by simp only at h1;omega,h2.symm⟩
 ·have hd:∀ r,(suf s a).drop (bH (suf s a)).1≠93 :: r:=by
   intro r hr
   rw [hp,dS] at hr
   simp only at hr
   rcases Nat.lt_or_ge (a + n) s.size with h | h
   ·rw [bL h] at hr
    injection hr with hr _
    rw [cS h,hr] at hi
    simp at hi
   ·rw [dU h] at hr;cases hr
  have:=jF (by rw [hp]) hd
  rw [this,hp,dS] at h1 h2
  exact ⟨by simp only at h1;omega,h2⟩
theorem nU {s:ByteArray} {X E a:Nat} (h1:a + (bF (suf s a)).1=X) (h2:(bF (suf s a)).2=E) {n e:Nat} (hp:bH (suf s a)=(n,e)) (he:e≠0):a + n=X∧e=E:=by
 have:=kN (l:=suf s a) (by rw [hp];exact he)
 rw [this,hp] at h1 h2
 exact ⟨h1,h2⟩
theorem xP {l:List UInt8} {n e:Nat} {b:UInt8} (h:aR l=(n,b,e)) (he:e≠0):bH l=(n,e):=by
 unfold bH
 rw [h,if_pos he]
theorem part_one {s:ByteArray} {a n:Nat} {b:UInt8} (h:aR (suf s a)=(n,b,0)) (hi:isL s (a + n) 45=false):bH (suf s a)=(n,0):=by
 unfold bH
 rw [h,if_neg (by simp)]
 simp only
 rw [dS]
 rcases Nat.lt_or_ge (a + n) s.size with hlt | hge
 ·rw [bL hlt]
  rw [cS hlt] at hi
  have:¬ s[a + n]=45:=of_decide_eq_false hi
  simp [this]
 ·rw [dU hge]
theorem part_two {s:ByteArray} {a n:Nat} {b:UInt8} (h:aR (suf s a)=(n,b,0)) (hi:isL s (a + n) 45=true):bH (suf s a) =
 if (aR (suf s (a + n + 1))).2.2≠0 then (n + 1 + (aR (suf s (a + n + 1))).1,(aR (suf s (a + n + 1))).2.2)
 else if (aR (suf s (a + n + 1))).2.1.toNat < b.toNat then (n + (aR (suf s (a + n + 1))).1,12) else (n + 1 + (aR (suf s (a + n + 1))).1,0):=by
 have hlt:a + n < s.size:=by
  rcases Nat.lt_or_ge (a + n) s.size with h | h
  ·exact h
  ·rw [gG h] at hi;cases hi
 rw [cS hlt] at hi
 have hc:s[a + n]=45:=of_decide_eq_true hi
 unfold bH
 rw [h,if_neg (by simp)]
 simp only
 rw [dS,bL hlt,hc]
 simp
def wJ (w:World) (X E:Nat) (e:Ending) (w':World):Prop:=(∃ a b c d:Int,e=.returned (.tuple #[.agg #[.int .u64 a,.int .u64 b,.int .u64 c,.int .u64 d],.int .i64 X,.int .i64 E]))∧Below w.heap.size w w'
theorem ext_one (s:ByteArray) (hs:s.size≤9223372036854775807) (q:Nat) (hq:q≤s.size) (w:World):Calls Tryz.prog 213 #[.string (s.extract q s.size)] w fun e w' =>
 e=.returned (.tuple #[.int .i64 (aR (suf s q)).2.1.toNat,.int .i64 (aR (suf s q)).1,.bool (decide ((aR (suf s q)).2.2=0))])∧w'=w:=by
 have:=refOne_c (s.extract q s.size) w (by rw [ext_size s q hq];omega)
 rw [m4 s q hq] at this
 exact this
theorem vK (s:ByteArray) (q:Nat):(aR (suf s q)).1≤s.size - q:=by
 have:=i7 (suf s q)
 rwa [eS] at this
theorem stop_q (s:ByteArray) (k:Nat) (w:World) (hs:s.size≤9223372036854775807):∃ v0 v1 v2 v3:Int,Hid (Calls Tryz.prog 212 #[.string s,.int .i64 k] w fun e w' =>
 e=.returned (.tuple #[.agg #[.int .u64 v0,.int .u64 v1,.int .u64 v2,.int .u64 v3],.int .i64 k,.int .i64 ((if k=s.size then 3 else 2:Nat):Int)])∧Below w.heap.size w w'):=⟨0,0,0,0,hide (wX s k w hs)⟩
theorem xH {s:ByteArray} (hp:0 < s.size) (h:s[0]=91):b7 s.data.toList=if isL s 1 94=true then (2 + (bF (suf s 2)).1,(bF (suf s 2)).2) else (1 + (bF (suf s 1)).1,(bF (suf s 1)).2):=by
 have e1:s.data.toList=91 :: suf s 1:=by
  have:=kE hp
  rw [h] at this
  exact this
 rw [e1]
 unfold b7
 simp only [if_true]
 rcases Nat.lt_or_ge 1 s.size with h1 | h1
 ·rw [bL h1,cS h1]
  by_cases hc:s[1]=94
  ·simp [hc]
  ·simp [hc]
 ·rw [dU h1,gG h1]
  simp
set_option maxRecDepth 100000 in
theorem xB (s:ByteArray) (w:World) (hs:s.size≤9223372036854775806):Calls Tryz.prog 183 #[.string s] w (wJ w (b7 s.data.toList).1 (b7 s.data.toList).2):=by
 have hs':s.size≤9223372036854775807:=by omega
 obtain ⟨X,hX⟩:∃ X,X=(b7 s.data.toList).1:=⟨_,rfl⟩
 obtain ⟨E,hE⟩:∃ E,E=(b7 s.data.toList).2:=⟨_,rfl⟩
 rw [← hX,← hE]
 have HX:=hide hX
 have HE:=hide hE
 clear hX hE
 have HN:=hide (fun w=>pX w)
 have HS:=hide (fun k w=>stop_q s k w hs')
 have HO:=hide (fun q hq w=>ext_one s hs' q hq w)
 go_enter Tryz.func183,Tryz.ntmps183
 go_wp2_with fail
 refine (HN.out _).mono ?_
 rintro e w2 ⟨v,s0,rfl,ho,hb⟩
 have HO2:=hide (show OwnB w2 (w.heap.size + 1) v from ⟨s0,by simpa using ho⟩)
 have HL2:=hide ((aK w _).trans (hb.mono (by simp)))
 have HZ2:=hide ((Blk.new w 249 (setA 0 0 0 0)).below hb)
 obtain ⟨g,c,rfl,hgb,hgl,hjunk⟩:=fU HO2.out
 have hne:¬ g=w.heap.size:=by omega
 have hne2:¬ w.heap.size=g:=by omega
 clear ho hb hgl hjunk
 by_cases h0:s.size=0
 ·have HR:=hide (show b7 s.data.toList=(0,3) by rw [bl_nil h0];rfl)
  have e1:=vF h0
  have e2:s.toList.isEmpty=true:=by rw [e1];rfl
  obtain ⟨v0,v1,v2,v3,HSt⟩:=HS.out 0 w2
  rw [if_pos h0.symm] at HSt
  clear h0
  go_wp2_with fail
  refine HSt.out.mono ?_
  rintro e w5 ⟨rfl,hb5⟩
  have HZ5:=hide (HZ2.out.below hb5)
  have HL5:=hide (HL2.out.trans (hb5.mono HL2.out.size))
  clear hb5
  obtain ⟨⟨z0,z1,z2,z3⟩,e0,e1,e2,e3⟩:=HZ5.out.four
  go_wp2_with fail
  rw [dW]
  have r2:=HZ5.out.put [.int .u64 v0,.int .u64 v1,.int .u64 v2,.int .u64 v3] rfl
  have r3:=bX [.int .u64 v0,.int .u64 v1,.int .u64 v2,.int .u64 v3] 0 HL5.out (Nat.le_refl _)
  obtain ⟨wz,hwz⟩:∃ wz,wz=aE w5 w.heap.size 0 [.int .u64 v0,.int .u64 v1,.int .u64 v2,.int .u64 v3]:=⟨_,rfl⟩
  rw [← hwz] at r2 r3 ⊢
  obtain ⟨⟨y0,y1,y2,y3⟩,_⟩:=r2.four
  refine bodyPost_ret (v:=.tuple #[.agg #[.int .u64 v0,.int .u64 v1,.int .u64 v2,.int .u64 v3],.int .i64 0,.int .i64 3]) (by simp [results,Tryz.results183,go_sem,y0,y1,y2,y3]) rfl ?_
  exact ⟨⟨v0,v1,v2,v3,by rw [HX.out,HE.out,HR.out];rfl⟩,r3⟩
 ·have e2:=rQ h0
  have hp:0 < s.size:=by omega
  have hp2:(0:Int) < (s.size:Int):=by omega
  by_cases h91:s[0]=91
  case neg =>
   have b1':((s[0].toNat:Int) == 91)=false:=iK (n:=91) h91 (by omega)
   have b1:((s[0].toNat:Int) != 91)=true:=by simp [bne,b1']
   have HR:=hide (show b7 s.data.toList=(0,2) by rw [kE hp];simp [b7,h91])
   obtain ⟨v0,v1,v2,v3,HSt⟩:=HS.out 0 w2
   rw [if_neg (by omega)] at HSt
   clear h91 h0
   go_wp2_with fail
   refine HSt.out.mono ?_
   rintro e w5 ⟨rfl,hb5⟩
   have HZ5:=hide (HZ2.out.below hb5)
   have HL5:=hide (HL2.out.trans (hb5.mono HL2.out.size))
   clear hb5
   obtain ⟨⟨z0,z1,z2,z3⟩,e0,e1,e2,e3⟩:=HZ5.out.four
   go_wp2_with fail
   rw [dW]
   have r2:=HZ5.out.put [.int .u64 v0,.int .u64 v1,.int .u64 v2,.int .u64 v3] rfl
   have r3:=bX [.int .u64 v0,.int .u64 v1,.int .u64 v2,.int .u64 v3] 0 HL5.out (Nat.le_refl _)
   obtain ⟨wz,hwz⟩:∃ wz,wz=aE w5 w.heap.size 0 [.int .u64 v0,.int .u64 v1,.int .u64 v2,.int .u64 v3]:=⟨_,rfl⟩
   rw [← hwz] at r2 r3 ⊢
   obtain ⟨⟨y0,y1,y2,y3⟩,_⟩:=r2.four
   refine bodyPost_ret (v:=.tuple #[.agg #[.int .u64 v0,.int .u64 v1,.int .u64 v2,.int .u64 v3],.int .i64 0,.int .i64 2]) (by simp [results,Tryz.results183,go_sem,y0,y1,y2,y3]) rfl ?_
   exact ⟨⟨v0,v1,v2,v3,by rw [HX.out,HE.out,HR.out];rfl⟩,r3⟩
  case pos =>
   have b1:((s[0].toNat:Int) != 91)=false:=by rw [h91];rfl
   have b1':((s[0].toNat:Int) == 91)=true:=by rw [h91];rfl
   have HRd:=hide (xH hp h91)
   clear h91 h0
   go_upto_region 4 with fail
   go_cut [35] from 28 to 34 (fun t wx=>t=.bool (isL s 1 94)∧w2=wx)
   case first =>
    by_cases h1:1 < s.size
    ·have d1:decide ((1:Int) < (s.size:Int))=true:=by simp;omega
     have d2:decide (1 < s.size)=true:=by simp;omega
     have d3:(1:Int) < (s.size:Int):=by omega
     have HI:=hide ((cS (b:=94) h1).trans pT)
     go_wp2_with fail
     go_meet
     exact ⟨by rw [HI.out];rfl,rfl⟩
    ·have d1:decide ((1:Int) < (s.size:Int))=false:=by simp;omega
     have d2:decide (1 < s.size)=false:=by simp;omega
     have HI:=hide (gG (b:=94) (show s.size≤1 by omega))
     go_wp2_with fail
     go_meet
     exact ⟨by rw [HI.out],rfl⟩
   case rest =>
    obtain ⟨rfl,rfl⟩:=hcut
    go_upto_if 35 with fail
    go_cut [6,7] (fun a b wx=>∃ (q:Nat) (but:Bool),a=.int .i64 q∧b=.bool but∧q≤s.size∧Hid (b7 s.data.toList=(q + (bF (suf s q)).1,(bF (suf s q)).2))∧w2=wx)
    case first =>
     cases hi:isL s 1 94 with
     | true =>
      have hlt:1 < s.size:=by
       rcases Nat.lt_or_ge 1 s.size with h | h
       ·exact h
       ·rw [gG h] at hi;cases hi
      have HQ:=hide (HRd.out.trans (if_pos hi))
      clear hi HRd
      go_wp2_with fail
      go_meet
      exact ⟨2,true,rfl,rfl,by omega,HQ,rfl⟩
     | false =>
      have HQ:=hide (HRd.out.trans (if_neg (by rw [hi];simp)))
      clear hi HRd
      go_wp2_with fail
      go_meet
      exact ⟨1,false,rfl,rfl,by omega,HQ,rfl⟩
    case rest =>
     obtain ⟨q,but,rfl,rfl,hq,HQ,rfl⟩:=hcut
     have hr0:rT s X E true q:=Or.inl ⟨rfl,by rw [HX.out,HQ.out],by rw [HE.out,HQ.out]⟩
     have HR0:=hide hr0
     clear hr0 HX HE HQ HRd
     go_wp2_with fail
     go_loopw [6,8] (fun a b wr=>∃ (k:Nat) (first:Bool),k≤s.size∧a=.int .i64 k∧b=.bool first∧Hid (rT s X E first k)∧Hid (OwnB wr (w.heap.size + 1) (.slice (some ⟨g,0,none⟩) 256 c))∧Hid (Blk wr w.heap.size 249 (setA 0 0 0 0))∧Hid (Below w.heap.size w wr)) (fun a _ _=>s.size + 1 - (intOf a).toNat)
     case atStart=>exact ⟨q,true,hq,rfl,rfl,HR0,HO2,HZ2,HL2⟩
     case round =>
      obtain ⟨k,first,hk,rfl,rfl,hrl,ho,hz,hbel⟩:=hrel
      have hin:(first=true∨isL s k 93=false)∨(first=false∧isL s k 93=true):=by
       cases first
       ·cases isL s k 93<;>simp
       ·simp
      rcases hin with hin | ⟨rfl,h93⟩
      case inr =>
       have hX:k + 1=X∧E=0:=by
        rcases hrl.out with ⟨h,_⟩ | ⟨_,h,_⟩
        ·cases h
        ·exact h h93
       obtain ⟨hX1,hX2⟩:=hX
       have hlt:k < s.size:=by
        rcases Nat.lt_or_ge k s.size with h | h
        ·exact h
        ·rw [gG h] at h93;cases h93
       have HI:=hide ((cS (b:=93) hlt).symm.trans h93)
       have b93:((s[k].toNat:Int) == 93)=true:=by
        have:=(pT (a:=s[k]) (b:=93)).symm.trans HI.out
        exact this
       have b93':((s[k].toNat:Int) != 93)=false:=by simp [bne,b93]
       have d1:((k:Int) == (s.size:Int))=false:=by simp;omega
       have j1:(0:Int)≤(k:Int):=by omega
       have j2:(k:Int) < (s.size:Int):=by omega
       have w1:IntKind.i64.wrap ((k:Int) + 1)=(k:Int) + 1:=IntWalk.i64_in _ (by omega)
       have HMk:=hide (kM _ g c wr ho.out)
       have HNot:=hide (fun a b c d w=>show Calls Tryz.prog 215 #[.agg #[.int .u64 a,.int .u64 b,.int .u64 c,.int .u64 d]] w _ from refNot_c a b c d w)
       have HX1:=hide hX1
       have HX2:=hide hX2
       clear hX1 hX2 h93 hrl HR0
       go_wp2_with fail
       refine HMk.out.mono ?_
       rintro e w4 ⟨m0,m1,m2,m3,rfl,hb4⟩
       unfold setA
       have HZ4:=hide (hz.out.below hb4)
       have HL4:=hide (hbel.out.trans (hb4.mono hbel.out.size))
       clear hb4
       have hw4:w.heap.size < w4.heap.size:=HZ4.out.lt
       have hn1:¬ w.heap.size=w4.heap.size:=by omega
       have hn2:¬ w4.heap.size=w.heap.size:=by omega
       cases but
       ·obtain ⟨⟨z0,z1,z2,z3⟩,e0,e1,e2,e3⟩:=HZ4.out.four
        go_wp2_with fail
        rw [dW]
        have r2:=(HZ4.out.put [.int .u64 m0,.int .u64 m1,.int .u64 m2,.int .u64 m3] rfl).alloc (.cells #[.int .u64 m0,.int .u64 m1,.int .u64 m2,.int .u64 m3] 249)
        have r4:=bX [.int .u64 m0,.int .u64 m1,.int .u64 m2,.int .u64 m3] 0 HL4.out (Nat.le_refl _)
        have r3:=r4.alloc r4.size (.cells #[.int .u64 m0,.int .u64 m1,.int .u64 m2,.int .u64 m3] 249)
        obtain ⟨wz,hwz⟩:∃ wz,wz=(aE w4 w.heap.size 0 [.int .u64 m0,.int .u64 m1,.int .u64 m2,.int .u64 m3]).alloc (.cells #[.int .u64 m0,.int .u64 m1,.int .u64 m2,.int .u64 m3] 249):=⟨_,rfl⟩
        rw [← hwz] at r2 r3 ⊢
        obtain ⟨⟨y0,y1,y2,y3⟩,_⟩:=r2.four
        refine bodyPost_ret (v:=.tuple #[.agg #[.int .u64 m0,.int .u64 m1,.int .u64 m2,.int .u64 m3],.int .i64 ((k:Int) + 1),.int .i64 0]) (by simp [results,Tryz.results183,go_sem,y0,y1,y2,y3]) rfl ?_
        exact ⟨⟨m0,m1,m2,m3,by rw [← HX1.out,HX2.out];rfl⟩,r3⟩
       ·go_wp2_with fail
        refine (HNot.out _ _ _ _ _).mono ?_
        rintro e w6 ⟨n0,n1,n2,n3,rfl,hb6⟩
        unfold setA
        have HC6:=hide ((Blk.new w4 249 (setA m0 m1 m2 m3)).below hb6)
        have HZ6:=hide ((HZ4.out.alloc _).below hb6)
        have HL6:=hide ((HL4.out.alloc (by omega) _).trans (hb6.mono (by simp;omega)))
        clear hb6
        obtain ⟨⟨z0,z1,z2,z3⟩,e0,e1,e2,e3⟩:=HC6.out.four
        obtain ⟨⟨y0,y1,y2,y3⟩,i0,i1,i2,i3⟩:=HZ6.out.four
        go_wp2_with fail
        rw [dW,dW]
        have q2:=HZ6.out.only (aP [.int .u64 n0,.int .u64 n1,.int .u64 n2,.int .u64 n3] 0 w6 w4.heap.size) hn1
        have q3:=bX [.int .u64 n0,.int .u64 n1,.int .u64 n2,.int .u64 n3] 0 HL6.out (show w.heap.size≤w4.heap.size by omega)
        have r2:=q2.put [.int .u64 n0,.int .u64 n1,.int .u64 n2,.int .u64 n3] rfl
        have r3:=bX [.int .u64 n0,.int .u64 n1,.int .u64 n2,.int .u64 n3] 0 q3 (Nat.le_refl _)
        obtain ⟨wz,hwz⟩:∃ wz,wz=aE (aE w6 w4.heap.size 0 [.int .u64 n0,.int .u64 n1,.int .u64 n2,.int .u64 n3]) w.heap.size 0 [.int .u64 n0,.int .u64 n1,.int .u64 n2,.int .u64 n3]:=⟨_,rfl⟩
        rw [← hwz] at r2 r3 ⊢
        clear y0 y1 y2 y3
        obtain ⟨⟨y0,y1,y2,y3⟩,_⟩:=r2.four
        refine bodyPost_ret (v:=.tuple #[.agg #[.int .u64 n0,.int .u64 n1,.int .u64 n2,.int .u64 n3],.int .i64 ((k:Int) + 1),.int .i64 0]) (by simp [results,Tryz.results183,go_sem,y0,y1,y2,y3]) rfl ?_
        exact ⟨⟨n0,n1,n2,n3,by rw [← HX1.out,HX2.out];rfl⟩,r3⟩
      case inl =>
       have hp:k + (bF (suf s k)).1=X∧(bF (suf s k)).2=E:=by
        rcases hrl.out with ⟨_,h⟩ | ⟨h1,_,h⟩
        ·exact h
        ·rcases hin with h2 | h2
         ·rw [h1] at h2;cases h2
         ·exact h h2
       have HP:=hide hp
       clear hrl hp
       go_upto_region 7 with fail
       go_cut [48] from 36 to 47 (fun t wx=>t=.bool true∧wr=wx)
       case first =>
        cases first
        ·have h93:isL s k 93=false:=by simpa using hin
         by_cases hks:k=s.size
         ·have d1:((k:Int) == (s.size:Int))=true:=by rw [hks];simp
          clear hks
          go_wp2_with fail
          go_meet
          exact ⟨rfl,rfl⟩
         ·have d1:((k:Int) == (s.size:Int))=false:=by simp;omega
          have hlt:k < s.size:=by omega
          have HI:=hide ((cS (b:=93) hlt).symm.trans h93)
          have b93:((s[k].toNat:Int) == 93)=false:=(pT (a:=s[k]) (b:=93)).symm.trans HI.out
          have b93':((s[k].toNat:Int) != 93)=true:=by simp [bne,b93]
          have j1:(0:Int)≤(k:Int):=by omega
          have j2:(k:Int) < (s.size:Int):=by omega
          clear hks h93 hin
          go_wp2_with fail
          go_meet
          exact ⟨rfl,rfl⟩
        ·clear hin
         go_wp2_with fail
         go_meet
         exact ⟨rfl,rfl⟩
       case rest =>
        obtain ⟨rfl,rfl⟩:=hcut
        clear HR0 hin
        obtain ⟨n1,c1,e1,hsg⟩:∃ n b e,aR (suf s k)=(n,b,e):=⟨_,_,_,rfl⟩
        have hn1:n1≤s.size - k:=by have:=vK s k;rw [hsg] at this;exact this
        have HOk:=hide (show ∀ w,Calls Tryz.prog 213 #[.string (s.extract k s.size)] w fun e w'=>e=.returned (.tuple #[.int .i64 c1.toNat,.int .i64 n1,.bool (decide (e1=0))])∧w'=w from fun w=>by have:=HO.out k hk w;rw [hsg] at this;exact this)
        have hend:=sF (s:=s) (a:=k) hk
        rw [hsg] at hend
        simp only at hend
        have j0:(0:Int)≤(k:Int):=by omega
        have j1:(k:Int)≤(s.size:Int):=by omega
        have w1:IntKind.i64.wrap ((k:Int) + (n1:Int))=(k:Int) + (n1:Int):=IntWalk.i64_in _ (by omega)
        have hc1:c1.toNat < 256:=UInt8.toNat_lt _
        by_cases he1:e1=0
        ·subst he1
         go_wp2_with fail
         refine (HOk.out _).mono ?_
         rintro e w7 ⟨rfl,h7⟩
         obtain rfl:=h7.symm
         have HSG:=hide hsg
         clear hend hsg
         go_upto_region 14 with fail
         go_cut [78] from 69 to 77 (fun t wx=>t=.bool (isL s (k + n1) 45)∧wr=wx)
         case first =>
          by_cases hlt:k + n1 < s.size
          ·have d1:decide ((k:Int) + (n1:Int) < (s.size:Int))=true:=by simp;omega
           have HI:=hide ((cS (b:=45) hlt).trans pT)
           have i1:(0:Int)≤(k:Int) + (n1:Int):=by omega
           have i2:(k:Int) + (n1:Int) < (s.size:Int):=by omega
           have i3:((k:Int) + (n1:Int)).toNat=k + n1:=by omega
           go_wp2_with fail
           go_meet
           exact ⟨by rw [HI.out];rfl,rfl⟩
          ·have d1:decide ((k:Int) + (n1:Int) < (s.size:Int))=false:=by simp;omega
           have HI:=hide (gG (b:=45) (show s.size≤k + n1 by omega))
           go_wp2_with fail
           go_meet
           exact ⟨by rw [HI.out],rfl⟩
         case rest =>
          obtain ⟨rfl,rfl⟩:=hcut
          go_upto_if 78 with fail
          go_cut [6,10,11,12] from 78 to 105 (fun at_ _ _ b wx=>∃ (r c2:Nat),at_=.int .i64 (r:Nat)∧b=.int .i64 c2∧k < r∧r≤s.size∧c2 < 256∧Hid (bH (suf s k)=(r - k,0))∧wr=wx)
          case first =>
           have hpos:1≤n1:=by
            have:=pU (l:=suf s k) (by rw [HSG.out])
            rw [HSG.out] at this
            exact this
           cases hi:isL s (k + n1) 45 with
           | false =>
            have HQ:=hide (part_one HSG.out hi)
            clear hi
            go_wp2_with fail
            go_meet
            exact ⟨k + n1,c1.toNat,rfl,rfl,by omega,by omega,hc1,hide (by rw [HQ.out];simp),rfl⟩
           | true =>
            have hlt:k + n1 < s.size:=by
             rcases Nat.lt_or_ge (k + n1) s.size with h | h
             ·exact h
             ·rw [gG h] at hi;cases hi
            have hpt:=part_two HSG.out hi
            obtain ⟨n2,c2,e2',hsg2⟩:∃ n b e,aR (suf s (k + n1 + 1))=(n,b,e):=⟨_,_,_,rfl⟩
            have hn2:n2≤s.size - (k + n1 + 1):=by have:=vK s (k + n1 + 1);rw [hsg2] at this;exact this
            have HOk2:=hide (show ∀ w,Calls Tryz.prog 213 #[.string (s.extract (k + n1 + 1) s.size)] w fun e w'=>e=.returned (.tuple #[.int .i64 c2.toNat,.int .i64 n2,.bool (decide (e2'=0))])∧w'=w from fun w=>by have:=HO.out (k + n1 + 1) (by omega) w;rw [hsg2] at this;exact this)
            have hend:=sF (s:=s) (a:=k + n1 + 1) (by omega)
            rw [hsg2] at hend hpt
            simp only at hend hpt
            have i1:(0:Int)≤(k:Int) + (n1:Int) + 1:=by omega
            have i2:(k:Int) + (n1:Int) + 1≤(s.size:Int):=by omega
            have i3:((k:Int) + (n1:Int) + 1).toNat=k + n1 + 1:=by omega
            have w3:IntKind.i64.wrap ((k:Int) + (n1:Int) + 1)=(k:Int) + (n1:Int) + 1:=IntWalk.i64_in _ (by omega)
            have w4:IntKind.i64.wrap ((k:Int) + (n1:Int) + 1 + (n2:Int))=(k:Int) + (n1:Int) + 1 + (n2:Int):=IntWalk.i64_in _ (by omega)
            have w5:IntKind.i64.wrap ((k:Int) + (n1:Int) + 1 + (n2:Int) - 1)=(k:Int) + (n1:Int) + 1 + (n2:Int) - 1:=IntWalk.i64_in _ (by omega)
            have hc2:c2.toNat < 256:=UInt8.toNat_lt _
            clear hi hsg2 HOk
            by_cases he2:e2'=0
            ·subst he2
             rw [if_neg (by simp)] at hpt
             by_cases hc:c2.toNat < c1.toNat
             ·rw [if_pos hc] at hpt
              have d1:decide ((c2.toNat:Int) < (c1.toNat:Int))=true:=by simp;omega
              have d2:decide (c2.toNat < c1.toNat)=true:=by simp;omega
              obtain ⟨hX1,hX2⟩:=nU HP.out.1 HP.out.2 hpt (by decide)
              have HX1:=hide hX1
              have HX2:=hide hX2
              clear hX1 hX2 hpt hend hc
              go_wp2_with fail
              refine (HOk2.out _).mono ?_
              rintro e w7 ⟨rfl,h7⟩
              obtain rfl:=h7.symm
              obtain ⟨c0,hc0⟩:∃ c0:Int,c0=0:=⟨_,rfl⟩
              obtain ⟨⟨z0,z1,z2,z3⟩,e0,e1,e2,e3⟩:=hz.out.four
              go_wp2_with fail
              rw [dW]
              have r2:=hz.out.put [.int .u64 0,.int .u64 0,.int .u64 0,.int .u64 0] rfl
              have r3:=bX [.int .u64 0,.int .u64 0,.int .u64 0,.int .u64 0] 0 hbel.out (Nat.le_refl _)
              obtain ⟨wz,hwz⟩:∃ wz,wz=aE wr w.heap.size 0 [.int .u64 0,.int .u64 0,.int .u64 0,.int .u64 0]:=⟨_,rfl⟩
              rw [← hwz] at r2 r3 ⊢
              obtain ⟨⟨y0,y1,y2,y3⟩,_⟩:=r2.four
              refine bodyPost_ret (v:=.tuple #[.agg #[.int .u64 0,.int .u64 0,.int .u64 0,.int .u64 0],.int .i64 ((k:Int) + (n1:Int) + 1 + (n2:Int) - 1),.int .i64 12]) (by simp [results,Tryz.results183,go_sem,y0,y1,y2,y3]) rfl ?_
              exact ⟨⟨0,0,0,0,by
               rw [← HX1.out,← HX2.out]
               have:((k:Int) + (n1:Int) + 1 + (n2:Int) - 1)=((k + (n1 + n2):Nat):Int):=by omega
               rw [this];rfl⟩,r3⟩
             ·rw [if_neg hc] at hpt
              have d1:decide ((c2.toNat:Int) < (c1.toNat:Int))=false:=by simp;omega
              have d2:decide (c2.toNat < c1.toNat)=false:=by simp;omega
              have HQ:=hide hpt
              clear hpt hend hc
              go_wp2_with fail
              refine (HOk2.out _).mono ?_
              rintro e w7 ⟨rfl,h7⟩
              obtain rfl:=h7.symm
              go_wp2_with fail
              go_meet
              exact ⟨k + n1 + 1 + n2,c2.toNat,rfl,rfl,by omega,by omega,hc2,hide (by rw [HQ.out];simp;omega),rfl⟩
            ·have d1:decide (e2'=0)=false:=by simp [he2]
             rw [d1] at HOk2
             rw [if_pos he2] at hpt
             obtain ⟨hX1,hX2⟩:=nU HP.out.1 HP.out.2 hpt he2
             obtain ⟨v0,v1,v2,v3,HSt⟩:=HS.out (k + n1 + 1 + n2) wr
             rw [← hend he2,hX2] at HSt
             have HX1:=hide hX1
             clear hend he2 d1 hX1 hX2 hpt
             go_wp2_with fail
             refine (HOk2.out _).mono ?_
             rintro e w7 ⟨rfl,h7⟩
             obtain rfl:=h7.symm
             go_wp2_with fail
             refine HSt.out.mono ?_
             rintro e w5 ⟨rfl,hb5⟩
             have HZ5:=hide (hz.out.below hb5)
             have HL5:=hide (hbel.out.trans (hb5.mono hbel.out.size))
             clear hb5
             obtain ⟨⟨z0,z1,z2,z3⟩,e0,e1,e2,e3⟩:=HZ5.out.four
             go_wp2_with fail
             rw [dW]
             have r2:=HZ5.out.put [.int .u64 v0,.int .u64 v1,.int .u64 v2,.int .u64 v3] rfl
             have r3:=bX [.int .u64 v0,.int .u64 v1,.int .u64 v2,.int .u64 v3] 0 HL5.out (Nat.le_refl _)
             obtain ⟨wz,hwz⟩:∃ wz,wz=aE w5 w.heap.size 0 [.int .u64 v0,.int .u64 v1,.int .u64 v2,.int .u64 v3]:=⟨_,rfl⟩
             rw [← hwz] at r2 r3 ⊢
             obtain ⟨⟨y0,y1,y2,y3⟩,_⟩:=r2.four
             refine bodyPost_ret (v:=.tuple #[.agg #[.int .u64 v0,.int .u64 v1,.int .u64 v2,.int .u64 v3],.int .i64 ((k:Int) + (n1:Int) + 1 + (n2:Int)),.int .i64 E]) (by simp [results,Tryz.results183,go_sem,y0,y1,y2,y3]) rfl ?_
             exact ⟨⟨v0,v1,v2,v3,by rw [← HX1.out,show k + (n1 + 1 + n2)=k + n1 + 1 + n2 by omega];rfl⟩,r3⟩
          case rest =>
           obtain ⟨r,c2,rfl,rfl,hkr,hrs,hc2,HPt,rfl⟩:=hcut
           have hnx:=rD HP.out.1 HP.out.2 HPt.out
           rw [show k + (r - k)=r by omega] at hnx
           have HNx:=hide hnx
           clear hnx HP HPt HOk HSG
           go_wp2_with fail
           go_loopw [13] (fun i w9=>∃ m:Nat,m≤256∧i=.int .i64 m∧Hid (OwnB w9 (w.heap.size + 1) (.slice (some ⟨g,0,none⟩) 256 c))∧Hid (Blk w9 w.heap.size 249 (setA 0 0 0 0))∧Hid (Below w.heap.size w w9)) (fun i _=>256 - (intOf i).toNat)
           case atStart=>exact ⟨c1.toNat,by omega,rfl,ho,hz,hbel⟩
           case round =>
            obtain ⟨m,hm,rfl,ho9,hz9,hb9⟩:=hrel
            by_cases hle:m≤c2
            ·have d1:decide ((m:Int)≤(c2:Int))=true:=by simp;omega
             have d2:decide (m≤c2)=true:=by simp;omega
             obtain ⟨g',c',e',_,hgl,hcell⟩:=fU ho9.out
             injection e' with e' _ _
             injection e' with e'
             injection e' with e'
             subst e'
             obtain ⟨⟨b0,g0⟩,f0⟩:=hcell m (by omega)
             have k1:(0:Int)≤(m:Int):=by omega
             have k2:(m:Int) < 256:=by omega
             clear hcell
             go_wp2_with fail
             go_roundw
             case rel=>exact ⟨m + 1,by omega,by go_num,hide (nX ho9.out m (by omega) true),hide (hz9.out.far (by simp;omega) _),hide (hb9.out.setCell (by simp;omega) _)⟩
             case measure=>simp [intOf];omega
            ·have d1:decide ((m:Int)≤(c2:Int))=false:=by simp;omega
             have d2:decide (m≤c2)=false:=by simp;omega
             go_wp2_with fail
             go_roundw
             case rel=>exact ⟨r,false,hrs,rfl,rfl,HNx,ho9,hz9,hb9⟩
             case measure=>simp [intOf];omega
        ·have d1:decide (e1=0)=false:=by simp [he1]
         rw [d1] at HOk
         obtain ⟨hX1,hX2⟩:=nU HP.out.1 HP.out.2 (xP hsg he1) he1
         obtain ⟨v0,v1,v2,v3,HSt⟩:=HS.out (k + n1) wr
         rw [← hend he1,hX2] at HSt
         have HX1:=hide hX1
         clear hend he1 d1 hX1 hX2
         go_wp2_with fail
         refine (HOk.out _).mono ?_
         rintro e w7 ⟨rfl,h7⟩
         obtain rfl:=h7.symm
         go_wp2_with fail
         refine HSt.out.mono ?_
         rintro e w5 ⟨rfl,hb5⟩
         have HZ5:=hide (hz.out.below hb5)
         have HL5:=hide (hbel.out.trans (hb5.mono hbel.out.size))
         clear hb5
         obtain ⟨⟨z0,z1,z2,z3⟩,e0,e1,e2,e3⟩:=HZ5.out.four
         go_wp2_with fail
         rw [dW]
         have r2:=HZ5.out.put [.int .u64 v0,.int .u64 v1,.int .u64 v2,.int .u64 v3] rfl
         have r3:=bX [.int .u64 v0,.int .u64 v1,.int .u64 v2,.int .u64 v3] 0 HL5.out (Nat.le_refl _)
         obtain ⟨wz,hwz⟩:∃ wz,wz=aE w5 w.heap.size 0 [.int .u64 v0,.int .u64 v1,.int .u64 v2,.int .u64 v3]:=⟨_,rfl⟩
         rw [← hwz] at r2 r3 ⊢
         obtain ⟨⟨y0,y1,y2,y3⟩,_⟩:=r2.four
         refine bodyPost_ret (v:=.tuple #[.agg #[.int .u64 v0,.int .u64 v1,.int .u64 v2,.int .u64 v3],.int .i64 ((k:Int) + (n1:Int)),.int .i64 E]) (by simp [results,Tryz.results183,go_sem,y0,y1,y2,y3]) rfl ?_
         exact ⟨⟨v0,v1,v2,v3,by rw [← HX1.out];rfl⟩,r3⟩
end Go.Proofs.YtaioaojfdngfdaaGreatDoor
