/- Parts of a chain of lemmas: RefCls2, RefCls3. Conditions: those of each theorem. -/
import Derived.Test.YtaioaojfdngfdaaGreatDoorPg20
import Derived.Test.YtaioaojfdngfdaaGreatDoorPg10
set_option linter.unusedVariables false
set_option linter.unusedSimpArgs false
set_option maxHeartbeats 3200000
namespace Go.Proofs.YtaioaojfdngfdaaGreatDoor
open Go.RowKit
def OwnB (w:World) (base:Nat) (v:Value):Prop:=∃ s,w.ownsRow base 4 1 v 256 (flat mW s)
theorem fU {w:World} {base:Nat} {v:Value} (h:OwnB w base v):∃ g c,v=.slice (some ⟨g,0,none⟩) 256 c∧base≤g∧g < w.heap.size∧∀ k,k < 256→(∃ b,w.cell? ⟨g,k,none⟩=some (.bool b))∧w.frozen? ⟨g,k,none⟩=false:=by
 obtain ⟨s,h⟩:=h
 obtain ⟨A,c,rfl⟩:=own_form h
 obtain ⟨g,rfl,hb,hl,_,_⟩:=vQ h 0 (by omega)
 refine ⟨g,c,rfl,hb,hl,fun k hk=>?_⟩
 obtain ⟨g2,e2,_,_,hc2,hf2⟩:=vQ h k hk
 injection e2 with e2
 injection e2 with e2
 subst e2
 exact ⟨⟨_,hc2⟩,hf2⟩
theorem nX {w:World} {base g c:Nat} (h:OwnB w base (.slice (some ⟨g,0,none⟩) 256 c)) (k:Nat) (hk:k < 256) (b:Bool):OwnB (w.setCell ⟨g,k,none⟩ (.bool b)) base (.slice (some ⟨g,0,none⟩) 256 c):=by
 obtain ⟨s,hl,h2⟩:=h
 rcases h2 with ⟨hv,hn⟩ | ⟨g1,cap,cur,hv,hb,hh,hnc,hcm,hsz,htk⟩
 ·omega
 ·injection hv with e1 _ e3
  injection e1 with e1
  injection e1 with e1
  subst e1 e3
  have hB:Blk w g 4 cur:=hh
  have hB2:=hB.set_ k (.bool b)
  refine ⟨s.set k b,?_,Or.inr ⟨g,c,cur.setIfInBounds k (.bool b),rfl,hb,hB2,hnc,hcm,by simpa using hsz,?_⟩⟩
  ·rw [rL] at hl ⊢
   simpa using hl
  ·rw [rL] at htk ⊢
   rw [List.map_set,← htk,Array.toList_setIfInBounds,List.take_set]
theorem kM (base:Nat) (g c:Nat) (w:World) (h:OwnB w base (.slice (some ⟨g,0,none⟩) 256 c)):Calls Tryz.prog 214 #[.slice (some ⟨g,0,none⟩) 256 c] w (fO w):=by
 obtain ⟨s,h⟩:=h
 exact xE base _ c s w h
set_option maxRecDepth 100000 in
theorem wY (x y:Nat) (w:World) (hx:x < 256) (hy:y < 256):Calls Tryz.prog 184 #[.int .i64 x,.int .i64 y] w (fO w):=by
 have HN:=hide (fun w=>pX w)
 go_enter Tryz.func184,Tryz.ntmps184
 go_wp2_with fail
 refine (HN.out _).mono ?_
 rintro e w2 ⟨v,s,rfl,ho,hb⟩
 have HO2:=hide (show OwnB w2 (w.heap.size + 1) v from ⟨s,by simpa using ho⟩)
 have HL2:=hide ((aK w _).trans (hb.mono (by simp)))
 have HZ2:=hide ((Blk.new w 249 (setA 0 0 0 0)).below hb)
 obtain ⟨g,c,rfl,hgb,hgl,_⟩:=fU HO2.out
 have hne:¬ g=w.heap.size:=by omega
 have hne2:¬ w.heap.size=g:=by omega
 clear ho hb hgl
 go_wp2_with fail
 go_loopw [6] (fun i wr=>∃ k:Nat,k≤256∧i=.int .i64 k∧Hid (OwnB wr (w.heap.size + 1) (.slice (some ⟨g,0,none⟩) 256 c))∧Hid (Blk wr w.heap.size 249 (setA 0 0 0 0))∧Hid (Below w.heap.size w wr)) (fun i _=>256 - (intOf i).toNat)
 case atStart=>exact ⟨x,by omega,rfl,HO2,HZ2,HL2⟩
 case round =>
  obtain ⟨k,hk,rfl,ho,hz,hbel⟩:=hrel
  by_cases hle:k≤y
  ·have d1:decide ((k:Int)≤(y:Int))=true:=by simp;omega
   have d2:decide (k≤y)=true:=by simp;omega
   obtain ⟨g',c',e',_,hgl,hcell⟩:=fU ho.out
   injection e' with e' _ _
   injection e' with e'
   injection e' with e'
   subst e'
   obtain ⟨⟨b0,g0⟩,f0⟩:=hcell k (by omega)
   have k1:(0:Int)≤(k:Int):=by omega
   have k2:(k:Int) < 256:=by omega
   clear hcell
   go_wp2_with fail
   go_roundw
   case rel=>exact ⟨k + 1,by omega,by go_num,hide (nX ho.out k (by omega) true),hide (hz.out.far (by simp;omega) _),hide (hbel.out.setCell (by simp;omega) _)⟩
   case measure=>simp [intOf];omega
  ·have d1:decide ((k:Int)≤(y:Int))=false:=by simp;omega
   have d2:decide (k≤y)=false:=by simp;omega
   have HM:=hide (kM _ g c wr ho.out)
   go_wp2_with fail
   refine HM.out.mono ?_
   rintro e w4 ⟨a,b,c',d,rfl,hb4⟩
   unfold setA
   have HZ4:=hide (hz.out.below hb4)
   have HL4:=hide (hbel.out.trans (hb4.mono hbel.out.size))
   clear hb4
   obtain ⟨⟨z0,z1,z2,z3⟩,e0,e1,e2,e3⟩:=HZ4.out.four
   go_wp2_with fail
   rw [dW]
   have r2:=HZ4.out.put [.int .u64 a,.int .u64 b,.int .u64 c',.int .u64 d] rfl
   have r3:=bX [.int .u64 a,.int .u64 b,.int .u64 c',.int .u64 d] 0 HL4.out (Nat.le_refl _)
   obtain ⟨wz,hz⟩:∃ wz,wz=aE w4 w.heap.size 0 [.int .u64 a,.int .u64 b,.int .u64 c',.int .u64 d]:=⟨_,rfl⟩
   rw [← hz] at r2 r3 ⊢
   obtain ⟨⟨g0,g1,g2,g3⟩,_⟩:=r2.four
   refine bodyPost_ret (v:=.agg #[.int .u64 a,.int .u64 b,.int .u64 c',.int .u64 d]) (by simp [results,Tryz.results184,go_sem,g0,g1,g2,g3]) rfl ?_
   exact ⟨a,b,c',d,rfl,r3⟩
set_option maxRecDepth 100000 in
theorem refNot_c (a b c d:Int) (w:World):Calls Tryz.prog 215 #[.agg (setA a b c d)] w (fO w):=by
 have HN:=hide (fun w=>show Calls Tryz.prog 227 #[.agg #[.int .u64 a,.int .u64 b,.int .u64 c,.int .u64 d]] w _ from nO a b c d w)
 unfold setA
 go_enter Tryz.func215,Tryz.ntmps215
 go_wp2_with fail
 refine (HN.out _).mono ?_
 rintro e w2 ⟨v,s,rfl,ho,hb⟩
 have HO2:=hide (show OwnB w2 (w.heap.size + 2) v from ⟨s,by simpa using ho⟩)
 have HL2:=hide (((aK w _).alloc (by simp) _).trans (hb.mono (by simp;omega)))
 have HZ2:=hide (((Blk.new' (w:=w.alloc (.cells (setA a b c d) 249)) (t:=249) (cs:=setA 0 0 0 0) (g:=w.heap.size + 1) (by simp)).below hb))
 obtain ⟨g,cc,rfl,hgb,hgl,_⟩:=fU HO2.out
 have hne:¬ g=w.heap.size + 1:=by omega
 have hne2:¬ w.heap.size + 1=g:=by omega
 clear ho hb hgl
 go_wp2_with fail
 go_loopw [4] (fun i wr=>∃ k:Nat,k≤256∧i=.int .i64 k∧Hid (OwnB wr (w.heap.size + 2) (.slice (some ⟨g,0,none⟩) 256 cc))∧Hid (Blk wr (w.heap.size + 1) 249 (setA 0 0 0 0))∧Hid (Below w.heap.size w wr)) (fun i _=>256 - (intOf i).toNat)
 case atStart=>exact ⟨0,by omega,rfl,HO2,HZ2,HL2⟩
 case round =>
  obtain ⟨k,hk,rfl,ho,hz,hbel⟩:=hrel
  by_cases hle:k < 256
  ·have d1:decide ((k:Int) < 256)=true:=by simp;omega
   have d2:decide (k < 256)=true:=by simp;omega
   obtain ⟨g',c',e',_,hgl,hcell⟩:=fU ho.out
   injection e' with e' _ _
   injection e' with e'
   injection e' with e'
   subst e'
   obtain ⟨⟨b0,g0⟩,f0⟩:=hcell k (by omega)
   have k1:(0:Int)≤(k:Int):=by omega
   have k2:(k:Int) < 256:=by omega
   clear hcell
   go_wp2_with fail
   go_roundw
   case rel=>exact ⟨k + 1,by omega,by go_num,hide (nX ho.out k (by omega) _),hide (hz.out.far (by simp;omega) _),hide (hbel.out.setCell (by simp;omega) _)⟩
   case measure=>simp [intOf];omega
  ·obtain rfl:k=256:=by omega
   have HM:=hide (kM _ g cc wr ho.out)
   go_wp2_with fail
   refine HM.out.mono ?_
   rintro e w4 ⟨a',b',c',d',rfl,hb4⟩
   unfold setA
   have HZ4:=hide (hz.out.below hb4)
   have HL4:=hide (hbel.out.trans (hb4.mono hbel.out.size))
   clear hb4
   obtain ⟨⟨z0,z1,z2,z3⟩,e0,e1,e2,e3⟩:=HZ4.out.four
   go_wp2_with fail
   rw [dW]
   have r2:=HZ4.out.put [.int .u64 a',.int .u64 b',.int .u64 c',.int .u64 d'] rfl
   have r3:=bX [.int .u64 a',.int .u64 b',.int .u64 c',.int .u64 d'] 0 HL4.out (show w.heap.size≤w.heap.size + 1 by omega)
   obtain ⟨wz,hz⟩:∃ wz,wz=aE w4 (w.heap.size + 1) 0 [.int .u64 a',.int .u64 b',.int .u64 c',.int .u64 d']:=⟨_,rfl⟩
   rw [← hz] at r2 r3 ⊢
   obtain ⟨⟨g0,g1,g2,g3⟩,_⟩:=r2.four
   refine bodyPost_ret (v:=.agg #[.int .u64 a',.int .u64 b',.int .u64 c',.int .u64 d']) (by simp [results,Tryz.results215,go_sem,g0,g1,g2,g3]) rfl ?_
   exact ⟨a',b',c',d',rfl,r3⟩
theorem bl_nil {s:ByteArray} (h:s.size=0):s.data.toList=[]:=List.eq_nil_of_length_eq_zero (by rw [cT];exact h)
theorem kE {s:ByteArray} (h:0 < s.size):s.data.toList=s[0] :: s.data.toList.drop 1:=by
 have:=bL h
 unfold suf at this
 simpa using this
theorem bl_cons2 {s:ByteArray} (h:1 < s.size):s.data.toList=s[0] :: s[1] :: s.data.toList.drop 2:=by
 have h1:=bL (s:=s) (a:=0) (by omega)
 have h2:=bL (s:=s) (a:=1) h
 unfold suf at h1 h2
 rw [List.drop_zero] at h1
 exact h1.trans (congrArg _ h2)
theorem iK {a:UInt8} {n:Nat} (h:¬ a=UInt8.ofNat n) (hn:n < 256):((a.toNat:Int) == (n:Int))=false:=by
 have:¬ a.toNat=n:=fun e=>h (by rw [← e];simp)
 simp
 omega
set_option maxRecDepth 100000 in
theorem refOne_c (s:ByteArray) (w:World) (hs:s.size≤9223372036854775807):Calls Tryz.prog 213 #[.string s] w fun e w' =>
 e=.returned (.tuple #[.int .i64 (aR s.data.toList).2.1.toNat,.int .i64 (aR s.data.toList).1,.bool (decide ((aR s.data.toList).2.2=0))])∧w'=w:=by
 by_cases h0:s.size=0
 ·have HR:=hide (show aR s.data.toList=(0,0,3) by rw [bl_nil h0];rfl)
  have e1:=vF h0
  have e2:s.toList.isEmpty=true:=by rw [e1];rfl
  clear h0
  go_enter Tryz.func213,Tryz.ntmps213
  go_wp2_with fail
  refine bodyPost_ret (v:=.tuple #[.int .i64 0,.int .i64 0,.bool false]) (by simp [results,Tryz.results213,go_sem]) rfl ?_
  rw [HR.out]
  exact ⟨rfl,rfl⟩
 ·have e2:=rQ h0
  have hp:0 < s.size:=by omega
  have hp2:(0:Int) < (s.size:Int):=by omega
  by_cases h93:s[0]=93
  ·have HR:=hide (show aR s.data.toList=(0,0,2) by rw [kE hp,h93];rfl)
   have b1:((s[0].toNat:Int) == 93)=true:=by rw [h93];rfl
   clear h93
   go_enter Tryz.func213,Tryz.ntmps213
   go_wp2_with fail
   refine bodyPost_ret (v:=.tuple #[.int .i64 0,.int .i64 0,.bool false]) (by simp [results,Tryz.results213,go_sem]) rfl ?_
   rw [HR.out]
   exact ⟨rfl,rfl⟩
  have b1:((s[0].toNat:Int) == 93)=false:=iK (n:=93) h93 (by omega)
  by_cases h45:s[0]=45
  ·have HR:=hide (show aR s.data.toList=(0,0,2) by rw [kE hp,h45];rfl)
   have b2:((s[0].toNat:Int) == 45)=true:=by rw [h45];rfl
   clear h45 h93
   go_enter Tryz.func213,Tryz.ntmps213
   go_wp2_with fail
   refine bodyPost_ret (v:=.tuple #[.int .i64 0,.int .i64 0,.bool false]) (by simp [results,Tryz.results213,go_sem]) rfl ?_
   rw [HR.out]
   exact ⟨rfl,rfl⟩
  have b2:((s[0].toNat:Int) == 45)=false:=iK (n:=45) h45 (by omega)
  have hb:s[0].toNat < 256:=UInt8.toNat_lt _
  by_cases h37:s[0]=37
  ·have b3:((s[0].toNat:Int) != 37)=false:=by rw [h37];rfl
   have b3':((s[0].toNat:Int) == 37)=true:=by rw [h37];rfl
   by_cases h1:s.size=1
   ·have HR:=hide (show aR s.data.toList=(1,0,3) by rw [kE hp,h37,List.drop_eq_nil_of_le (by rw [cT];omega)];rfl)
    have d1:((s.size:Int) == 1)=true:=by rw [h1];rfl
    clear h37 h93 h45
    go_enter Tryz.func213,Tryz.ntmps213
    go_wp2_with fail
    refine bodyPost_ret (v:=.tuple #[.int .i64 0,.int .i64 1,.bool false]) (by simp [results,Tryz.results213,go_sem]) rfl ?_
    rw [HR.out]
    exact ⟨rfl,rfl⟩
   ·have hp3:1 < s.size:=by omega
    have hp4:(1:Int) < (s.size:Int):=by omega
    have HR:=hide (show aR s.data.toList=(2,s[1],0) by rw [bl_cons2 hp3,h37];rfl)
    have d1:((s.size:Int) == 1)=false:=by simp;omega
    have hb2:s[1].toNat < 256:=UInt8.toNat_lt _
    have w1:IntKind.i64.wrap (s[1].toNat:Int)=(s[1].toNat:Int):=IntWalk.i64_in _ (by omega)
    clear h37 h93 h45
    go_enter Tryz.func213,Tryz.ntmps213
    go_wp2_with fail
    refine bodyPost_ret (v:=.tuple #[.int .i64 s[1].toNat,.int .i64 2,.bool true]) (by simp [results,Tryz.results213,go_sem]) rfl ?_
    rw [HR.out]
    exact ⟨rfl,rfl⟩
  ·have b3':((s[0].toNat:Int) == 37)=false:=iK (n:=37) h37 (by omega)
   have b3:((s[0].toNat:Int) != 37)=true:=by simp [bne,b3']
   have HR:=hide (show aR s.data.toList=(1,s[0],0) by rw [kE hp];simp [aR,h37,h93,h45])
   have w1:IntKind.i64.wrap (s[0].toNat:Int)=(s[0].toNat:Int):=IntWalk.i64_in _ (by omega)
   clear h37 h93 h45
   go_enter Tryz.func213,Tryz.ntmps213
   go_wp2_with fail
   refine bodyPost_ret (v:=.tuple #[.int .i64 s[0].toNat,.int .i64 1,.bool true]) (by simp [results,Tryz.results213,go_sem]) rfl ?_
   rw [HR.out]
   exact ⟨rfl,rfl⟩
set_option maxRecDepth 100000 in
theorem wX (s:ByteArray) (k:Nat) (w:World) (hs:s.size≤9223372036854775807):Calls Tryz.prog 212 #[.string s,.int .i64 k] w fun e w' =>
 e=.returned (.tuple #[.agg (setA 0 0 0 0),.int .i64 k,.int .i64 ((if k=s.size then 3 else 2:Nat):Int)])∧Below w.heap.size w w':=by
 unfold setA
 by_cases h:k=s.size
 ·subst h
  have d1:((s.size:Int) == (s.size:Int))=true:=by simp
  rw [if_pos rfl]
  go_enter Tryz.func212,Tryz.ntmps212
  go_wp2_with fail
  refine bodyPost_ret (v:=.tuple #[.agg #[.int .u64 0,.int .u64 0,.int .u64 0,.int .u64 0],.int .i64 s.size,.int .i64 3]) (by simp [results,Tryz.results212,go_sem]) rfl ?_
  exact ⟨rfl,aK _ _⟩
 ·have d1:((k:Int) == (s.size:Int))=false:=by simp;omega
  rw [if_neg h]
  clear h
  go_enter Tryz.func212,Tryz.ntmps212
  go_wp2_with fail
  refine bodyPost_ret (v:=.tuple #[.agg #[.int .u64 0,.int .u64 0,.int .u64 0,.int .u64 0],.int .i64 k,.int .i64 2]) (by simp [results,Tryz.results212,go_sem]) rfl ?_
  exact ⟨rfl,aK _ _⟩
theorem sF {s:ByteArray} {a:Nat} (ha:a≤s.size) (h:(aR (suf s a)).2.2≠0):(aR (suf s a)).2.2=if a + (aR (suf s a)).1=s.size then 3 else 2:=by
 rcases Nat.lt_or_ge a s.size with hlt | hge
 ·rw [bL hlt] at h ⊢
  by_cases h37:s[a]=37
  ·rcases Nat.lt_or_ge (a + 1) s.size with hl2 | hg2
   ·rw [bL hl2,h37] at h
    simp [aR] at h
   ·rw [dU hg2,h37]
    have:a + 1=s.size:=by omega
    simp [aR,this]
  ·by_cases h9:s[a]=93∨s[a]=45
   ·have:¬ a=s.size:=by omega
    simp [aR,h37,h9,this]
   ·simp [aR,h37,h9] at h
 ·rw [dU hge]
  have:a=s.size:=by omega
  simp [aR,this]
end Go.Proofs.YtaioaojfdngfdaaGreatDoor
