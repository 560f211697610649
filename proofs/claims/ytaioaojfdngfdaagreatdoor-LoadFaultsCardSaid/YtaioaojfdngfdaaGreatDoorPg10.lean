/- Parts of a chain of lemmas: Rdr, Cls3, Rdr2. Conditions: those of each theorem. -/
import Derived.Test.YtaioaojfdngfdaaGreatDoorPg09
import Derived.Test.YtaioaojfdngfdaaGreatDoorPg04
set_option linter.unusedVariables false
set_option linter.unusedSimpArgs false
set_option maxHeartbeats 3200000
namespace Go.Proofs.YtaioaojfdngfdaaGreatDoor
open Go.RowKit
def RAt (w:World) (r:Nat) (s:ByteArray) (at_:Nat) (bad:Nat):Prop:=Blk w r 320 #[.string s,.int .i64 at_,.int .i64 bad]
theorem RAt.cells {w:World} {r:Nat} {s:ByteArray} {a b:Nat} (h:RAt w r s a b) :
 (w.cell? ⟨r,0,none⟩=some (.string s)∧w.cell? ⟨r,1,none⟩=some (.int .i64 a)∧w.cell? ⟨r,2,none⟩=some (.int .i64 b))∧w.frozen? ⟨r,0,none⟩=false∧w.frozen? ⟨r,1,none⟩=false∧w.frozen? ⟨r,2,none⟩=false:=Blk.three h
theorem RAt.lt {w:World} {r:Nat} {s:ByteArray} {a b:Nat} (h:RAt w r s a b):r < w.heap.size:=Blk.lt h
theorem RAt.at_ {w:World} {r:Nat} {s:ByteArray} {a b:Nat} (h:RAt w r s a b) (k:Nat):RAt (w.setCell ⟨r,1,none⟩ (.int .i64 k)) r s k b:=Blk.set_ h 1 _
theorem RAt.bad {w:World} {r:Nat} {s:ByteArray} {a b:Nat} (h:RAt w r s a b) (k:Nat):RAt (w.setCell ⟨r,2,none⟩ (.int .i64 k)) r s a k:=Blk.set_ h 2 _
theorem RAt.only {w w':World} {r:Nat} {s:ByteArray} {a b:Nat} {S:Nat→Prop} (h:RAt w r s a b) (k:Only S w w') (hr:¬ S r):RAt w' r s a b:=Blk.only h k hr
theorem RAt.drewN {w:World} {r:Nat} {s:ByteArray} {a b:Nat} (h:RAt w r s a b) (n:Nat):RAt (w.drewN n) r s a b:=Blk.drewN h n
def isL (s:ByteArray) (at_:Nat) (b:UInt8):Bool:=decide (s.data.toList[at_]?=some b)
theorem gG {s:ByteArray} {k:Nat} {b:UInt8} (h:s.size≤k):isL s k b=false:=by
 unfold isL
 rw [List.getElem?_eq_none (by rw [cT];exact h)]
 rfl
theorem cS {s:ByteArray} {k:Nat} {b:UInt8} (h:k < s.size):isL s k b=decide (s[k]=b):=by
 unfold isL
 rw [rR s k h]
 simp
theorem pT {a b:UInt8}:decide (a=b)=((a.toNat:Int) == (b.toNat:Int)):=by
 rw [Bool.eq_iff_iff]
 simp
 rw [Int.ofNat_inj]
 exact UInt8.toNat_inj.symm
set_option maxRecDepth 100000 in
theorem is_c {w:World} {r:Nat} {s:ByteArray} {a b:Nat} (c:UInt8) (h:RAt w r s a b) (hs:s.size≤9223372036854775807) (ha:a≤s.size) :
 Calls Tryz.prog 250 #[.pointer (some ⟨r,0,none⟩),.int .u8 c.toNat] w fun e w'=>e=.returned (.bool (isL s a c))∧∃ n,w'=w.drewN n:=by
 obtain ⟨⟨g0,g1,g2⟩,_⟩:=h.cells
 by_cases hlt:a < s.size
 ·have HI:=hide ((cS (b:=c) hlt).trans pT)
  have d1:decide ((a:Int) < (s.size:Int))=true:=by simp;omega
  have j1:(0:Int)≤(a:Int):=by omega
  have j2:(a:Int) < (s.size:Int):=by omega
  clear h
  go_enter Tryz.func250,Tryz.ntmps250
  go_wp2_with fail
  go_quiet (fail)
  go_wp2
  go_ret
  exact ⟨by rw [HI.out];rfl,_,rfl⟩
 ·have HI:=hide (gG (b:=c) (show s.size≤a by omega))
  have d1:decide ((a:Int) < (s.size:Int))=false:=by simp;omega
  clear h
  go_enter Tryz.func250,Tryz.ntmps250
  go_wp2_with fail
  go_quiet (fail)
  go_wp2
  go_ret
  exact ⟨by rw [HI.out];rfl,_,rfl⟩
set_option maxRecDepth 100000 in
theorem stop_c {w:World} {r:Nat} {s:ByteArray} {a b:Nat} (h:RAt w r s a b) (hs:s.size≤9223372036854775807) (ha:a≤s.size) :
 Calls Tryz.prog 251 #[.pointer (some ⟨r,0,none⟩)] w fun e w'=>e=.returned (.tuple #[])∧RAt w' r s a (if a=s.size then 3 else 2)∧Only (· = r) w w':=by
 obtain ⟨⟨g0,g1,g2⟩,f0,f1,f2⟩:=h.cells
 have H:=hide h
 clear h
 by_cases hlt:a=s.size
 ·subst hlt
  have d1:decide ((s.size:Int)≤(s.size:Int))=true:=by simp
  rw [if_pos rfl]
  go_enter Tryz.func251,Tryz.ntmps251
  go_wp2_with fail
  go_quiet (fail)
  go_wp2
  go_end0
  exact ⟨rfl,(((H.out.bad 2).drewN _).at_ s.size).bad 3,((((nY w r 2 _).drewN _).setCell (Or.inl rfl) _).setCell (Or.inl rfl) _)⟩
 ·have d1:decide ((s.size:Int)≤(a:Int))=false:=by simp;omega
  rw [if_neg hlt]
  go_enter Tryz.func251,Tryz.ntmps251
  go_wp2_with fail
  go_quiet (fail)
  go_wp2
  go_end0
  exact ⟨rfl,(H.out.bad 2).drewN _,(nY w r 2 _).drewN _⟩
def suf (s:ByteArray) (a:Nat):List UInt8:=s.data.toList.drop a
theorem dU {s:ByteArray} {a:Nat} (h:s.size≤a):suf s a=[]:=List.drop_eq_nil_of_le (by rw [cT];exact h)
theorem bL {s:ByteArray} {a:Nat} (h:a < s.size):suf s a=s[a] :: suf s (a + 1):=by
 unfold suf
 rw [List.drop_eq_getElem_cons (by rw [cT];exact h)]
 rfl
theorem dS (s:ByteArray) (a n:Nat):(suf s a).drop n=suf s (a + n):=by unfold suf;rw [List.drop_drop]
theorem eS (s:ByteArray) (a:Nat):(suf s a).length=s.size - a:=by unfold suf;rw [List.length_drop,cT]
def gV (w:World) (r:Nat) (s:ByteArray) (a:Nat) (e:Ending) (w':World):Prop :=
 e=.returned (.int .u8 (aR (suf s a)).2.1.toNat)∧RAt w' r s (a + (aR (suf s a)).1) (aR (suf s a)).2.2∧Only (· = r) w w'
theorem isq {w:World} {r:Nat} {s:ByteArray} {a b:Nat} (c:UInt8) (n:Int) (v:Bool) (h:RAt w r s a b) (hs:s.size≤9223372036854775807) (ha:a≤s.size) (hn:(c.toNat:Int)=n) (hv:isL s a c=v) :
 Calls Tryz.prog 250 #[.pointer (some ⟨r,0,none⟩),.int .u8 n] w fun e w'=>e=.returned (.bool v)∧∃ n,w'=w.drewN n:=by
 subst hn hv
 exact is_c c h hs ha
def IsV (s:ByteArray) (a:Nat) (n:Int) (v:Bool):Prop:=0≤n∧n < 256∧isL s a (UInt8.ofNat n.toNat)=v
theorem isv_q {w:World} {r:Nat} {s:ByteArray} {a b:Nat} {n:Int} {v:Bool} (h:RAt w r s a b) (hs:s.size≤9223372036854775807) (ha:a≤s.size) (hv:IsV s a n v) :
 Calls Tryz.prog 250 #[.pointer (some ⟨r,0,none⟩),.int .u8 n] w fun e w'=>e=.returned (.bool v)∧∃ n,w'=w.drewN n:=by
 obtain ⟨h0,h1,h2⟩:=hv
 refine isq (UInt8.ofNat n.toNat) n v h hs ha ?_ h2
 rw [UInt8.toNat_ofNat_of_lt' (show n.toNat < UInt8.size from by show n.toNat < 256;omega)]
 omega
set_option maxRecDepth 100000 in
theorem sign_c {w:World} {r:Nat} {s:ByteArray} {a:Nat} (h:RAt w r s a 0) (hs:s.size≤9223372036854775807) (ha:a≤s.size) :
 Calls Tryz.prog 255 #[.pointer (some ⟨r,0,none⟩)] w (gV w r s a):=by
 have H:=hide h
 obtain ⟨⟨g0,g1,g2⟩,f0,f1,f2⟩:=h.cells
 have HST:=hide (fun (w':World) (a':Nat) (h':RAt w' r s a' 0) (ha':a'≤s.size)=>stop_c h' hs ha')
 by_cases h0:a < s.size
 ·by_cases h1:s[a]=37
  ·have i37:isL s a 37=true:=by rw [cS h0,h1];rfl
   have HQ:=hide (isq 37 37 true h hs ha rfl i37)
   have w1:IntKind.i64.wrap ((a:Int) + 1)=(a:Int) + 1:=IntWalk.i64_in _ (by omega)
   clear i37 h
   by_cases h2:a + 1 < s.size
   ·have HR:=hide (show aR (suf s a)=(2,s[a + 1],0) by rw [bL h0,bL h2,h1];rfl)
    have d1:decide ((s.size:Int)≤(a:Int) + 1)=false:=by simp;omega
    have w2:IntKind.i64.wrap ((a:Int) + 1 + 1)=(a:Int) + 2:=by rw [IntWalk.i64_in _ (by omega)];omega
    have w3:IntKind.i64.wrap ((a:Int) + 2 - 1)=(a:Int) + 1:=by rw [IntWalk.i64_in _ (by omega)];omega
    have w4:((a:Int) + 1).toNat=a + 1:=by omega
    have j1:(0:Int)≤(a:Int) + 1:=by omega
    have j2:(a:Int) + 1 < (s.size:Int):=by omega
    clear h1
    go_enter Tryz.func255,Tryz.ntmps255
    go_wp2_with fail
    refine HQ.out.mono ?_
    rintro e wq ⟨rfl,n,hq⟩
    have HA:=hide (show RAt wq r s a 0 by rw [hq];exact H.out.drewN n)
    have HO:=hide (show Only (· = r) w wq by rw [hq];exact (Only.refl _ w).drewN n)
    clear hq g0 g1 g2 f0 f1 f2
    obtain ⟨⟨g0,g1,g2⟩,f0,f1,f2⟩:=HA.out.cells
    go_wp2_with fail
    go_quiet (fail)
    go_wp2_with fail
    go_quiet (fail)
    go_wp2_with fail
    go_ret
    unfold gV
    rw [HR.out]
    exact ⟨rfl,(((HA.out.at_ (a + 1)).drewN _).at_ (a + 2)).drewN _,(((((HO.out).setCell (Or.inl rfl) _).drewN _).setCell (Or.inl rfl) _).drewN _)⟩
   ·have e:a + 1=s.size:=by omega
    have HR:=hide (show aR (suf s a)=(1,0,3) by rw [bL h0,dU (by omega),h1];rfl)
    have d1:decide ((s.size:Int)≤(a:Int) + 1)=true:=by simp;omega
    have HE:=hide e
    clear h1 e
    go_enter Tryz.func255,Tryz.ntmps255
    go_wp2_with fail
    refine HQ.out.mono ?_
    rintro e wq ⟨rfl,n,hq⟩
    have HA:=hide (show RAt wq r s a 0 by rw [hq];exact H.out.drewN n)
    have HO:=hide (show Only (· = r) w wq by rw [hq];exact (Only.refl _ w).drewN n)
    clear hq g0 g1 g2 f0 f1 f2
    obtain ⟨⟨g0,g1,g2⟩,f0,f1,f2⟩:=HA.out.cells
    go_wp2_with fail
    go_quiet (fail)
    go_wp2_with fail
    refine (HST.out _ (a + 1) ((HA.out.at_ (a + 1)).drewN _) (by omega)).mono ?_
    rintro e w9 ⟨rfl,hr9,ho9⟩
    rw [if_pos HE.out] at hr9
    have HR9:=hide hr9
    have HO9:=hide ho9
    clear hr9 ho9
    go_wp2_with fail
    go_ret
    unfold gV
    rw [HR.out]
    exact ⟨rfl,HR9.out,((((HO.out).setCell (Or.inl rfl) _).drewN _)).trans HO9.out⟩
  ·have i37:isL s a 37=false:=by rw [cS h0];simp [h1]
   have HQ:=hide (isq 37 37 false h hs ha rfl i37)
   have HI:=hide (fun (w':World) (n:Int) (v:Bool) (h':RAt w' r s a 0) (hv:IsV s a n v)=>isv_q h' hs ha hv)
   have d1:decide ((s.size:Int)≤(a:Int))=false:=by simp;omega
   have e93:=cS (b:=93) h0
   have e45:=cS (b:=45) h0
   have HE:=hide (show ¬ a=s.size by omega)
   clear i37 h
   by_cases h2:s[a]=93
   ·have HR:=hide (show aR (suf s a)=(0,0,2) by rw [bL h0,h2];rfl)
    have v93:IsV s a 93 true:=⟨by decide,by decide,e93.trans (by rw [h2];rfl)⟩
    clear h1 h2 e93 e45
    go_enter Tryz.func255,Tryz.ntmps255
    go_wp2_with fail
    refine HQ.out.mono ?_
    rintro e wq ⟨rfl,n,hq⟩
    have HA:=hide (show RAt wq r s a 0 by rw [hq];exact H.out.drewN n)
    have HO:=hide (show Only (· = r) w wq by rw [hq];exact (Only.refl _ w).drewN n)
    clear hq g0 g1 g2 f0 f1 f2
    obtain ⟨⟨g0,g1,g2⟩,f0,f1,f2⟩:=HA.out.cells
    go_wp2_with fail
    go_quiet ((go_at_call 250;exact Calls.quiet_of (HI.out _ _ _ (HA.out.drewN _) (by assumption))))
    go_wp2_with fail
    refine (HST.out _ a (HA.out.drewN _) ha).mono ?_
    rintro e w9 ⟨rfl,hr9,ho9⟩
    rw [if_neg HE.out] at hr9
    have HR9:=hide hr9
    have HO9:=hide ho9
    clear hr9 ho9
    go_wp2_with fail
    go_ret
    unfold gV
    rw [HR.out]
    exact ⟨rfl,HR9.out,(HO.out.drewN _).trans HO9.out⟩
   ·have v93:IsV s a 93 false:=⟨by decide,by decide,e93.trans (by simp [h2])⟩
    by_cases h3:s[a]=45
    ·have HR:=hide (show aR (suf s a)=(0,0,2) by rw [bL h0,h3];rfl)
     have v45:IsV s a 45 true:=⟨by decide,by decide,e45.trans (by rw [h3];rfl)⟩
     clear h1 h2 h3 e93 e45
     go_enter Tryz.func255,Tryz.ntmps255
     go_wp2_with fail
     refine HQ.out.mono ?_
     rintro e wq ⟨rfl,n,hq⟩
     have HA:=hide (show RAt wq r s a 0 by rw [hq];exact H.out.drewN n)
     have HO:=hide (show Only (· = r) w wq by rw [hq];exact (Only.refl _ w).drewN n)
     clear hq g0 g1 g2 f0 f1 f2
     obtain ⟨⟨g0,g1,g2⟩,f0,f1,f2⟩:=HA.out.cells
     go_wp2_with fail
     go_quiet ((go_at_call 250;exact Calls.quiet_of (HI.out _ _ _ (HA.out.drewN _) (by assumption))))
     go_wp2_with fail
     refine (HST.out _ a (HA.out.drewN _) ha).mono ?_
     rintro e w9 ⟨rfl,hr9,ho9⟩
     rw [if_neg HE.out] at hr9
     have HR9:=hide hr9
     have HO9:=hide ho9
     clear hr9 ho9
     go_wp2_with fail
     go_ret
     unfold gV
     rw [HR.out]
     exact ⟨rfl,HR9.out,(HO.out.drewN _).trans HO9.out⟩
    ·have HR:=hide (show aR (suf s a)=(1,s[a],0) by rw [bL h0];simp [aR,h1,h2,h3])
     have v45:IsV s a 45 false:=⟨by decide,by decide,e45.trans (by simp [h3])⟩
     have w1:IntKind.i64.wrap ((a:Int) + 1)=(a:Int) + 1:=IntWalk.i64_in _ (by omega)
     have w3:IntKind.i64.wrap ((a:Int) + 1 - 1)=(a:Int):=by rw [IntWalk.i64_in _ (by omega)];omega
     have w5:IntKind.i64.wrap (a:Int)=(a:Int):=IntWalk.i64_in _ (by omega)
     have j1:(0:Int)≤(a:Int):=by omega
     have j2:(a:Int) < (s.size:Int):=by omega
     clear h1 h2 h3 e93 e45
     go_enter Tryz.func255,Tryz.ntmps255
     go_wp2_with fail
     refine HQ.out.mono ?_
     rintro e wq ⟨rfl,n,hq⟩
     have HA:=hide (show RAt wq r s a 0 by rw [hq];exact H.out.drewN n)
     have HO:=hide (show Only (· = r) w wq by rw [hq];exact (Only.refl _ w).drewN n)
     clear hq g0 g1 g2 f0 f1 f2
     obtain ⟨⟨g0,g1,g2⟩,f0,f1,f2⟩:=HA.out.cells
     go_wp2_with fail
     go_quiet ((go_at_call 250;exact Calls.quiet_of (HI.out _ _ _ (HA.out.drewN _) (by assumption))))
     go_wp2_with fail
     go_quiet (fail)
     go_wp2_with fail
     go_ret
     unfold gV
     rw [HR.out]
     exact ⟨rfl,((HA.out.drewN _).at_ (a + 1)).drewN _,(((HO.out.drewN _).setCell (Or.inl rfl) _).drewN _)⟩
 ·obtain rfl:a=s.size:=by omega
  have HQ:=hide (isq 37 37 false h hs ha rfl (gG (Nat.le_refl _)))
  have HR:=hide (show aR (suf s s.size)=(0,0,3) by rw [dU (Nat.le_refl _)];rfl)
  have d1:decide ((s.size:Int)≤(s.size:Int))=true:=by simp
  clear h
  go_enter Tryz.func255,Tryz.ntmps255
  go_wp2_with fail
  refine HQ.out.mono ?_
  rintro e wq ⟨rfl,n,hq⟩
  have HA:=hide (show RAt wq r s s.size 0 by rw [hq];exact H.out.drewN n)
  have HO:=hide (show Only (· = r) w wq by rw [hq];exact (Only.refl _ w).drewN n)
  clear hq g0 g1 g2 f0 f1 f2
  obtain ⟨⟨g0,g1,g2⟩,f0,f1,f2⟩:=HA.out.cells
  go_wp2_with fail
  go_quiet (fail)
  go_wp2_with fail
  refine (HST.out _ s.size (HA.out.drewN _) ha).mono ?_
  rintro e w9 ⟨rfl,hr9,ho9⟩
  rw [if_pos rfl] at hr9
  have HR9:=hide hr9
  have HO9:=hide ho9
  clear hr9 ho9
  go_wp2_with fail
  go_ret
  unfold gV
  rw [HR.out]
  exact ⟨rfl,HR9.out,(HO.out.drewN _).trans HO9.out⟩
theorem jO {B:Nat} {a b:World} (h:Below B a b):Below B a b.drew:=⟨h.os,h.tape,h.output,h.size,h.block⟩
set_option maxRecDepth 100000 in
theorem or_c (x0 x1 x2 x3 y0 y1 y2 y3:Int) (w:World):Calls Tryz.prog 253 #[.agg (setA x0 x1 x2 x3),.agg (setA y0 y1 y2 y3)] w (fO w):=by
 unfold setA
 go_enter Tryz.func253,Tryz.ntmps253
 go_wp2
 go_loopw [5,6] (fun _ i wr=>∃ k:Nat,k≤4∧i=.int .i64 k∧Hid (∃ a b c d,Blk wr w.heap.size 249 (setA a b c d))∧Hid (Blk wr (w.heap.size + 1) 249 (setA y0 y1 y2 y3))∧Hid (Blk wr (w.heap.size + 2) 249 (setA 0 0 0 0))∧Hid (Below w.heap.size w wr)) (fun _ i _=>4 - (intOf i).toNat)
 case atStart=>exact ⟨0,by omega,rfl,hide ⟨x0,x1,x2,x3,((Blk.new _ _ _).alloc _).alloc _⟩,hide ((Blk.new' (by simp)).alloc _),hide (Blk.new' (by simp)),hide (((aK _ _).alloc (by simp) _).alloc (by simp;omega) _)⟩
 case round =>
  obtain ⟨k,hk,rfl,hb,hy,hz,hbel⟩:=hrel
  obtain ⟨a,b,c,d,hb⟩:=hb.out
  have HB:=hide hb
  obtain ⟨⟨g0,g1,g2,g3⟩,f0,f1,f2,f3⟩:=hb.four
  clear hb
  by_cases hle:k < 4
  ·obtain ⟨⟨q0,q1,q2,q3⟩,_⟩:=hy.out.four
   have h4:k=0∨k=1∨k=2∨k=3:=by omega
   rcases h4 with rfl | rfl | rfl | rfl
   ·go_wp2_with fail
    go_region
    all_goals
     go_wp2_with fail
     go_roundw
     case rel=>exact ⟨1,by omega,rfl,hide ⟨_,b,c,d,(HB.out.set_ 0 _).drew⟩,hide (hy.out.far (by simp) _).drew,hide (hz.out.far (by simp) _).drew,hide (jO (hbel.out.setCell (Nat.le_refl _) _))⟩
     case measure=>simp [intOf]
   ·go_wp2_with fail
    go_region
    all_goals
     go_wp2_with fail
     go_roundw
     case rel=>exact ⟨2,by omega,rfl,hide ⟨a,_,c,d,(HB.out.set_ 1 _).drew⟩,hide (hy.out.far (by simp) _).drew,hide (hz.out.far (by simp) _).drew,hide (jO (hbel.out.setCell (Nat.le_refl _) _))⟩
     case measure=>simp [intOf]
   ·go_wp2_with fail
    go_region
    all_goals
     go_wp2_with fail
     go_roundw
     case rel=>exact ⟨3,by omega,rfl,hide ⟨a,b,_,d,(HB.out.set_ 2 _).drew⟩,hide (hy.out.far (by simp) _).drew,hide (hz.out.far (by simp) _).drew,hide (jO (hbel.out.setCell (Nat.le_refl _) _))⟩
     case measure=>simp [intOf]
   ·go_wp2_with fail
    go_region
    all_goals
     go_wp2_with fail
     go_roundw
     case rel=>exact ⟨4,by omega,rfl,hide ⟨a,b,c,_,(HB.out.set_ 3 _).drew⟩,hide (hy.out.far (by simp) _).drew,hide (hz.out.far (by simp) _).drew,hide (jO (hbel.out.setCell (Nat.le_refl _) _))⟩
     case measure=>simp [intOf]
  ·obtain rfl:k=4:=by omega
   obtain ⟨⟨z0,z1,z2,z3⟩,e0,e1,e2,e3⟩:=hz.out.four
   go_wp2_with fail
   rw [dW]
   have r2:=hz.out.put [.int .u64 a,.int .u64 b,.int .u64 c,.int .u64 d] rfl
   have r3:=bX [.int .u64 a,.int .u64 b,.int .u64 c,.int .u64 d] 0 hbel.out (show w.heap.size≤w.heap.size + 2 by omega)
   obtain ⟨wz,hz⟩:∃ wz,wz=aE wr (w.heap.size + 2) 0 [.int .u64 a,.int .u64 b,.int .u64 c,.int .u64 d]:=⟨_,rfl⟩
   rw [← hz] at r2 r3 ⊢
   obtain ⟨⟨g0,g1,g2,g3⟩,_⟩:=r2.four
   refine bodyPost_ret (v:=.agg #[.int .u64 a,.int .u64 b,.int .u64 c,.int .u64 d]) (by simp [results,Tryz.results253,go_sem,g0,g1,g2,g3]) rfl ?_
   exact ⟨a,b,c,d,rfl,r3⟩
theorem part_eq0 {s:ByteArray} {a n e:Nat} {x:UInt8} (hS:aR (suf s a)=(n,x,e)) (he:e≠0):bH (suf s a)=(n,e):=by
 unfold bH
 rw [hS,if_pos he]
theorem fG {s:ByteArray} {k:Nat} {b:UInt8} (h:isL s k b=true):suf s k=b :: suf s (k + 1)∧k < s.size:=by
 by_cases hk:k < s.size
 ·rw [cS hk] at h
  exact ⟨by rw [bL hk,show s[k]=b by simpa using h],hk⟩
 ·rw [gG (by omega)] at h
  cases h
theorem vU {s:ByteArray} {k:Nat} {b:UInt8} (h:isL s k b=false) (r:List UInt8):suf s k≠b :: r:=by
 intro e
 by_cases hk:k < s.size
 ·rw [cS hk] at h
  rw [bL hk] at e
  injection e with e1 _
  simp [e1] at h
 ·rw [dU (by omega)] at e
  cases e
theorem part_eq1 {s:ByteArray} {a n:Nat} {x:UInt8} (hS:aR (suf s a)=(n,x,0)) (hd:isL s (a + n) 45=false):bH (suf s a)=(n,0):=by
 have h:=vU hd
 unfold bH
 rw [hS,if_neg (by simp),dS]
 split
 ·rfl
 ·rename_i c r e
  rw [if_neg]
  intro hc
  subst hc
  exact h _ e
theorem part_eq2 {s:ByteArray} {a n m f:Nat} {x y:UInt8} (hS:aR (suf s a)=(n,x,0)) (hd:isL s (a + n) 45=true) (hT:aR (suf s (a + n + 1))=(m,y,f)) :
 bH (suf s a)=if f≠0 then (n + 1 + m,f) else if y.toNat < x.toNat then (n + m,12) else (n + 1 + m,0):=by
 have h:=(fG hd).1
 unfold bH
 rw [hS,if_neg (by simp),dS,h]
 simp only [hT,if_true]
theorem bC {S:Nat→Prop} {w0 w:World} {g:Nat} (vs:List Value) (i:Nat) (h:Only S w0 w) (hg:w0.heap.size≤g):Only S w0 (aE w g i vs):=by
 induction vs generalizing w i with
 | nil=>exact h
 | cons v vs ih=>exact ih _ (h.setCell (Or.inr hg) v)
def lX (w:World) (r:Nat) (s:ByteArray) (p:Nat) (b:Nat) (e:Ending) (w':World):Prop :=
 ∃ x y z u:Int,e=.returned (.agg (setA x y z u))∧RAt w' r s p b∧Only (· = r) w w'
theorem sD (x y:UInt8) (w:World):Calls Tryz.prog 245 #[.int .u8 x.toNat,.int .u8 y.toNat] w (fO w):=span_c x.toNat y.toNat w (by have:=x.toNat_lt;omega) (by have:=y.toNat_lt;omega)
theorem signq {w:World} {r:Nat} {s:ByteArray} {a n e:Nat} {x:UInt8} (h:RAt w r s a 0) (hs:s.size≤9223372036854775807) (ha:a≤s.size) (hS:aR (suf s a)=(n,x,e)) :
 Calls Tryz.prog 255 #[.pointer (some ⟨r,0,none⟩)] w fun e' w'=>e'=.returned (.int .u8 x.toNat)∧RAt w' r s (a + n) e∧Only (· = r) w w':=by
 have h1:=sign_c h hs ha
 unfold gV at h1
 rw [hS] at h1
 exact h1
set_option maxRecDepth 100000 in
theorem part_c {w:World} {r:Nat} {s:ByteArray} {a:Nat} (h:RAt w r s a 0) (hs:s.size≤9223372036854775807) (ha:a≤s.size) :
 Calls Tryz.prog 252 #[.pointer (some ⟨r,0,none⟩)] w (lX w r s (a + (bH (suf s a)).1) (bH (suf s a)).2):=by
 obtain ⟨n,x,e1,hS⟩:∃ n x e1,aR (suf s a)=(n,x,e1):=⟨_,_,_,rfl⟩
 have hn:=i7 (suf s a)
 rw [hS,eS] at hn
 have hn':a + n≤s.size:=by simp only at hn;omega
 have HC:=hide (signq (h.only ((Only.refl (fun _=>False) w).alloc (.cells #[.int .u64 0,.int .u64 0,.int .u64 0,.int .u64 0] 249)) (fun h=>h)) hs ha hS)
 have hrl:=h.lt
 have HG0:=hide (Blk.new w 249 #[.int .u64 0,.int .u64 0,.int .u64 0,.int .u64 0])
 have HP0:=hide (fun he=>part_eq0 (s:=s) hS (e:=e1) he)
 have HP1:=hide (fun (he:e1=0) hd=>part_eq1 (s:=s) (a:=a) (n:=n) (x:=x) (he ▸ hS) hd)
 have HP2:=hide (fun (he:e1=0) hd m f y hT=>part_eq2 (s:=s) (a:=a) (n:=n) (x:=x) (m:=m) (f:=f) (y:=y) (he ▸ hS) hd hT)
 clear hn hS h
 go_enter Tryz.func252,Tryz.ntmps252
 go_wp2_with fail
 refine HC.out.mono ?_
 rintro e w2 ⟨rfl,hr2,ho2⟩
 have HR:=hide hr2
 have HO:=hide (show Only (· = r) w w2 from ((Only.refl _ w).alloc _).trans ho2)
 have HG:=hide (HG0.out.only ho2 (by omega))
 clear hr2 ho2 HC HG0
 have hrl':¬ r=w.heap.size:=by omega
 have hrg:¬ w.heap.size=r:=by omega
 obtain ⟨⟨g0,g1,g2⟩,f0,f1,f2⟩:=HR.out.cells
 cases he:((e1:Int) == 0) with
 | false =>
  have he':e1≠0:=by simpa using he
  have hne:((e1:Int) != 0)=true:=by simp [bne,he]
  have HPp:=hide (HP0.out he')
  clear HP0 HP1 HP2
  go_wp2_with fail
  refine (sD x x _).mono ?_
  rintro e w8 ⟨q0,q1,q2,q3,rfl,hb8⟩
  unfold setA
  have HR8:=hide (RAt.only (S:=fun _=>False) HR.out (Only.of_below hb8 (fun _=>False)) (fun h=>h))
  have HO8:=hide (HO.out.trans (Only.of_below hb8 (· = r)))
  have HG8:=hide (HG.out.below hb8)
  clear hb8 g0 g1 g2 f0 f1 f2 HR HO HG
  obtain ⟨⟨k0,k1,k2,k3⟩,l0,l1,l2,l3⟩:=HG8.out.four
  go_wp2_with fail
  rw [dW]
  have r2:=HG8.out.put [.int .u64 q0,.int .u64 q1,.int .u64 q2,.int .u64 q3] rfl
  have r3:=hide (bC [.int .u64 q0,.int .u64 q1,.int .u64 q2,.int .u64 q3] 0 HO8.out (Nat.le_refl w.heap.size))
  have r4:=hide (HR8.out.only (aP [.int .u64 q0,.int .u64 q1,.int .u64 q2,.int .u64 q3] 0 w8 w.heap.size) hrl')
  clear k0 k1 k2 k3 l0 l1 l2 l3
  obtain ⟨wz,hz⟩:∃ wz,wz=aE w8 w.heap.size 0 [.int .u64 q0,.int .u64 q1,.int .u64 q2,.int .u64 q3]:=⟨_,rfl⟩
  rw [← hz] at r2 r3 r4 ⊢
  obtain ⟨⟨k0,k1,k2,k3⟩,_⟩:=r2.four
  refine bodyPost_ret (v:=.agg #[.int .u64 q0,.int .u64 q1,.int .u64 q2,.int .u64 q3]) (by simp [results,Tryz.results252,go_sem,k0,k1,k2,k3]) rfl ?_
  rw [HPp.out]
  exact ⟨q0,q1,q2,q3,rfl,r4.out,r3.out⟩
 | true =>
  have he':e1=0:=by simpa using he
  have hne:((e1:Int) != 0)=false:=by simp [bne,he]
  cases hd:isL s (a + n) 45 with
  | false =>
   have HQ:=hide (fun (w':World) (b:Nat) (h:RAt w' r s (a + n) b)=>isq 45 45 false h hs hn' rfl hd)
   have HPp:=hide (HP1.out he' hd)
   clear HP0 HP1 HP2 hd he hn'
   subst he'
   go_wp2_with fail
   refine (HQ.out _ _ HR.out).mono ?_
   rintro e w3 ⟨rfl,m0,hq⟩
   replace HR:=hide (show RAt w3 r s (a + n) 0 by rw [hq];exact HR.out.drewN _)
   replace HO:=hide (show Only (· = r) w w3 by rw [hq];exact HO.out.drewN _)
   replace HG:=hide (show Blk w3 w.heap.size 249 #[.int .u64 0,.int .u64 0,.int .u64 0,.int .u64 0] by rw [hq];exact HG.out.drewN _)
   clear hq g0 g1 g2 f0 f1 f2
   obtain ⟨⟨g0,g1,g2⟩,f0,f1,f2⟩:=HR.out.cells
   go_wp2_with fail
   refine (sD x x _).mono ?_
   rintro e w8 ⟨q0,q1,q2,q3,rfl,hb8⟩
   unfold setA
   have HR8:=hide (RAt.only (S:=fun _=>False) HR.out (Only.of_below hb8 (fun _=>False)) (fun h=>h))
   have HO8:=hide (HO.out.trans (Only.of_below hb8 (· = r)))
   have HG8:=hide (HG.out.below hb8)
   clear hb8 g0 g1 g2 f0 f1 f2 HR HO HG
   obtain ⟨⟨k0,k1,k2,k3⟩,l0,l1,l2,l3⟩:=HG8.out.four
   go_wp2_with fail
   rw [dW]
   have r2:=HG8.out.put [.int .u64 q0,.int .u64 q1,.int .u64 q2,.int .u64 q3] rfl
   have r3:=hide (bC [.int .u64 q0,.int .u64 q1,.int .u64 q2,.int .u64 q3] 0 HO8.out (Nat.le_refl w.heap.size))
   have r4:=hide (HR8.out.only (aP [.int .u64 q0,.int .u64 q1,.int .u64 q2,.int .u64 q3] 0 w8 w.heap.size) hrl')
   clear k0 k1 k2 k3 l0 l1 l2 l3
   obtain ⟨wz,hz⟩:∃ wz,wz=aE w8 w.heap.size 0 [.int .u64 q0,.int .u64 q1,.int .u64 q2,.int .u64 q3]:=⟨_,rfl⟩
   rw [← hz] at r2 r3 r4 ⊢
   obtain ⟨⟨k0,k1,k2,k3⟩,_⟩:=r2.four
   refine bodyPost_ret (v:=.agg #[.int .u64 q0,.int .u64 q1,.int .u64 q2,.int .u64 q3]) (by simp [results,Tryz.results252,go_sem,k0,k1,k2,k3]) rfl ?_
   rw [HPp.out]
   exact ⟨q0,q1,q2,q3,rfl,r4.out,r3.out⟩
  | true =>
   have HQ:=hide (fun (w':World) (b:Nat) (h:RAt w' r s (a + n) b)=>isq 45 45 true h hs hn' rfl hd)
   have hlt:=(fG hd).2
   obtain ⟨m,y,e2,hT⟩:∃ m y e2,aR (suf s (a + n + 1))=(m,y,e2):=⟨_,_,_,rfl⟩
   have hm:=i7 (suf s (a + n + 1))
   rw [hT,eS] at hm
   have hm':a + n + 1 + m≤s.size:=by simp only at hm;omega
   have HS2:=hide (fun (w':World) (h:RAt w' r s (a + n + 1) 0)=>signq h hs (by omega) hT)
   have HPp:=hide (HP2.out he' hd m e2 y hT)
   have v1:IntKind.i64.wrap (((a + n:Nat):Int) + 1)=((a + n + 1:Nat):Int):=by rw [IntWalk.i64_in _ (by omega)];omega
   have v2:IntKind.i64.wrap ((a:Int) + (n:Int) + 1 + (m:Int) - 1)=(a:Int) + (n:Int) + (m:Int):=by rw [IntWalk.i64_in _ (by omega)];omega
   clear HP0 HP1 HP2 hd he hm hT
   subst he'
   go_wp2_with fail
   refine (HQ.out _ _ HR.out).mono ?_
   rintro e w3 ⟨rfl,m0,hq⟩
   replace HR:=hide (show RAt w3 r s (a + n) 0 by rw [hq];exact HR.out.drewN _)
   replace HO:=hide (show Only (· = r) w w3 by rw [hq];exact HO.out.drewN _)
   replace HG:=hide (show Blk w3 w.heap.size 249 #[.int .u64 0,.int .u64 0,.int .u64 0,.int .u64 0] by rw [hq];exact HG.out.drewN _)
   clear hq g0 g1 g2 f0 f1 f2
   obtain ⟨⟨g0,g1,g2⟩,f0,f1,f2⟩:=HR.out.cells
   go_wp2_with fail
   refine (HS2.out _ (HR.out.at_ (a + n + 1))).mono ?_
   rintro e w4 ⟨rfl,hr4,ho4⟩
   replace HO:=hide ((HO.out.setCell (Or.inl rfl) _).trans ho4)
   replace HG:=hide ((HG.out.only (Only.refl (· = r) w3 |>.setCell (Or.inl rfl) _) hrg).only ho4 hrg)
   replace HR:=hide hr4
   clear hr4 ho4 g0 g1 g2 f0 f1 f2 v1
   obtain ⟨⟨g0,g1,g2⟩,f0,f1,f2⟩:=HR.out.cells
   cases he2:((e2:Int) == 0) with
   | false =>
    have he2':e2≠0:=by simpa using he2
    replace HPp:=hide (HPp.out.trans (if_pos he2'))
    go_wp2_with fail
    refine (sD x y _).mono ?_
    rintro e w8 ⟨q0,q1,q2,q3,rfl,hb8⟩
    unfold setA
    have HR8:=hide (RAt.only (S:=fun _=>False) HR.out (Only.of_below hb8 (fun _=>False)) (fun h=>h))
    have HO8:=hide (HO.out.trans (Only.of_below hb8 (· = r)))
    have HG8:=hide (HG.out.below hb8)
    clear hb8 g0 g1 g2 f0 f1 f2 HR HO HG
    obtain ⟨⟨k0,k1,k2,k3⟩,l0,l1,l2,l3⟩:=HG8.out.four
    go_wp2_with fail
    rw [dW]
    have r2:=HG8.out.put [.int .u64 q0,.int .u64 q1,.int .u64 q2,.int .u64 q3] rfl
    have r3:=hide (bC [.int .u64 q0,.int .u64 q1,.int .u64 q2,.int .u64 q3] 0 HO8.out (Nat.le_refl w.heap.size))
    have r4:=hide (HR8.out.only (aP [.int .u64 q0,.int .u64 q1,.int .u64 q2,.int .u64 q3] 0 w8 w.heap.size) hrl')
    clear k0 k1 k2 k3 l0 l1 l2 l3
    obtain ⟨wz,hz⟩:∃ wz,wz=aE w8 w.heap.size 0 [.int .u64 q0,.int .u64 q1,.int .u64 q2,.int .u64 q3]:=⟨_,rfl⟩
    rw [← hz] at r2 r3 r4 ⊢
    obtain ⟨⟨k0,k1,k2,k3⟩,_⟩:=r2.four
    refine bodyPost_ret (v:=.agg #[.int .u64 q0,.int .u64 q1,.int .u64 q2,.int .u64 q3]) (by simp [results,Tryz.results252,go_sem,k0,k1,k2,k3]) rfl ?_
    rw [HPp.out]
    exact ⟨q0,q1,q2,q3,rfl,(show a + n + 1 + m=a + (n + 1 + m) by omega) ▸ r4.out,r3.out⟩
   | true =>
    have he2':e2=0:=by simpa using he2
    replace HPp:=hide (HPp.out.trans (if_neg (by simpa using he2')))
    subst he2'
    by_cases hyx:y.toNat < x.toNat
    ·replace HPp:=hide (HPp.out.trans (if_pos hyx))
     have hyb:decide (y.toNat < x.toNat)=true:=by simp [hyx]
     go_wp2_with fail
     have HR5:=hide ((HR.out.at_ (a + n + m)).bad 12)
     have HO5:=hide ((HO.out.setCell (p:=⟨r,1,none⟩) (Or.inl rfl) (.int .i64 (a + n + m:Nat))).setCell (p:=⟨r,2,none⟩) (Or.inl rfl) (.int .i64 12))
     have HG5:=hide (HG.out.only ((Only.refl (· = r) w4 |>.setCell (p:=⟨r,1,none⟩) (Or.inl rfl) (.int .i64 (a + n + m:Nat))).setCell (p:=⟨r,2,none⟩) (Or.inl rfl) (.int .i64 12)) hrg)
     clear HR HO HG
     have HR:=hide HR5.out
     have HO:=hide HO5.out
     have HG:=hide HG5.out
     clear HR5 HO5 HG5
     refine (sD x y _).mono ?_
     rintro e w8 ⟨q0,q1,q2,q3,rfl,hb8⟩
     unfold setA
     have HR8:=hide (RAt.only (S:=fun _=>False) HR.out (Only.of_below hb8 (fun _=>False)) (fun h=>h))
     have HO8:=hide (HO.out.trans (Only.of_below hb8 (· = r)))
     have HG8:=hide (HG.out.below hb8)
     clear hb8 g0 g1 g2 f0 f1 f2 HR HO HG
     obtain ⟨⟨k0,k1,k2,k3⟩,l0,l1,l2,l3⟩:=HG8.out.four
     go_wp2_with fail
     rw [dW]
     have r2:=HG8.out.put [.int .u64 q0,.int .u64 q1,.int .u64 q2,.int .u64 q3] rfl
     have r3:=hide (bC [.int .u64 q0,.int .u64 q1,.int .u64 q2,.int .u64 q3] 0 HO8.out (Nat.le_refl w.heap.size))
     have r4:=hide (HR8.out.only (aP [.int .u64 q0,.int .u64 q1,.int .u64 q2,.int .u64 q3] 0 w8 w.heap.size) hrl')
     clear k0 k1 k2 k3 l0 l1 l2 l3
     obtain ⟨wz,hz⟩:∃ wz,wz=aE w8 w.heap.size 0 [.int .u64 q0,.int .u64 q1,.int .u64 q2,.int .u64 q3]:=⟨_,rfl⟩
     rw [← hz] at r2 r3 r4 ⊢
     obtain ⟨⟨k0,k1,k2,k3⟩,_⟩:=r2.four
     refine bodyPost_ret (v:=.agg #[.int .u64 q0,.int .u64 q1,.int .u64 q2,.int .u64 q3]) (by simp [results,Tryz.results252,go_sem,k0,k1,k2,k3]) rfl ?_
     rw [HPp.out]
     exact ⟨q0,q1,q2,q3,rfl,(show a + n + m=a + (n + m) by omega) ▸ r4.out,r3.out⟩
    ·replace HPp:=hide (HPp.out.trans (if_neg hyx))
     have hyb:decide (y.toNat < x.toNat)=false:=by simp [hyx]
     go_wp2_with fail
     refine (sD x y _).mono ?_
     rintro e w8 ⟨q0,q1,q2,q3,rfl,hb8⟩
     unfold setA
     have HR8:=hide (RAt.only (S:=fun _=>False) HR.out (Only.of_below hb8 (fun _=>False)) (fun h=>h))
     have HO8:=hide (HO.out.trans (Only.of_below hb8 (· = r)))
     have HG8:=hide (HG.out.below hb8)
     clear hb8 g0 g1 g2 f0 f1 f2 HR HO HG
     obtain ⟨⟨k0,k1,k2,k3⟩,l0,l1,l2,l3⟩:=HG8.out.four
     go_wp2_with fail
     rw [dW]
     have r2:=HG8.out.put [.int .u64 q0,.int .u64 q1,.int .u64 q2,.int .u64 q3] rfl
     have r3:=hide (bC [.int .u64 q0,.int .u64 q1,.int .u64 q2,.int .u64 q3] 0 HO8.out (Nat.le_refl w.heap.size))
     have r4:=hide (HR8.out.only (aP [.int .u64 q0,.int .u64 q1,.int .u64 q2,.int .u64 q3] 0 w8 w.heap.size) hrl')
     clear k0 k1 k2 k3 l0 l1 l2 l3
     obtain ⟨wz,hz⟩:∃ wz,wz=aE w8 w.heap.size 0 [.int .u64 q0,.int .u64 q1,.int .u64 q2,.int .u64 q3]:=⟨_,rfl⟩
     rw [← hz] at r2 r3 r4 ⊢
     obtain ⟨⟨k0,k1,k2,k3⟩,_⟩:=r2.four
     refine bodyPost_ret (v:=.agg #[.int .u64 q0,.int .u64 q1,.int .u64 q2,.int .u64 q3]) (by simp [results,Tryz.results252,go_sem,k0,k1,k2,k3]) rfl ?_
     rw [HPp.out]
     exact ⟨q0,q1,q2,q3,rfl,(show a + n + 1 + m=a + (n + 1 + m) by omega) ▸ r4.out,r3.out⟩
end Go.Proofs.YtaioaojfdngfdaaGreatDoor
