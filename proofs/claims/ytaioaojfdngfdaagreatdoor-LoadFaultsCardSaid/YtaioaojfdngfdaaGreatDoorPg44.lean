/- Parts of a chain of lemmas: Ld3, Ld4. Conditions: those of each theorem. -/
import Derived.Test.YtaioaojfdngfdaaGreatDoorPg43
import Derived.BigRegion
set_option linter.unusedVariables false
set_option linter.unusedSimpArgs false
set_option maxHeartbeats 3200000
namespace Go.Proofs.YtaioaojfdngfdaaGreatDoor
open Go.RowKit
structure ScrV where
 nm:ByteArray
 d:Int
 j:Int
 A:Option Addr
 c:Nat
 L:List OpV
 line:Int
 x:Int
 y:Int
 err:Int
def ScrV.m (v:ScrV):ScrM:=⟨progM v.nm v.d v.j v.L,v.line,v.x,v.y,v.err⟩
def encScr (v:ScrV):List Value:=[.string v.nm,.int .i64 v.d,.int .i64 v.j,.slice v.A v.L.length v.c,.int .i64 v.line,.int .i64 v.x,.int .i64 v.y,.int .i64 v.err]
theorem vC (v:ScrV):(encScr v).length=8:=rfl
theorem kV (v:ScrV):∀ u ∈ encScr v,u.oneCell'=true:=by intro u hu;simp [encScr] at hu;rcases hu with rfl | rfl | rfl | rfl | rfl | rfl | rfl | rfl<;>rfl
def scr0:ScrV:=⟨⟨#[]⟩,0,0,none,0,[],0,0,0,0⟩
def eD (l:List ScrV) (k:Nat):ScrV:=l.getD k scr0
theorem iL {l:List ScrV} {k:Nat} (hk:k < l.length):l[k]?=some (eD l k):=by simp [eD,List.getD,hk]
theorem mA {l:List ScrV} {k:Nat} (hk:k < l.length):eD l k=l[k]:=by simp [eD,List.getD,hk]
theorem eN {w:World} {M:Nat→Prop} {A:Option Addr} {l:List ScrV} (hr:Rd w M A (flat encScr l)) (k:Nat) (hk:k < l.length):∃ b o,A=some ⟨b,o,none⟩∧b < w.heap.size∧¬ M b∧∀ j,j < 8→w.cell? ⟨b,o + k * 8 + j,none⟩=(encScr (eD l k))[j]?:=by
 obtain ⟨b,o,hA,hm,hb,hc⟩:=cR vC hr k _ (iL hk) (by omega)
 exact ⟨b,o,hA,hb,hm,fun j hj=>hc j hj⟩
theorem vM (a b:ByteArray):(a.toList == b.toList)=decide (a=b):=by
 rw [ByteArray.toList_eq,ByteArray.toList_eq,rP]
 by_cases e:a=b
 ·subst e;simp
 ·rw [decide_eq_false e,decide_eq_false]
  intro h2
  exact e (congrArg bs h2)
def mU (name:ByteArray) (l:List ScrM):Int:=if iW l name=true then (oL l name:Int) else -1
theorem vZ (name:ByteArray) (l:List ScrV) (k:Nat) (hk:k < l.length) (h:∀ y ∈ l.take k,fJ name y.m=false) (hx:fJ name (eD l k).m=true):mU name (l.map (·.m))=k:=by
 rw [mA hk] at hx
 unfold mU iW oL
 rw [if_pos (List.any_eq_true.2 ⟨l[k].m,List.mem_map.2 ⟨l[k],List.getElem_mem hk,rfl⟩,hx⟩)]
 have:(l.map (·.m)).findIdx (fJ name)=k:=by
  rw [List.findIdx_eq (by simpa using hk)]
  refine ⟨by simpa using hx,fun j hj=>?_⟩
  rw [List.getElem_map]
  exact h _ (by rw [List.mem_take_iff_getElem];exact ⟨j,by omega,rfl⟩)
 rw [this]
theorem qK (name:ByteArray) (l:List ScrV) (h:∀ y ∈ l,fJ name y.m=false):mU name (l.map (·.m)) = -1:=by
 unfold mU iW
 rw [if_neg]
 intro ha
 obtain ⟨x,hx,ho⟩:=List.any_eq_true.1 ha
 obtain ⟨y,hy,rfl⟩:=List.mem_map.1 hx
 rw [h y hy] at ho
 cases ho
theorem vY (name:ByteArray) (l:List ScrM):decide (0≤mU name l)=iW l name:=by
 unfold mU
 cases h:iW l name
 ·rfl
 ·simp
theorem idxN_max (name:ByteArray) (l:List ScrM):max (mU name l) 0=if iW l name=true then (oL l name:Int) else 0:=by
 unfold mU
 split
 ·omega
 ·rfl
set_option maxRecDepth 100000 in
theorem fnd1_c (v:ScrV) (name:ByteArray) (b:Nat) (w:World) (hb:w.cell? ⟨b,0,none⟩=some (.string name)) (hlt:b < w.heap.size) :
 Calls Tryz.prog 87 #[.agg (encScr v).toArray,.pointer (some ⟨b,0,none⟩)] w fun e w'=>e=.returned (.bool (fJ name v.m))∧Below w.heap.size w w':=by
 have HI:=hide (show fJ name v.m=(decide (v.err=0) && decide (v.nm=name)) from rfl)
 have HS:=hide (vM v.nm name)
 obtain ⟨B,hB⟩:∃ B,B=decide (v.nm=name):=⟨_,rfl⟩
 obtain ⟨R,hR⟩:∃ R,R=fJ name v.m:=⟨_,rfl⟩
 rw [← hB] at HI HS
 rw [← hR] at HI ⊢
 clear hB hR
 obtain ⟨nm,d,j,A,c,L,line,x,y,err⟩:=v
 simp only [encScr] at HI HS ⊢
 have hne:¬ b=w.heap.size:=by omega
 have hne2:¬ w.heap.size=b:=by omega
 by_cases he:err=0
 case pos =>
  have q1:(err == 0)=true:=by rw [he];rfl
  have HR:=hide (show R=B by rw [HI.out,decide_eq_true he];rfl)
  have q2:=HS.out
  clear he HI HS
  go_enter Tryz.func87,Tryz.ntmps87
  go_wp2_with fail
  all_goals (go_ret;exact ⟨by rw [HR.out,← q2];rfl,aK _ _⟩)
 case neg =>
  have q1:(err == 0)=false:=beq_eq_false_iff_ne.2 he
  have HR:=hide (show R=false by rw [HI.out,decide_eq_false he];rfl)
  clear he HI HS
  go_enter Tryz.func87,Tryz.ntmps87
  go_wp2_with fail
  go_ret
  exact ⟨by rw [HR.out];rfl,aK _ _⟩
set_option maxRecDepth 100000 in
theorem IndexN_c (M:Nat→Prop) (A:Option Addr) (c:Nat) (l:List ScrV) (name:ByteArray) (b:Nat) (w:World) (hr:Rd w M A (flat encScr l)) (hn0:l.length≤1000000) (hb:w.cell? ⟨b,0,none⟩=some (.string name)) (hlt:b < w.heap.size) :
 Calls Tryz.prog 86 #[.slice A l.length c,.func (.func 87) #[] #[.pointer (some ⟨b,0,none⟩)]] w fun e w'=>e=.returned (.int .i64 (mU name (l.map (·.m))))∧Below w.heap.size w w':=by
 have hn:l.length≤9223372036854775807:=by omega
 have Hc:=hide (fun k hk=>eN hr k hk)
 obtain ⟨n,hnl⟩:∃ n,n=l.length:=⟨_,rfl⟩
 rw [← hnl] at hn ⊢
 have Hn:=hide hnl
 have Hb:=hide hb
 have HNo:=hide (qK name l)
 have HAt:=hide (vZ name l)
 have HPr:=hide (fun (v:ScrV) (X:World) h1 h2=>fnd1_c v name b X h1 h2)
 clear hr hn0 hnl hb
 go_enter Tryz.func86,Tryz.ntmps86
 go_wp2_with fail
 go_loopw [8] (fun i wr=>∃ k:Nat,k≤n∧i=.int .i64 k∧Hid (∀ y ∈ l.take k,fJ name y.m=false)∧Hid (Below w.heap.size w wr)) (fun i _=>n - (intOf i).toNat)
 case atStart=>exact ⟨0,Nat.zero_le _,rfl,hide (by simp),hide (Below.refl _ _)⟩
 case round =>
  obtain ⟨k,hk,rfl,hnone,hbel⟩:=hrel
  by_cases hlt2:k < n
  ·have hkl:k < l.length:=by rw [← Hn.out];exact hlt2
   obtain ⟨b2,o,rfl,hb2,_,hc⟩:=Hc.out k hkl
   obtain ⟨v,hv⟩:∃ v,v=eD l k:=⟨_,rfl⟩
   rw [← hv] at hc
   have gc:∀ j,j < 8→wr.cell? ⟨b2,o + k * 8 + j,none⟩=(encScr v)[j]?:=fun j hj=>(Only.cell (Only.of_below hbel.out aA) (p:=⟨b2,o + k * 8 + j,none⟩) hb2 (fun h=>h)).trans (hc j hj)
   have g0:wr.cell? ⟨b2,o + k * 8,none⟩=some (.string v.nm):=gc 0 (by omega)
   have g1:wr.cell? ⟨b2,o + k * 8 + 1,none⟩=some (.int .i64 v.d):=gc 1 (by omega)
   have g2:wr.cell? ⟨b2,o + k * 8 + 2,none⟩=some (.int .i64 v.j):=gc 2 (by omega)
   have g3:wr.cell? ⟨b2,o + k * 8 + 3,none⟩=some (.slice v.A v.L.length v.c):=gc 3 (by omega)
   have g4:wr.cell? ⟨b2,o + k * 8 + 4,none⟩=some (.int .i64 v.line):=gc 4 (by omega)
   have g5:wr.cell? ⟨b2,o + k * 8 + 5,none⟩=some (.int .i64 v.x):=gc 5 (by omega)
   have g6:wr.cell? ⟨b2,o + k * 8 + 6,none⟩=some (.int .i64 v.y):=gc 6 (by omega)
   have g7:wr.cell? ⟨b2,o + k * 8 + 7,none⟩=some (.int .i64 v.err):=gc 7 (by omega)
   have hpred:=HPr.out v wr (fN hbel.out hlt Hb.out) (Nat.lt_of_lt_of_le hlt hbel.out.size)
   have d1:decide ((k:Int) < (n:Int))=true:=by simp;exact hlt2
   have d2:decide (k < n)=true:=by simp;exact hlt2
   have j1:(0:Int)≤(k:Int):=by omega
   have j2:(k:Int) < (n:Int):=by omega
   have w1:IntKind.i64.wrap ((k:Int) + 1)=(k:Int) + 1:=IntWalk.i64_in _ (by omega)
   have HX:=hide hv
   clear hc gc hv
   cases ho:fJ name v.m with
   | true =>
    rw [ho] at hpred
    have HP:=hide hpred
    have HI:=hide (HAt.out k hkl hnone.out (by rw [← HX.out];exact ho))
    clear hpred ho hkl
    go_wp2_with (go_at_call 87;refine HP.out.mono ?_;rintro e w2 ⟨rfl,hb2⟩)
    go_ret
    exact ⟨by rw [HI.out];rfl,hbel.out.trans (hb2.mono hbel.out.size)⟩
   | false =>
    rw [ho] at hpred
    have HP:=hide hpred
    have HIn:Hid (∀ y ∈ l.take (k + 1),fJ name y.m=false):=by
     intro y hy
     rw [List.take_add_one,iL hkl] at hy
     rcases List.mem_append.1 hy with hy | hy
     ·exact hnone.out y hy
     ·simp only [Option.toList_some,List.mem_singleton] at hy
      subst hy
      rw [← HX.out]
      exact ho
    clear hpred ho hnone hkl
    go_wp2_with (go_at_call 87;refine HP.out.mono ?_;rintro e w2 ⟨rfl,hb2⟩)
    have HB2:=hide (hbel.out.trans (hb2.mono hbel.out.size))
    go_roundw
    case rel=>exact ⟨k + 1,by omega,by go_num,HIn,HB2⟩
    case measure=>simp [intOf];omega
  ·obtain rfl:k=n:=by omega
   have HI:=hide (HNo.out (by have:=hnone.out;rw [Hn.out,List.take_length] at this;exact this))
   have d1:decide ((k:Int) < (k:Int))=false:=by simp
   have d2:decide (k < k)=false:=by simp
   clear hnone
   go_wp2_with fail
   go_ret
   exact ⟨by rw [HI.out];rfl,hbel.out⟩
set_option maxRecDepth 100000 in
theorem find_c (M:Nat→Prop) (A:Option Addr) (c:Nat) (l:List ScrV) (name:ByteArray) (w:World) (hr:Rd w M A (flat encScr l)) (hn0:l.length≤1000000) :
 Calls Tryz.prog 51 #[.slice A l.length c,.string name] w fun e w'=>e=.returned (.tuple #[.int .i64 (if iW (l.map (·.m)) name=true then (oL (l.map (·.m)) name:Int) else 0),.bool (iW (l.map (·.m)) name)])∧Below w.heap.size w w':=by
 obtain ⟨X,hX⟩:∃ X,X=w.alloc (.cells #[.string name] 9):=⟨_,rfl⟩
 have HXb:=hide (show Below w.heap.size w X by rw [hX];exact aK _ _)
 have HI:=hide (IndexN_c (fun k=>M k∨False) A c l name w.heap.size X (by rw [hX];exact (hr.alloc _).mono (fun k h=>h.elim id False.elim)) hn0 (by rw [hX];exact (Blk.new w _ _).cell 0) (by rw [hX];simp))
 have HG:=hide (vY name (l.map (·.m)))
 have HMx:=hide (idxN_max name (l.map (·.m)))
 obtain ⟨k,hk⟩:∃ k,k=mU name (l.map (·.m)):=⟨_,rfl⟩
 rw [← hk] at HI HG HMx
 rw [← HMx.out,← HG.out]
 have HX:=hide hX
 clear hk hr hX HG HMx
 go_enter Tryz.func51,Tryz.ntmps51
 go_wp2_with fail
 rw [← HX.out]
 refine HI.out.mono ?_
 rintro e w' ⟨rfl,hb⟩
 have HB:=hide (HXb.out.trans (hb.mono HXb.out.size))
 clear hb
 go_wp2_with fail
 refine bodyPost_ret (v:=.tuple #[.int .i64 (max k 0),.bool (decide (0≤k))]) (by simp [results,Tryz.results51,go_sem];try rfl) rfl ?_
 exact ⟨rfl,HB.out⟩
set_option maxRecDepth 100000 in
theorem Find_c (M:Nat→Prop) (A:Option Addr) (c:Nat) (l:List ScrV) (name:ByteArray) (w:World) (hr:Rd w M A (flat encScr l)) (hn0:l.length≤1000000) :
 Calls Tryz.prog 26 #[.slice A l.length c,.string name] w fun e w'=>e=.returned (.tuple #[.int .i64 (if iW (l.map (·.m)) name=true then (oL (l.map (·.m)) name:Int) else 0),.bool (iW (l.map (·.m)) name)])∧Below w.heap.size w w':=by
 have HI:=hide (find_c M A c l name w hr hn0)
 obtain ⟨k,hk⟩:∃ k,k=(if iW (l.map (·.m)) name=true then (oL (l.map (·.m)) name:Int) else 0):=⟨_,rfl⟩
 obtain ⟨B,hB⟩:∃ B,B=iW (l.map (·.m)) name:=⟨_,rfl⟩
 rw [← hk,← hB] at HI
 rw [← hk,← hB]
 clear hk hB hr
 go_enter Tryz.func26,Tryz.ntmps26
 go_wp2_with fail
 refine HI.out.mono ?_
 rintro e w' ⟨rfl,hb⟩
 have HB:=hide hb
 clear hb
 go_wp2_with fail
 refine bodyPost_ret (v:=.tuple #[.int .i64 k,.bool B]) (by simp [results,Tryz.results26,go_sem];try rfl) rfl ?_
 exact ⟨rfl,HB.out⟩
structure PartV where
 line:Nat
 A:Option Addr
 c:Nat
 l:List (List UInt8)
def PartV.m (p:PartV):PartM:=⟨p.line,p.l⟩
def encPart (p:PartV):List Value:=[.int .i64 (p.line:Nat),.slice p.A p.l.length p.c]
theorem tI (p:PartV):(encPart p).length=2:=rfl
theorem Tryz.infoPart:(Tryz.prog.info? 100).map (fun i=>(i.zero,i.size,i.bytes))=some (some (.agg #[.int .i64 0,.slice none 0 0]),2,32):=by kernel_rfl
theorem jV {S M M':Nat→Prop} {w w':World} {A:Option Addr} {xs:List Value} (h:Rd w M A xs) (k:Only S w w') (hS:∀ b,b < w.heap.size→S b→M b) (hM:∀ b,M' b→M b∨w.heap.size≤b):Rd w' M' A xs:=by
 rcases h with h | ⟨b,o,hA,hm,hb,hc⟩
 ·exact Or.inl h
 ·refine Or.inr ⟨b,o,hA,fun hx=>?_,Nat.lt_of_lt_of_le hb k.size,fun j hj=>(k.cell (p:=⟨b,o + j,none⟩) hb (fun hx=>hm (hS b hb hx))).trans (hc j hj)⟩
  rcases hM b hx with hx | hx
  ·exact hm hx
  ·omega
def Mc (B:Nat) (v u:Value) (k:Nat):Prop:=k < B∨v.ownBlock=some k∨u.ownBlock=some k
structure CutAt (w:World) (B g:Nat) (out:List PartV) (v:Value) (ln:Nat) (uA:Option Addr) (uc:Nat) (cur:List (List UInt8)):Prop where
 blk:Blk w g 100 #[.int .i64 (ln:Nat),.slice uA cur.length uc]
 own:w.ownsRow B 100 2 v out.length (flat encPart out)
 row:w.ownsRow B 9 1 (.slice uA cur.length uc) cur.length (flat encLn cur)
 inn:∀ p ∈ out,Rd w (Mc B v (.slice uA cur.length uc)) p.A (flat encLn p.l)
 lt:g < B
 sz:B≤w.heap.size
section
variable {w w1 w':World} {B g ln uc:Nat} {out:List PartV} {v v':Value} {uA:Option Addr} {cur:List (List UInt8)}
theorem CutAt.same (h:CutAt w B g out v ln uA uc cur) (q:Only aA w w'):CutAt w' B g out v ln uA uc cur :=
 ⟨h.blk.only q (fun h=>h),b8 h.own q (fun _ _ h=>h.elim),b8 h.row q (fun _ _ h=>h.elim),fun p hp=>(h.inn p hp).only q (fun _ h=>h.elim),h.lt,Nat.le_trans h.sz q.size⟩
theorem mK {α:Type} (enc:α→List Value) (l:List α) (a:α):flat enc (l++[a])=flat enc l++enc a:=by simp [flat]
theorem CutAt.rows {w2:World} (h:CutAt w B g out v ln uA uc cur) (hv:v'.ownBlock=v.ownBlock∨v'.ownBlock=some w.heap.size) (kk:Only (fun k=>v.ownBlock=some k∨k=g) w w2) :
 ∀ p ∈ out++[(⟨ln,uA,uc,cur⟩:PartV)],Rd w2 (Mc B v' (.slice none 0 0)) p.A (flat encLn p.l):=by
 have hcur:Rd w (fun k=>k < B∨v.ownBlock=some k) uA (flat encLn cur):=by
  have r:=Rd.of_own (M:=fun k=>k < B) h.row (fun k hk=>hk)
  rcases r with r | ⟨b,o,hA,hm,hb,hc⟩
  ·exact Or.inl r
  ·refine Or.inr ⟨b,o,hA,?_,hb,hc⟩
   rintro (hx | hx)
   ·exact hm hx
   ·subst hA
    obtain ⟨c1,x1⟩:=aZ h.own hx
    obtain ⟨c2,x2⟩:=aZ (g:=b) h.row rfl
    exact Blk.ne_ x1 x2 (by decide) rfl
 have hM:∀ b,Mc B v' (.slice none 0 0) b→(b < B∨v.ownBlock=some b)∨w.heap.size≤b:=by
  rintro b (hx | hx | hx)
  ·exact Or.inl (Or.inl hx)
  ·rcases hv with e | e
   ·exact Or.inl (Or.inr (e ▸ hx))
   ·rw [e] at hx;injection hx with hx;exact Or.inr (by omega)
  ·cases hx
 intro p hp
 rcases List.mem_append.1 hp with hp | hp
 ·refine jV (h.inn p hp) kk (fun b _ hx=>?_) (fun b hb=>?_)
  ·rcases hx with hx | hx
   ·exact Or.inr (Or.inl hx)
   ·exact Or.inl (by have:=h.lt;omega)
  ·rcases hM b hb with (h1 | h1) | h1
   ·exact Or.inl (Or.inl h1)
   ·exact Or.inl (Or.inr (Or.inl h1))
   ·exact Or.inr h1
 ·rw [List.mem_singleton] at hp
  subst hp
  refine jV hcur kk (fun b _ hx=>?_) hM
  rcases hx with hx | hx
  ·exact Or.inr hx
  ·exact Or.inl (by have:=h.lt;omega)
theorem CutAt.push {i:Nat} (h:CutAt w B g out v ln uA uc cur) (ho:w1.ownsRow B 100 2 v' (out.length + 1) (flat encPart out++[.int .i64 (ln:Nat),.slice uA cur.length uc])) (hg:w.grownBy w1 v.ownBlock)
 (hv:v'.ownBlock=v.ownBlock∨v'.ownBlock=some w.heap.size) (hgv:v.ownBlock≠some g) :
 CutAt ((w1.setCell ⟨g,0,none⟩ (.int .i64 (i:Nat))).setCell ⟨g,1,none⟩ (.slice none 0 0)) B g (out++[⟨ln,uA,uc,cur⟩]) v' i none 0 []∧Only (fun k=>k=g∨B≤k) w ((w1.setCell ⟨g,0,none⟩ (.int .i64 (i:Nat))).setCell ⟨g,1,none⟩ (.slice none 0 0)):=by
 have k1:Only (fun k=>v.ownBlock=some k) w w1:=(Only.refl _ w).grown hg (fun k hk=>Or.inl hk)
 have hgb:g < w.heap.size:=h.blk.lt
 have b1:Blk w1 g 100 #[.int .i64 (ln:Nat),.slice uA cur.length uc]:=h.blk.only k1 hgv
 have k2:Only (· = g) w1 ((w1.setCell ⟨g,0,none⟩ (.int .i64 (i:Nat))).setCell ⟨g,1,none⟩ (.slice none 0 0)):=Only.setCell (S:=(· = g)) (Only.setCell (S:=(· = g)) (Only.refl _ w1) (p:=⟨g,0,none⟩) (Or.inl rfl) _) (p:=⟨g,1,none⟩) (Or.inl rfl) _
 have hv':v'.ownBlock≠some g:=by
  rcases hv with e | e
  ·rw [e];exact hgv
  ·rw [e];intro hx;injection hx with hx;omega
 have kk:Only (fun k=>v.ownBlock=some k∨k=g) w ((w1.setCell ⟨g,0,none⟩ (.int .i64 (i:Nat))).setCell ⟨g,1,none⟩ (.slice none 0 0)):=(k1.mono (fun k _ hk=>Or.inl hk)).trans (k2.mono (fun k _ hk=>Or.inr hk))
 refine ⟨⟨?_,?_,World.ownsRow_nil _ _ _ _,h.rows hv kk,h.lt,Nat.le_trans h.sz kk.size⟩,kk.mono fun k hk hx=>?_⟩
 ·exact (b1.set_ 0 (.int .i64 (i:Nat))).set_ 1 (.slice none 0 0)
 ·have ho2:w1.ownsRow B 100 2 v' (out++[(⟨ln,uA,uc,cur⟩:PartV)]).length (flat encPart (out++[(⟨ln,uA,uc,cur⟩:PartV)])):=by
   rw [mK,List.length_append];exact ho
  exact dR ho2 k2 (fun k hk he=>hv' (he ▸ hk))
 ·rcases hx with hx | hx
  ·exact Or.inr (aU h.own k hx)
  ·exact Or.inl hx
theorem CutAt.done (h:CutAt w B g out v ln uA uc cur) (ho:w1.ownsRow B 100 2 v' (out.length + 1) (flat encPart out++[.int .i64 (ln:Nat),.slice uA cur.length uc])) (hg:w.grownBy w1 v.ownBlock)
 (hv:v'.ownBlock=v.ownBlock∨v'.ownBlock=some w.heap.size) :
 w1.ownsRow B 100 2 v' (out++[(⟨ln,uA,uc,cur⟩:PartV)]).length (flat encPart (out++[(⟨ln,uA,uc,cur⟩:PartV)]))∧(∀ p ∈ out++[(⟨ln,uA,uc,cur⟩:PartV)],Rd w1 (· < B) p.A (flat encLn p.l))∧Only (fun k=>k=g∨B≤k) w w1:=by
 have k1:Only (fun k=>v.ownBlock=some k) w w1:=(Only.refl _ w).grown hg (fun k hk=>Or.inl hk)
 refine ⟨?_,fun p hp=>(h.rows hv (k1.mono fun k _ hk=>Or.inl hk) p hp).mono fun b hb=>Or.inl hb,k1.mono fun k _ hx=>Or.inr (aU h.own k hx)⟩
 rw [mK,List.length_append]
 exact ho
theorem CutAt.add {uA':Option Addr} {uc':Nat} {s:List UInt8} (h:CutAt w B g out v ln uA uc cur) (ho:w1.ownsRow B 9 1 (.slice uA' (cur.length + 1) uc') (cur.length + 1) (flat encLn cur++[.string (bs s)])) (hg:w.grownBy w1 (Value.slice uA cur.length uc).ownBlock)
 (hv:(Value.slice uA' (cur.length + 1) uc').ownBlock=(Value.slice uA cur.length uc).ownBlock∨(Value.slice uA' (cur.length + 1) uc').ownBlock=some w.heap.size) :
 CutAt (w1.setCell ⟨g,1,none⟩ (.slice uA' (cur.length + 1) uc')) B g out v ln uA' uc' (cur++[s])∧Only (fun k=>k=g∨B≤k) w (w1.setCell ⟨g,1,none⟩ (.slice uA' (cur.length + 1) uc')):=by
 have k1:Only (fun k=>(Value.slice uA cur.length uc).ownBlock=some k) w w1:=(Only.refl _ w).grown hg (fun k hk=>Or.inl hk)
 have b1:=h.blk.grown h.row (by decide) hg
 have o1:=xQ h.own h.row (by decide) hg
 have k2:Only (· = g) w1 (w1.setCell ⟨g,1,none⟩ (.slice uA' (cur.length + 1) uc')):=Only.setCell (S:=(· = g)) (Only.refl _ w1) (p:=⟨g,1,none⟩) (Or.inl rfl) _
 have kk:Only (fun k=>(Value.slice uA cur.length uc).ownBlock=some k∨k=g) w (w1.setCell ⟨g,1,none⟩ (.slice uA' (cur.length + 1) uc')):=(k1.mono (fun k _ hk=>Or.inl hk)).trans (k2.mono (fun k _ hk=>Or.inr hk))
 have e:(cur++[s]).length=cur.length + 1:=by simp
 refine ⟨⟨?_,?_,?_,?_,h.lt,Nat.le_trans h.sz kk.size⟩,kk.mono fun k hk hx=>?_⟩
 ·rw [e];exact b1.set_ 1 _
 ·exact dR o1 k2 (fun k hk he=>by have:=aU h.own k hk;have:=h.lt;omega)
 ·rw [e,rK]
  exact dR ho k2 (fun k hk he=>by
   rcases hv with x | x
   ·have:=aU h.row k (x ▸ hk);have:=h.lt;omega
   ·rw [x] at hk;injection hk with hk;have:=h.lt;have:=h.sz;omega)
 ·intro p hp
  rw [e]
  refine jV (h.inn p hp) kk (fun b _ hx=>?_) (fun b hb=>?_)
  ·rcases hx with hx | hx
   ·exact Or.inr (Or.inr hx)
   ·exact Or.inl (by have:=h.lt;omega)
  ·rcases hb with hb | hb | hb
   ·exact Or.inl (Or.inl hb)
   ·exact Or.inl (Or.inr (Or.inl hb))
   ·rcases hv with x | x
    ·exact Or.inl (Or.inr (Or.inr (x ▸ hb)))
    ·rw [x] at hb;injection hb with hb;exact Or.inr (by omega)
 ·rcases hx with hx | hx
  ·exact Or.inr (aU h.row k hx)
  ·exact Or.inl hx
end
end Go.Proofs.YtaioaojfdngfdaaGreatDoor
