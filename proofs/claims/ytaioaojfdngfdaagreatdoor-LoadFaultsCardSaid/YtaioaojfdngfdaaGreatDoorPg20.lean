/- Parts of a chain of lemmas: DocA, RefCls1. Conditions: those of each theorem. -/
import Derived.Test.YtaioaojfdngfdaaGreatDoorPg19
import Derived.Test.YtaioaojfdngfdaaGreatDoorPg05
import Derived.Test.YtaioaojfdngfdaaGreatDoorPg10
import Derived.Test.YtaioaojfdngfdaaGreatDoorPg14
set_option linter.unusedVariables false
set_option linter.unusedSimpArgs false
set_option maxHeartbeats 3200000
namespace Go.Proofs.YtaioaojfdngfdaaGreatDoor
open Go.RowKit
set_option maxRecDepth 100000
abbrev encLb (x:List UInt8 × Int):List Value:=[.string (bs x.1),.int .i64 x.2]
theorem qO (x:List UInt8 × Int):∀ u ∈ encLb x,u.oneCell'=true:=by intro u hu;simp at hu;rcases hu with rfl | rfl<;>rfl
structure Dp where
 name:ByteArray
 dl:Int
 jm:Int
 L:List OpV
 oA:Option Addr
 oc:Nat
 labels:List (List UInt8 × Int)
 lA:Option Addr
 lc:Nat
 uses:List UseM
 uA:Option Addr
 uc:Nat
 head:Bool
 opn:Bool
 tm:Bool
 ef:Bool
def Dp.pl (d:Dp):DM:=⟨d.name,d.dl,d.jm,d.L.map (·.o),d.labels,d.uses,d.head,d.opn,d.tm,d.ef⟩
def dvV (d:Dp):Array Value:=#[.string d.name,.int .i64 d.dl,.int .i64 d.jm,.slice d.oA d.L.length d.oc,.slice d.lA d.labels.length d.lc,.slice d.uA d.uses.length d.uc,.bool d.head,.bool d.opn,.bool d.tm,.bool d.ef]
structure DAt (w:World) (B a:Nat) (d:Dp):Prop where
 blk:Blk w a 84 (dvV d)
 base:B≤a
 ops:OpsOwn w B d.oA d.oc d.L
 labels:w.ownsRow B 146 2 (.slice d.lA d.labels.length d.lc) d.labels.length (flat encLb d.labels)
 uses:w.ownsRow B 88 5 (.slice d.uA d.uses.length d.uc) d.uses.length (flat encUse d.uses)
def mN (w w':World) (B a:Nat) (m:DM):Prop:=(∃ d',DAt w' B a d'∧d'.pl=m)∧OnB B w w'
section
variable {w w':World} {B a:Nat} {d d':Dp}
theorem DAt.lt (h:DAt w B a d):a < w.heap.size:=Blk.lt h.blk
theorem DAt.type {S:Nat→Prop} {T:TypeId} (h:DAt w B a d) (k:Only S w w') (hS:∀ g,S g→∃ cs,Blk w g T cs) (n1:T≠84) (n2:T≠92) (n3:T≠94) (n4:T≠146) (n5:T≠88):DAt w' B a d :=
 ⟨Blk.only h.blk k (fun e=>by obtain ⟨cs,hc⟩:=hS a e;exact Blk.ne_ hc h.blk n1 rfl),h.base,h.ops.type k hS n2 n3,aI h.labels k hS n4,aI h.uses k hS n5⟩
theorem DAt.same (h:DAt w B a d) (k:Only aA w w'):DAt w' B a d:=h.type (T:=0) k (fun _ h=>h.elim) (by decide) (by decide) (by decide) (by decide) (by decide)
theorem DAt.alloc (h:DAt w B a d) (o:Obj):DAt (w.alloc o) B a d:=h.same ((Only.refl aA w).alloc o)
theorem DAt.drew (h:DAt w B a d):DAt w.drew B a d:=h.same (Only.refl aA w).drew
theorem DAt.only (h:DAt w B a d) (k:Only (· = a) w w'):OnB B w w':=OnB.of k (fun g hg=>by have:=h.base;have hg':g=a:=hg;omega) (fun g hg=>by have hg':g=a:=hg;subst hg';exact ⟨_,h.blk⟩) (T:=84) rfl
theorem DAt.cell (h:DAt w B a d) (i:Nat) (v:Value) (hb:dvV d'=(dvV d).setIfInBounds i v) (e1:d'.L=d.L:=by rfl) (e2:d'.oA=d.oA:=by rfl) (e3:d'.oc=d.oc:=by rfl) (e4:d'.labels=d.labels:=by rfl) (e5:d'.lA=d.lA:=by rfl)
 (e6:d'.lc=d.lc:=by rfl) (e7:d'.uses=d.uses:=by rfl) (e8:d'.uA=d.uA:=by rfl) (e9:d'.uc=d.uc:=by rfl):DAt (w.setCell ⟨a,i,none⟩ v) B a d'∧OnB B w (w.setCell ⟨a,i,none⟩ v):=by
 have hS:∀ g,g=a→∃ cs,Blk w g 84 cs:=fun g hg=>by subst hg;exact ⟨_,h.blk⟩
 have k:Only (· = a) w (w.setCell ⟨a,i,none⟩ v):=bP
 refine ⟨⟨by rw [hb];exact Blk.set_ h.blk i v,h.base,?_,?_,?_⟩,h.only k⟩
 ·rw [e1,e2,e3];exact h.ops.type k hS (by decide) (by decide)
 ·rw [e4,e5,e6];exact aI h.labels k hS (by decide)
 ·rw [e7,e8,e9];exact aI h.uses k hS (by decide)
theorem DAt.use {uA':Option Addr} {uc':Nat} {u:UseM} (h:DAt w B a d) (hg:w.grownBy w' (blkA d.uA)) (ho:w'.ownsRow B 88 5 (.slice uA' (d.uses.length + 1) uc') (d.uses.length + 1) (flat encUse d.uses++encUse u))
 (hp:d'={ d with uses:=d.uses++[u],uA:=uA',uc:=uc' }):DAt (w'.setCell ⟨a,5,none⟩ (.slice uA' (d.uses.length + 1) uc')) B a d'∧OnB B w (w'.setCell ⟨a,5,none⟩ (.slice uA' (d.uses.length + 1) uc')):=by
 subst hp
 have hSu:∀ g,blkA d.uA=some g→∃ cs,Blk w g 88 cs:=fun g hgg=>aZ h.uses (by rw [aB];exact hgg)
 have hb1:Blk w' a 84 (dvV d):=Blk.only h.blk (aG hg) (fun hgg=>by obtain ⟨cs,hc⟩:=hSu a hgg;exact Blk.ne_ hc h.blk (by decide) rfl)
 have hS:∀ g,g=a→∃ cs,Blk w' g 84 cs:=fun g hg=>by subst hg;exact ⟨_,hb1⟩
 have k2:Only (· = a) w' (w'.setCell ⟨a,5,none⟩ (.slice uA' (d.uses.length + 1) uc')):=bP
 refine ⟨⟨?_,h.base,(h.ops.type (aG hg) hSu (by decide) (by decide)).type k2 hS (by decide) (by decide),aI (aI h.labels (aG hg) hSu (by decide)) k2 hS (by decide),?_⟩,?_⟩
 ·have:=hb1.set_ 5 (.slice uA' (d.uses.length + 1) uc')
  unfold dvV at *
  simp only [List.length_append,List.length_singleton]
  exact this
 ·have e:flat encUse (d.uses++[u])=flat encUse d.uses++encUse u:=by simp [flat]
  show World.ownsRow _ B _ 5 (.slice uA' (d.uses++[u]).length uc') (d.uses++[u]).length (flat encUse (d.uses++[u]))
  rw [e,List.length_append]
  exact aI ho k2 hS (by decide)
 ·exact (OnB.of (aG hg) (fun g hgg=>aU h.uses g (by rw [aB];exact hgg)) hSu rfl).trans (OnB.of k2 (fun g hg=>by have:=h.base;have hg':g=a:=hg;omega) hS rfl)
theorem DAt.label {lA':Option Addr} {lc':Nat} {u:List UInt8 × Int} (h:DAt w B a d) (hg:w.grownBy w' (blkA d.lA)) (ho:w'.ownsRow B 146 2 (.slice lA' (d.labels.length + 1) lc') (d.labels.length + 1) (flat encLb d.labels++encLb u))
 (hp:d'={ d with labels:=d.labels++[u],lA:=lA',lc:=lc' }):DAt (w'.setCell ⟨a,4,none⟩ (.slice lA' (d.labels.length + 1) lc')) B a d'∧OnB B w (w'.setCell ⟨a,4,none⟩ (.slice lA' (d.labels.length + 1) lc')):=by
 subst hp
 have hSu:∀ g,blkA d.lA=some g→∃ cs,Blk w g 146 cs:=fun g hgg=>aZ h.labels (by rw [aB];exact hgg)
 have hb1:Blk w' a 84 (dvV d):=Blk.only h.blk (aG hg) (fun hgg=>by obtain ⟨cs,hc⟩:=hSu a hgg;exact Blk.ne_ hc h.blk (by decide) rfl)
 have hS:∀ g,g=a→∃ cs,Blk w' g 84 cs:=fun g hg=>by subst hg;exact ⟨_,hb1⟩
 have k2:Only (· = a) w' (w'.setCell ⟨a,4,none⟩ (.slice lA' (d.labels.length + 1) lc')):=bP
 refine ⟨⟨?_,h.base,(h.ops.type (aG hg) hSu (by decide) (by decide)).type k2 hS (by decide) (by decide),?_,aI (aI h.uses (aG hg) hSu (by decide)) k2 hS (by decide)⟩,?_⟩
 ·have:=hb1.set_ 4 (.slice lA' (d.labels.length + 1) lc')
  unfold dvV at *
  simp only [List.length_append,List.length_singleton]
  exact this
 ·have e:flat encLb (d.labels++[u])=flat encLb d.labels++encLb u:=by simp [flat]
  show World.ownsRow _ B _ 2 (.slice lA' (d.labels++[u]).length lc') (d.labels++[u]).length (flat encLb (d.labels++[u]))
  rw [e,List.length_append]
  exact aI ho k2 hS (by decide)
 ·exact (OnB.of (aG hg) (fun g hgg=>aU h.labels g (by rw [aB];exact hgg)) hSu rfl).trans (OnB.of k2 (fun g hg=>by have:=h.base;have hg':g=a:=hg;omega) hS rfl)
theorem DAt.app {oA':Option Addr} {oc':Nat} {v:OpV} (h:DAt w B a d) (hB:B≤w.heap.size) (hg:w.grownBy w' (blkA d.oA)) (hv:v.A=none) (hv2:v.o.arms=[]) (hv3:v.c=0)
 (ho:w'.ownsRow B 92 7 (.slice oA' (d.L.length + 1) oc') (d.L.length + 1) (flat encOp d.L++encOp v))
 (hp:d'={ d with L:=d.L++[v],oA:=oA',oc:=oc' }):DAt (w'.setCell ⟨a,3,none⟩ (.slice oA' (d.L.length + 1) oc')) B a d'∧OnB B w (w'.setCell ⟨a,3,none⟩ (.slice oA' (d.L.length + 1) oc')):=by
 subst hp
 have hSu:∀ g,blkA d.oA=some g→∃ cs,Blk w g 92 cs:=fun g hgg=>aZ h.ops.row (by rw [aB];exact hgg)
 have hb1:Blk w' a 84 (dvV d):=Blk.only h.blk (aG hg) (fun hgg=>by obtain ⟨cs,hc⟩:=hSu a hgg;exact Blk.ne_ hc h.blk (by decide) rfl)
 have hS:∀ g,g=a→∃ cs,Blk w' g 84 cs:=fun g hg=>by subst hg;exact ⟨_,hb1⟩
 have k2:Only (· = a) w' (w'.setCell ⟨a,3,none⟩ (.slice oA' (d.L.length + 1) oc')):=bP
 refine ⟨⟨?_,h.base,(h.ops.app hB hg hv hv2 hv3 ho).type k2 hS (by decide) (by decide),aI (aI h.labels (aG hg) hSu (by decide)) k2 hS (by decide),aI (aI h.uses (aG hg) hSu (by decide)) k2 hS (by decide)⟩,?_⟩
 ·have:=hb1.set_ 3 (.slice oA' (d.L.length + 1) oc')
  unfold dvV at *
  simp only [List.length_append,List.length_singleton]
  exact this
 ·exact (OnB.of (aG hg) (fun g hgg=>aU h.ops.row g (by rw [aB];exact hgg)) hSu rfl).trans (OnB.of k2 (fun g hg=>by have:=h.base;have hg':g=a:=hg;omega) hS rfl)
theorem DAt.turn {S:Nat→Prop} {T:TypeId} {L':List OpV} (h:DAt w B a d) (k:Only S w w') (hS:∀ g,S g→B≤g∧∃ cs,Blk w g T cs) (n1:T≠84) (n4:T≠146) (n5:T≠88) (hM:MutT T=true) (ho:OpsOwn w' B d.oA d.oc L') (hl:L'.length=d.L.length)
 (hp:d'={ d with L:=L' }):DAt w' B a d'∧OnB B w w':=by
 subst hp
 have hS':∀ g,S g→∃ cs,Blk w g T cs:=fun g hg=>(hS g hg).2
 refine ⟨⟨?_,h.base,ho,aI h.labels k hS' n4,aI h.uses k hS' n5⟩,OnB.of k (fun g hg=>(hS g hg).1) hS' hM⟩
 have:=Blk.only h.blk k (fun hs=>by obtain ⟨cs,hc⟩:=hS' a hs;exact Blk.ne_ hc h.blk n1 rfl)
 unfold dvV at *
 simp only [hl]
 exact this
theorem DAt.armApp {g i:Nat} {A':Option Addr} {c':Nat} {v:OpV} {x:ArmM} (h:DAt w B a d) (ho:d.oA=some ⟨g,0,none⟩) (hi:i < d.L.length) (hg:w.grownBy w' (blkA (opAt d.L i).A))
 (hw:w'.ownsRow B 94 2 (.slice A' ((opAt d.L i).o.arms.length + 1) c') ((opAt d.L i).o.arms.length + 1) (flat encArm (opAt d.L i).o.arms++encArm x)) (hn:blkA A'=blkA (opAt d.L i).A∨blkA A'=some w.heap.size)
 (hA:v.A=A') (hs:v.o.arms=(opAt d.L i).o.arms++[x]) (hc:v.c=c') (he:encOp v=(encOp (opAt d.L i)).set 4 (.slice A' ((opAt d.L i).o.arms.length + 1) c')) (hp:d'={ d with L:=d.L.set i v }) :
 DAt (w'.setCell ⟨g,i * 7 + 4,none⟩ (.slice A' ((opAt d.L i).o.arms.length + 1) c')) B a d'∧OnB B w (w'.setCell ⟨g,i * 7 + 4,none⟩ (.slice A' ((opAt d.L i).o.arms.length + 1) c')):=by
 have hrow:=h.ops
 rw [ho] at hrow
 have harm:=h.ops.arms _ (cJ hi)
 have hS1:∀ k,blkA (opAt d.L i).A=some k→B≤k∧∃ cs,Blk w k 94 cs:=fun k hk=>by
  have hk':(armsV (opAt d.L i)).ownBlock=some k:=by unfold armsV;rw [aB];exact hk
  exact ⟨aU harm k hk',aZ harm hk'⟩
 have hfin:=hrow.armApp hi hg hw hn hA hs hc he
 subst hp
 have k1:=aG hg
 have hT1:∀ k,blkA (opAt d.L i).A=some k→∃ cs,Blk w k 94 cs:=fun k hk=>(hS1 k hk).2
 have hb1:Blk w' a 84 (dvV d):=Blk.only h.blk k1 (fun hgg=>by obtain ⟨cs,hc⟩:=hT1 a hgg;exact Blk.ne_ hc h.blk (by decide) rfl)
 have hbk:∃ cs,Blk w' g 92 cs:=aZ (aI (T:=94) hrow.row k1 hT1 (by decide)) rfl
 have hT2:∀ k,k=g→∃ cs,Blk w' k 92 cs:=fun k hk=>by subst hk;exact hbk
 have k2:Only (· = g) w' (w'.setCell ⟨g,i * 7 + 4,none⟩ (.slice A' ((opAt d.L i).o.arms.length + 1) c')):=bP
 refine ⟨⟨?_,h.base,by show OpsOwn _ B d.oA d.oc _;rw [ho];exact hfin,aI (T:=92) (aI (T:=94) h.labels k1 hT1 (by decide)) k2 hT2 (by decide),aI (T:=92) (aI (T:=94) h.uses k1 hT1 (by decide)) k2 hT2 (by decide)⟩,?_⟩
 ·have:=Blk.only hb1 k2 (fun e=>by obtain ⟨cs,hc⟩:=hT2 a e;exact Blk.ne_ hc hb1 (by decide) rfl)
  unfold dvV at *
  simp only [List.length_set]
  exact this
 ·exact (OnB.of k1 (fun k hk=>(hS1 k hk).1) hT1 rfl).trans (OnB.of k2 (fun k hk=>by have hk':k=g:=hk;subst hk';exact aU hrow.row k rfl) hT2 rfl)
theorem DAt.armSet {g i k:Nat} {v:OpV} {t:Int} (h:DAt w B a d) (hi:i < d.L.length) (hA:(opAt d.L i).A=some ⟨g,0,none⟩) (hk:k < (opAt d.L i).o.arms.length)
 (hv:v.A=(opAt d.L i).A) (hc:v.c=(opAt d.L i).c) (hs:v.o.arms=(opAt d.L i).o.arms.set k ⟨(fL (opAt d.L i).o.arms k).pat,t⟩) (he:encOp v=encOp (opAt d.L i)) (hp:d'={ d with L:=d.L.set i v }) :
 DAt (w.setCell ⟨g,k * 2 + 1,none⟩ (.int .i64 t)) B a d'∧OnB B w (w.setCell ⟨g,k * 2 + 1,none⟩ (.int .i64 t)):=by
 have harm:=h.ops.arms _ (cJ hi)
 refine h.turn (S:=(· = g)) (T:=94) bP (fun k hk=>?_) (by decide) (by decide) (by decide) rfl (L':=d.L.set i v) (h.ops.armSet hi hA hk hv hc hs he) (List.length_set) hp
 have hk':k=g:=hk
 subst hk'
 have hob:(armsV (opAt d.L i)).ownBlock=some k:=by unfold armsV;rw [aB,hA];rfl
 exact ⟨aU harm k hob,aZ harm hob⟩
end
theorem Tryz.infoBool:(Tryz.prog.info? 4).map (fun i=>(i.zero,i.size,i.bytes))=some (some (.bool false),1,1):=by kernel_rfl
def mW (b:Bool):List Value:=[.bool b]
theorem encB_one (b:Bool):∀ u ∈ mW b,u.oneCell'=true:=by intro u hu;simp [mW] at hu;subst hu;rfl
def bAt (l:List Bool) (k:Nat):Bool:=l.getD k false
theorem rL (l:List Bool):flat mW l=l.map Value.bool:=by
 induction l with
 | nil=>rfl
 | cons a r ih=>rw [kC,ih];rfl
theorem vQ {w:World} {base n:Nat} {A:Option Addr} {c:Nat} {s:List Bool} (h:w.ownsRow base 4 1 (.slice A n c) n (flat mW s)) (j:Nat) (hj:j < n):∃ g,A=some ⟨g,0,none⟩∧base≤g∧g < w.heap.size∧w.cell? ⟨g,j,none⟩=some (.bool (bAt s j))∧w.frozen? ⟨g,j,none⟩=false:=by
 obtain ⟨hl,h2⟩:=h
 rcases h2 with ⟨hv,hn⟩ | ⟨g,cap,cur,hv,hb,hh,hnc,hcm,hsz,htk⟩
 ·omega
 ·injection hv with hv _ _
  have hB:Blk w g 4 cur:=hh
  refine ⟨g,hv,hb,hB.lt,?_,hB.frozen j⟩
  rw [hB.cell j]
  have e:cur[j]?=(cur.toList.take (n * 1))[j]?:=by rw [List.getElem?_take,if_pos (by omega)];simp
  rw [e,htk,rL]
  rw [rL] at hl
  have hjl:j < s.length:=by simp at hl;omega
  simp [bAt,List.getD,hjl]
set_option maxRecDepth 100000 in
theorem refHas_c (a b c d:Int) (x:Nat) (w:World) (hx:x < 256):Calls Tryz.prog 240 #[.agg (setA a b c d),.int .i64 x] w fun e w'=>∃ v,e=.returned (.bool v)∧Below w.heap.size w w':=by
 unfold setA
 have hr1:Int.tmod (x:Int) 64=((x % 64:Nat):Int):=by rw [Int.tmod_eq_emod_of_nonneg (by omega)];omega
 have hr2:(x:Int) % 64=((x % 64:Nat):Int):=by omega
 have hr3:x % 64 < 64:=Nat.mod_lt _ (by omega)
 have h4:x / 64=0∨x / 64=1∨x / 64=2∨x / 64=3:=by omega
 rcases h4 with h4 | h4 | h4 | h4
 all_goals
  have hq1:Int.tdiv (x:Int) 64=((x / 64:Nat):Int):=by rw [Int.tdiv_eq_ediv_of_nonneg (by omega)];omega
  have hq2:(x:Int) / 64=((x / 64:Nat):Int):=by omega
  have hw1:IntKind.i64.wrap ((x / 64:Nat):Int)=((x / 64:Nat):Int):=IntWalk.i64_in _ (by omega)
  have hw2:IntKind.i64.wrap ((x % 64:Nat):Int)=((x % 64:Nat):Int):=IntWalk.i64_in _ (by omega)
  rw [h4] at hq1 hq2 hw1
  clear h4
  obtain ⟨r,hr⟩:∃ r,r=x % 64:=⟨_,rfl⟩
  rw [← hr] at hr1 hr2 hr3 hw2
  clear hr
  go_enter Tryz.func240,Tryz.ntmps240
  go_wp2_with fail
  go_loopw [5,6] (fun n i wr=>∃ (k:Nat) (v:Int),k < 64∧i=.int .i64 k∧n=.int .u64 v∧Hid (Below w.heap.size w wr)) (fun _ i _=>(intOf i).toNat)
  case atStart=>exact ⟨r,_,by omega,by go_num,rfl,hide (aK _ _)⟩
  case round =>
   obtain ⟨k,v,hk,rfl,rfl,hbel⟩:=hrel
   by_cases h0:0 < k
   ·have d1:decide ((0:Int) < (k:Int))=true:=by simp;omega
    have d2:decide (0 < k)=true:=by simp;omega
    go_wp2_with fail
    go_roundw
    case rel=>exact ⟨k - 1,_,by omega,by go_num,rfl,hbel⟩
    case measure=>simp [intOf];omega
   ·have d1:decide ((0:Int) < (k:Int))=false:=by simp;omega
    have d2:decide (0 < k)=false:=by simp;omega
    go_wp2_with fail
    go_ret
    exact ⟨_,rfl,hbel.out⟩
set_option maxRecDepth 100000 in
theorem nO (a b c d:Int) (w:World):Calls Tryz.prog 227 #[.agg (setA a b c d)] w fun e w'=>∃ v s,e=.returned v∧w'.ownsRow w.heap.size 4 1 v 256 (flat mW s)∧Below w.heap.size w w':=by
 obtain ⟨i0,hi,hz0,hz1,hz2⟩:=info_parts Tryz.infoBool
 go_enter Tryz.func227,Tryz.ntmps227
 go_wp2_with fail
 unfold setA
 go_loopw [3,4] (fun v i wr=>∃ (k:Nat) (s:List Bool),k≤256∧i=.int .i64 k∧Hid (wr.ownsRow w.heap.size 4 1 v k (flat mW s))∧Hid (Below w.heap.size w wr)∧Hid (Blk wr w.heap.size 249 (setA a b c d))) (fun _ i _=>256 - (intOf i).toNat)
 case atStart=>exact ⟨0,[],by omega,rfl,hide (uQ (by simp) (by simp)),hide ((aK _ _).alloc (by simp) _),hide ((Blk.new _ _ _).alloc _)⟩
 case round =>
  obtain ⟨k,s,hk,rfl,hown,hbel,hB⟩:=hrel
  obtain ⟨A1,c1,rfl,hcap⟩:=aW hown.out
  obtain ⟨⟨g0,g1,g2,g3⟩,_⟩:=hB.out.four
  by_cases hlt:k < 256
  ·have HH:=hide (show Calls Tryz.prog 240 #[.agg #[.int .u64 a,.int .u64 b,.int .u64 c,.int .u64 d],.int .i64 k] wr _ from refHas_c a b c d k wr hlt)
   go_wp2_with (first
    | (go_at_call 240
       refine HH.out.mono ?_
       rintro e w2 ⟨v,rfl,hb2⟩
       have HO2:=hide (b8 hown.out (Only.of_below hb2 aA) (fun _ _ h=>h.elim))
       have HL2:=hide (hbel.out.trans (hb2.mono hbel.out.size))
       have HB2:=hide (hB.out.below hb2)
       have Hrd:=hide (show Rd (w2.alloc (.cells (mW v).toArray 4)) aA (some ⟨w2.heap.size,0,none⟩) (mW v) from aY (Blk.new _ _ _) (fun h=>h))
       have Hone:=hide (encB_one v)
       clear hb2 g0 g1 g2 g3)
    | (at_builtin;refine aD _ rfl (.tmp 10) (.tmp 14) _ rfl w.heap.size 4 i0 _ 1 1 Tryz.underlying276 hi hz0 hz1 hz2 rfl (by omega) _ k _ rfl (HO2.out.alloc _) aA (some ⟨w2.heap.size,0,none⟩) 1 1 (mW v) rfl Hrd.out rfl Hone.out (by simp only [maxLen];omega) (by omega) (by have:=HL2.out.size;simp;omega) ?_;intro v2 w3 hown2 hgr _;have Own2:=hide hown2;have Gr:=hide hgr;clear hown2 hgr))
   have HL3:=hide ((HL2.out.alloc HL2.out.size _).grown Gr.out (by have:=HL2.out.size;simp;omega) (fun j hj=>by have:=aU HO2.out j hj;omega))
   go_roundw
   case rel =>
    refine ⟨k + 1,s++[v],by omega,by go_num,?_,HL3,hide (Blk.grown (HB2.out.alloc _) (HO2.out.alloc _) (by decide) Gr.out)⟩
    rw [dZ]
    exact hide (by simpa [flat] using Own2.out)
   case measure=>simp [intOf];omega
  ·obtain rfl:k=256:=by omega
   go_wp2_with fail
   go_ret
   exact ⟨_,s,rfl,hown.out,hbel.out⟩
set_option maxRecDepth 100000 in
theorem pX (w:World):Calls Tryz.prog 211 #[] w fun e w'=>∃ v s,e=.returned v∧w'.ownsRow w.heap.size 4 1 v 256 (flat mW s)∧Below w.heap.size w w':=by
 have HF:=hide (show Calls Tryz.prog 227 #[.agg #[.int .u64 0,.int .u64 0,.int .u64 0,.int .u64 0]] w _ from nO 0 0 0 0 w)
 go_enter Tryz.func211,Tryz.ntmps211
 go_wp2_with fail
 refine HF.out.mono ?_
 rintro e w2 ⟨v,s,rfl,ho,hb⟩
 go_wp2_with fail
 go_ret
 exact ⟨v,s,rfl,ho,hb⟩
def SetB (w:World) (g:Nat):Prop:=∃ a b c d:Int,Blk w g 249 (setA a b c d)
theorem vO {w:World} {g k:Nat} (h:SetB w g) (hk:k < 4):∃ v:Int,w.cell? ⟨g,k,none⟩=some (.int .u64 v)∧w.frozen? ⟨g,k,none⟩=false∧∀ u:Int,SetB (w.setCell ⟨g,k,none⟩ (.int .u64 u)) g:=by
 obtain ⟨a,b,c,d,h⟩:=h
 have h4:k=0∨k=1∨k=2∨k=3:=by omega
 rcases h4 with rfl | rfl | rfl | rfl
 ·exact ⟨a,by rw [h.cell];rfl,h.frozen _,fun u=>⟨u,b,c,d,h.set_ 0 _⟩⟩
 ·exact ⟨b,by rw [h.cell];rfl,h.frozen _,fun u=>⟨a,u,c,d,h.set_ 1 _⟩⟩
 ·exact ⟨c,by rw [h.cell];rfl,h.frozen _,fun u=>⟨a,b,u,d,h.set_ 2 _⟩⟩
 ·exact ⟨d,by rw [h.cell];rfl,h.frozen _,fun u=>⟨a,b,c,u,h.set_ 3 _⟩⟩
set_option maxRecDepth 100000 in
theorem xE (base:Nat) (A:Option Addr) (c:Nat) (s:List Bool) (w:World) (h:w.ownsRow base 4 1 (.slice A 256 c) 256 (flat mW s)):Calls Tryz.prog 214 #[.slice A 256 c] w (fO w):=by
 have H:=hide h
 go_enter Tryz.func214,Tryz.ntmps214
 go_wp2_with fail
 go_loopw [4] (fun i wr=>∃ k:Nat,k≤4∧i=.int .i64 k∧Hid (∃ a b c d,Blk wr (w.heap.size + 1) 249 (setA a b c d))∧Hid (Blk wr w.heap.size 249 (setA 0 0 0 0))∧Hid (Below w.heap.size w wr)) (fun i _=>4 - (intOf i).toNat)
 case atStart=>exact ⟨0,by omega,rfl,hide ⟨0,0,0,0,Blk.new' (by simp)⟩,hide ((Blk.new _ _ _).alloc _),hide ((aK _ _).alloc (by simp) _)⟩
 case round =>
  obtain ⟨k,hk,rfl,hb,hz,hbel⟩:=hrel
  by_cases hle:k < 4
  ·have d1:decide ((k:Int) < 4)=true:=by simp;omega
   have d2:decide (k < 4)=true:=by simp;omega
   go_wp2_with fail
   go_loopw [5] (fun i w2=>∃ j:Nat,j≤64∧i=.int .i64 ((j:Int) - 1)∧Hid (∃ a b c d,Blk w2 (w.heap.size + 1) 249 (setA a b c d))∧Hid (Blk w2 w.heap.size 249 (setA 0 0 0 0))∧Hid (Below w.heap.size w w2)) (fun i _=>(intOf i + 1).toNat)
   case atStart=>exact ⟨64,by omega,by simp,hb,hz,hbel⟩
   case round =>
    obtain ⟨j,hj,rfl,hb2,hz2,hbel2⟩:=hrel
    obtain ⟨a,b,c',d,hb2⟩:=hb2.out
    have HB:=hide hb2
    by_cases hj0:0 < j
    ·obtain ⟨q,rfl⟩:∃ q,j=q + 1:=⟨j - 1,by omega⟩
     rw [show (((q + 1:Nat):Int) - 1)=(q:Int) by omega]
     have e1:decide ((0:Int)≤(q:Int))=true:=by simp
     have w1:IntKind.i64.wrap (64 * (k:Int))=64 * (k:Int):=IntWalk.i64_in _ (by omega)
     have w2':IntKind.i64.wrap (64 * (k:Int) + (q:Int))=64 * (k:Int) + (q:Int):=IntWalk.i64_in _ (by omega)
     have hA:∃ g,A=some ⟨g,0,none⟩∧g < w.heap.size∧∀ i,i < 256→w.cell? ⟨g,i,none⟩=some (.bool (bAt s i)):=by
      obtain ⟨g,hg,_,hgl,_⟩:=vQ H.out 0 (by omega)
      refine ⟨g,hg,hgl,fun i hi=>?_⟩
      obtain ⟨g',hg',_,_,hc,_⟩:=vQ H.out i hi
      rw [hg] at hg'
      injection hg' with hg'
      injection hg' with hg'
      subst hg'
      exact hc
     obtain ⟨g,rfl,hgl,hcell⟩:=hA
     have hgi:wr.cell? ⟨g,64 * k + q,none⟩=some (.bool (bAt s (64 * k + q))):=fN hbel2.out hgl (hcell _ (by omega))
     have j1:(0:Int)≤64 * (k:Int) + (q:Int):=by omega
     have j2:64 * (k:Int) + (q:Int) < 256:=by omega
     have j3:(64 * (k:Int) + (q:Int)).toNat=64 * k + q:=by omega
     have hne:¬ g=w.heap.size + 1:=by omega
     have hne2:¬ w.heap.size + 1=g:=by omega
     obtain ⟨bv,hbv⟩:∃ bv,bv=bAt s (64 * k + q):=⟨_,rfl⟩
     rw [← hbv] at hgi
     obtain ⟨v0,g0,f0,hset⟩:=vO ⟨a,b,c',d,hb2⟩ hle
     have HS:=hide hset
     have k1:(0:Int)≤(k:Int):=by omega
     have k2:(k:Int) < 4:=by omega
     clear hb hb2 hcell hbv hset
     cases bv
     ·go_wp2_with fail
      go_roundw
      case rel=>exact ⟨q,by omega,rfl,hide (HS.out _),hide (hz2.out.far (by simp) _),hide (hbel2.out.setCell (by simp) _)⟩
      case measure=>simp [intOf]
     ·go_wp2_with fail
      go_roundw
      case rel =>
       refine ⟨q,by omega,rfl,hide ?_,hide ((hz2.out.far (by simp) _).far (by simp) _),hide ((hbel2.out.setCell (by simp) _).setCell (by simp) _)⟩
       obtain ⟨v1,_,_,hs2⟩:=vO (HS.out _) hle
       exact hs2 _
      case measure=>simp [intOf]
    ·obtain rfl:j=0:=by omega
     have e1:decide ((0:Int)≤(((0:Nat):Int) - 1))=false:=by decide
     go_wp2_with fail
     go_roundw
     case rel=>exact ⟨k + 1,by omega,by go_num,hide ⟨a,b,c',d,HB.out⟩,hz2,hbel2⟩
     case measure=>simp [intOf];omega
  ·obtain rfl:k=4:=by omega
   obtain ⟨a,b,c',d,hb⟩:=hb.out
   obtain ⟨⟨g0,g1,g2,g3⟩,_⟩:=hb.four
   obtain ⟨⟨z0,z1,z2,z3⟩,e0,e1,e2,e3⟩:=hz.out.four
   clear hb
   go_wp2_with fail
   rw [dW]
   have r2:=hz.out.put [.int .u64 a,.int .u64 b,.int .u64 c',.int .u64 d] rfl
   have r3:=bX [.int .u64 a,.int .u64 b,.int .u64 c',.int .u64 d] 0 hbel.out (Nat.le_refl _)
   obtain ⟨wz,hz⟩:∃ wz,wz=aE wr w.heap.size 0 [.int .u64 a,.int .u64 b,.int .u64 c',.int .u64 d]:=⟨_,rfl⟩
   rw [← hz] at r2 r3 ⊢
   obtain ⟨⟨g0,g1,g2,g3⟩,_⟩:=r2.four
   refine bodyPost_ret (v:=.agg #[.int .u64 a,.int .u64 b,.int .u64 c',.int .u64 d]) (by simp [results,Tryz.results214,go_sem,g0,g1,g2,g3]) rfl ?_
   exact ⟨a,b,c',d,rfl,r3⟩
end Go.Proofs.YtaioaojfdngfdaaGreatDoor
