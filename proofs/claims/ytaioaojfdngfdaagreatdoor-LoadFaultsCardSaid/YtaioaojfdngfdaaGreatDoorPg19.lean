/- Parts of a chain of lemmas: Map, Prg3, Prg4, Prg5, Prg6, OpR, ParA, ParB. Conditions: those of each theorem. -/
import Derived.Test.YtaioaojfdngfdaaGreatDoorPg18
import Derived.Maps.Own
import Derived.Maps.OwnSet
import Derived.Test.YtaioaojfdngfdaaGreatDoorPg13
import Derived.Deep.RegionWith
import Derived.Test.YtaioaojfdngfdaaGreatDoorPg09
import Derived.Laws.OwnMore
import Derived.Test.YtaioaojfdngfdaaGreatDoorPg05
set_option linter.unusedVariables false
set_option linter.unusedSimpArgs false
namespace Go.Proofs.YtaioaojfdngfdaaGreatDoor
open Go.RowKit Go.WideMaps
set_option maxRecDepth 100000
theorem Tryz.lawS:Maps.Keyed Tryz.prog 9:=Maps.string_keyed Tryz.underlying9
theorem Tryz.zeroInt (w:World):(zeroValue 3).run Tryz.prog w=.ok (.int .i64 0) w:=by kernel_rfl
def LbAt (w:World) (b n:Nat) (ls:List (List UInt8 × Int)):Prop :=
 ∃ D:DataW Unit,w.ownsMap Tryz.prog 9 (plainElem Tryz.prog 3) b n D∧Maps.IsMap D∧∀ k:List UInt8,Maps.has D (.string k)=(lbF k ls).isSome∧∀ v,lbF k ls=some v→D.atKey (.string k) (.lit (.int .i64 0))=.lit (.int .i64 v)
theorem lb_made (w:World):LbAt (w.alloc (.map #[] 0)) w.heap.size 0 [] :=
 ⟨.map [],World.ownsMap_made _ _ _ _,Maps.isMap_empty,fun k=>⟨rfl,fun v h=>by cases h⟩⟩
theorem LbAt.drew {w:World} {b n:Nat} {ls:List (List UInt8 × Int)} (h:LbAt w b n ls):LbAt w.drew b n ls:=h
theorem LbAt.only {S:Nat→Prop} {w w':World} {b n:Nat} {ls:List (List UInt8 × Int)} (h:LbAt w b n ls) (k:Only S w w') (hS:¬ S b):LbAt w' b n ls:=by
 obtain ⟨D,⟨es,clock,hb,F,hs,hD⟩,h2⟩:=h
 have hlt:b < w.heap.size:=(Array.getElem?_eq_some_iff.1 hb).1
 exact ⟨D,⟨es,clock,(k.block b hlt hS).trans hb,F,hs,hD⟩,h2⟩
theorem LbAt.ne {w:World} {b n g:Nat} {T:TypeId} {cs:Array Value} {ls:List (List UInt8 × Int)} (h:LbAt w b n ls) (hg:Blk w g T cs):g≠b:=by
 obtain ⟨D,⟨es,clock,hb,_⟩,_⟩:=h
 rintro rfl
 unfold Blk at hg
 rw [hg] at hb
 cases hb
theorem LbAt.own_ne {w:World} {b n base size m:Nat} {e:TypeId} {v:Value} {xs:List Value} {ls:List (List UInt8 × Int)} (h:LbAt w b n ls) (ho:w.ownsRow base e size v m xs):∀ g,v.ownBlock=some g→g≠b:=by
 intro g hg
 rcases ho.2 with ⟨rfl,_⟩ | ⟨g',cap,cur,rfl,_,hb,_⟩
 ·simp [Value.ownBlock] at hg
 ·simp [Value.ownBlock] at hg
  subst hg
  exact h.ne (T:=e) (cs:=cur) hb
theorem lb_key (k:List UInt8) (hk:k.length≤1000000000):keyOf Tryz.prog 9 (.string (bs k))=some (.string k):=by
 have:=keyOf_string_mk (P:=Tryz.prog) (k:=9) Tryz.underlying9 (s:=bs k) (by rw [bJ];unfold maxLen;omega)
 rw [this]
theorem vT {w:World} {b n:Nat} {ls:List (List UInt8 × Int)} (h:LbAt w b n ls) (k:List UInt8) (hk:k.length≤1000000000) :
 (Instr.lookup 71 (.map (some b)) (.string (bs k)) true).run Tryz.prog w=.ok (.tuple #[.int .i64 ((lbF k ls).getD 0),.bool (lbF k ls).isSome]) w:=by
 obtain ⟨D,ho,hm,hD⟩:=h
 obtain ⟨v,ps,hrun,hv⟩:=ho.look_ok Tryz.lawS Tryz.underlying71 (Tryz.zeroInt w) (plainElem_int Tryz.underlying3 (by decide)) (lb_key k hk)
 obtain ⟨c,rfl,hc,_⟩:=plainElem_int_inv Tryz.underlying3 hv
 have hc2:=congrArg Prod.fst hc
 simp only at hc2
 rw [hrun,(hD k).1]
 congr 3
 cases hf:lbF k ls with
 | none =>
  have hn:=(hD k).1
  rw [hf] at hn
  rw [Maps.atKey_of_not_has hn] at hc2
  injection hc2 with hc3
  injection hc3 with _ hc4
  rw [← hc4];rfl
 | some x =>
  rw [(hD k).2 x hf] at hc2
  injection hc2 with hc3
  injection hc3 with _ hc4
  rw [← hc4];rfl
theorem s6 {w:World} {b n:Nat} {ls:List (List UInt8 × Int)} (h:LbAt w b n ls) (hn:n≤1000000000) (k:List UInt8) (hk:k.length≤1000000000) (v:Int) (h0 : -1000000000≤v) (h1:v≤1000000000) :
 ∃ w',(Instr.mapUpdate 71 (.map (some b)) (.string (bs k)) (.int .i64 v)).run Tryz.prog w=.ok () w'∧LbAt w' b (n + 1) ((k,v) :: ls)∧Only (· = b) w w':=by
 obtain ⟨D,ho,hm,hD⟩:=h
 have hwf:(Lit.int .i64 v).wf=true:=by
  show (decide (IntKind.i64.min≤v) && decide (v≤IntKind.i64.max))=true
  have e1:IntKind.i64.min = -9223372036854775808:=by decide
  have e2:IntKind.i64.max=9223372036854775807:=by decide
  rw [e1,e2,decide_eq_true (by omega),decide_eq_true (by omega)]
  rfl
 have hkl:WideAt.IsKeyLit (.string k):=by trivial
 obtain ⟨w',hrun,ho',hg⟩:=ho.update Tryz.lawS Tryz.underlying71 (by unfold maxLen;omega) (lb_key k hk) (plainElem_int Tryz.underlying3 hwf)
 refine ⟨w',hrun,⟨_,ho',hm.put _ _,fun j=>?_⟩,⟨hg.os,hg.output,hg.size,fun i hi hne=>hg.block i hi (fun e=>hne (by injection e))⟩⟩
 by_cases hj:k=j
 ·subst hj
  refine ⟨by rw [Maps.has_put_same hm hkl];simp [lbF],fun x hx=>?_⟩
  rw [Maps.atKey_put_same hm hkl]
  simp [lbF] at hx
  rw [hx]
 ·have hne:Lit.string j≠Lit.string k:=fun e=>hj (by injection e with e;exact e.symm)
  have hl:lbF j ((k,v) :: ls)=lbF j ls:=by simp [lbF,hj]
  rw [hl,Maps.has_put_other hne,Maps.atKey_put_other hne]
  exact hD j
end Go.Proofs.YtaioaojfdngfdaaGreatDoor
namespace Go.Proofs.YtaioaojfdngfdaaGreatDoor
open Go.RowKit
theorem Blk.seven {w:World} {g:Nat} {t:TypeId} {a b c d e f h:Value} (hb:Blk w g t #[a,b,c,d,e,f,h]) :
 w.cell? ⟨g,0,none⟩=some a∧w.cell? ⟨g,1,none⟩=some b∧w.cell? ⟨g,2,none⟩=some c∧w.cell? ⟨g,3,none⟩=some d∧w.cell? ⟨g,4,none⟩=some e∧w.cell? ⟨g,5,none⟩=some f∧w.cell? ⟨g,6,none⟩=some h:=by
 refine ⟨?_,?_,?_,?_,?_,?_,?_⟩<;>(rw [hb.cell];rfl)
theorem Blk.two {w:World} {g:Nat} {t:TypeId} {a b:Value} (hb:Blk w g t #[a,b]):w.cell? ⟨g,0,none⟩=some a∧w.cell? ⟨g,1,none⟩=some b:=by
 refine ⟨?_,?_⟩<;>(rw [hb.cell];rfl)
def OpsRd (w:World) (M:Nat→Prop) (A:Option Addr) (L:List OpV):Prop:=Rd w M A (flat encOp L)∧∀ v ∈ L,Rd w M v.A (flat encArm v.o.arms)
theorem OpsRd.only {S M:Nat→Prop} {w w':World} {A:Option Addr} {L:List OpV} (h:OpsRd w M A L) (k:Only S w w') (hs:∀ b,S b→M b):OpsRd w' M A L:=⟨h.1.only k hs,fun v hv=>(h.2 v hv).only k hs⟩
def opAt (l:List OpV) (k:Nat):OpV:=l.getD k ⟨⟨0,⟨#[]⟩,0,0,[],0,0⟩,none,0⟩
theorem bO {l:List OpV} {k:Nat} (hk:k < l.length):l[k]?=some (opAt l k):=by simp [opAt,List.getD,hk]
theorem cJ {l:List OpV} {k:Nat} (hk:k < l.length):opAt l k ∈ l:=List.mem_of_getElem? (bO hk)
theorem sP {w:World} {M:Nat→Prop} {A:Option Addr} {l:List OpV} (hr:Rd w M A (flat encOp l)) (k:Nat) (hk:k < l.length):∃ b o,A=some ⟨b,o,none⟩∧b < w.heap.size ∧
 w.cell? ⟨b,o + k * 7,none⟩=some (.int .i64 (opAt l k).o.kind)∧w.cell? ⟨b,o + k * 7 + 1,none⟩=some (.string (opAt l k).o.text)∧w.cell? ⟨b,o + k * 7 + 2,none⟩=some (.int .i64 (opAt l k).o.n) ∧
 w.cell? ⟨b,o + k * 7 + 3,none⟩=some (.int .i64 (opAt l k).o.to)∧w.cell? ⟨b,o + k * 7 + 4,none⟩=some (.slice (opAt l k).A (opAt l k).o.arms.length (opAt l k).c) ∧
 w.cell? ⟨b,o + k * 7 + 5,none⟩=some (.int .i64 (opAt l k).o.onT)∧w.cell? ⟨b,o + k * 7 + 6,none⟩=some (.int .i64 (opAt l k).o.onE):=by
 obtain ⟨b,o,hA,_,hb,hc⟩:=cR fV hr k _ (bO hk) (by omega)
 exact ⟨b,o,hA,hb,hc 0 (by omega),hc 1 (by omega),hc 2 (by omega),hc 3 (by omega),hc 4 (by omega),hc 5 (by omega),hc 6 (by omega)⟩
def progM (s:ByteArray) (d j:Int) (L:List OpV):ProgM:=⟨s,d,j,L.map (·.o)⟩
set_option maxRecDepth 100000
theorem kB {α:Type} (enc:α→List Value) (n j:Nat) (u:Value) (x:α) (hj:j < n):∀ (L:List α) (i:Nat) (y:α),(∀ a ∈ L,(enc a).length=n)→L[i]?=some y→enc x=(enc y).set j u→flat enc (L.set i x)=(flat enc L).set (i * n + j) u
 | [],i,y,_,h,_=>by simp at h
 | a :: r,0,y,hl,h,he=>by
  simp at h
  subst h
  have:=hl a (by simp)
  rw [List.set_cons_zero]
  show enc x++flat enc r=(enc a++flat enc r).set (0 * n + j) u
  rw [he,List.set_append,if_pos (by omega)]
  simp
 | a :: r,i + 1,y,hl,h,he=>by
  have h1:=hl a (by simp)
  rw [List.set_cons_succ]
  show enc a++flat enc (r.set i x)=(enc a++flat enc r).set ((i + 1) * n + j) u
  rw [List.set_append,if_neg (by rw [h1,Nat.succ_mul];omega),kB enc n j u x hj r i y (fun b hb=>hl b (by simp [hb])) (by simpa using h) he]
  congr 2
  rw [h1,Nat.succ_mul];omega
theorem aZ {w:World} {base size n:Nat} {e:TypeId} {v:Value} {xs:List Value} (h:w.ownsRow base e size v n xs) {g:Nat} (hg:v.ownBlock=some g):∃ cs,Blk w g e cs:=by
 rcases h.2 with ⟨rfl,_⟩ | ⟨g',cap,cur,rfl,_,hb,_⟩
 ·simp [Value.ownBlock] at hg
 ·simp [Value.ownBlock] at hg
  subst hg
  exact ⟨cur,hb⟩
theorem aI {w w':World} {base size n:Nat} {e T:TypeId} {v:Value} {xs:List Value} {S:Nat→Prop} (h:w.ownsRow base e size v n xs) (k:Only S w w') (hS:∀ g,S g→∃ cs,Blk w g T cs) (hT:T≠e):w'.ownsRow base e size v n xs :=
 b8 h k fun g cs hs hb=>by
  obtain ⟨cs',hb'⟩:=hS g hs
  exact Blk.ne_ hb' hb hT rfl
theorem dR {w w':World} {base size n:Nat} {e:TypeId} {v:Value} {xs:List Value} {S:Nat→Prop} (h:w.ownsRow base e size v n xs) (k:Only S w w') (hS:∀ g,v.ownBlock=some g→¬ S g):w'.ownsRow base e size v n xs:=by
 obtain ⟨hl,h2⟩:=h
 refine ⟨hl,?_⟩
 rcases h2 with ⟨hv,hn⟩ | ⟨g,cap,cur,hv,hb,hh,r⟩
 ·exact Or.inl ⟨hv,hn⟩
 ·exact Or.inr ⟨g,cap,cur,hv,hb,(k.block g (Blk.lt (t:=e) (cs:=cur) hh) (hS g (by rw [hv];rfl))).trans hh,r⟩
theorem aG {w w1:World} {row:Option Nat} (h:w.grownBy w1 row):Only (fun k=>row=some k) w w1 :=
 ⟨h.os,h.output,h.size,fun i hi hne=>h.block i hi (fun e=>hne e.symm)⟩
theorem bP {w:World} {g i:Nat} {u:Value}:Only (· = g) w (w.setCell ⟨g,i,none⟩ u):=nY w g i u
def blkA (A:Option Addr):Option Nat:=A.map (·.block)
theorem aB (A:Option Addr) (n c:Nat):(Value.slice A n c).ownBlock=blkA A:=by cases A<;>rfl
abbrev armsV (v:OpV):Value:=.slice v.A v.o.arms.length v.c
theorem lM {L:List OpV} {q r:Nat} {x y:OpV} (h:L.Pairwise (fun u v=>∀ g,blkA u.A=some g→blkA v.A≠some g)) (hq:L[q]?=some x) (hr:L[r]?=some y) (hlt:q < r):∀ k,blkA x.A=some k→blkA y.A≠some k:=by
 rw [List.pairwise_iff_getElem] at h
 obtain ⟨h1,rfl⟩:=List.getElem?_eq_some_iff.1 hq
 obtain ⟨h2,rfl⟩:=List.getElem?_eq_some_iff.1 hr
 exact h q r h1 h2 hlt
theorem sN {L:List OpV} {i:Nat} {v:OpV} (h:L.Pairwise (fun u v=>∀ g,blkA u.A=some g→blkA v.A≠some g)) (hi:i < L.length) (hA:v.A=(opAt L i).A):(L.set i v).Pairwise (fun u v=>∀ g,blkA u.A=some g→blkA v.A≠some g):=by
 have e:(L.set i v).map (·.A)=L.map (·.A):=by
  rw [List.map_set,hA]
  apply List.ext_getElem?
  intro j
  by_cases hj:i=j
  ·subst hj
   rw [List.getElem?_set_self (by simpa using hi),List.getElem?_map,bO hi]
   rfl
  ·rw [List.getElem?_set_ne hj]
 have h2:=(List.pairwise_map (f:=fun v:OpV=>v.A) (R:=fun (x y:Option Addr)=>∀ g,blkA x=some g→blkA y≠some g)).2 h
 rw [← e] at h2
 exact List.pairwise_map.1 h2
structure OpsOwn (w:World) (B:Nat) (oA:Option Addr) (oc:Nat) (L:List OpV):Prop where
 row:w.ownsRow B 92 7 (.slice oA L.length oc) L.length (flat encOp L)
 arms:∀ v ∈ L,w.ownsRow B 94 2 (armsV v) v.o.arms.length (flat encArm v.o.arms)
 apart:L.Pairwise (fun u v=>∀ g,blkA u.A=some g→blkA v.A≠some g)
section
variable {w w':World} {B:Nat} {oA:Option Addr} {oc:Nat} {L:List OpV} {S:Nat→Prop} {T:TypeId}
theorem OpsOwn.type (h:OpsOwn w B oA oc L) (k:Only S w w') (hS:∀ g,S g→∃ cs,Blk w g T cs) (h1:T≠92) (h2:T≠94):OpsOwn w' B oA oc L :=
 ⟨aI h.row k hS h1,fun v hv=>aI (h.arms v hv) k hS h2,h.apart⟩
theorem OpsOwn.at_ (h:OpsOwn w B oA oc L) {i:Nat} (hi:i < L.length):∃ g,oA=some ⟨g,0,none⟩∧B≤g∧g < w.heap.size:=by
 rcases h.row.2 with ⟨_,hn⟩ | ⟨g,cap,cur,hv,hb,hh,_⟩
 ·omega
 ·injection hv with h1
  exact ⟨g,h1,hb,Blk.lt (t:=92) (cs:=cur) hh⟩
theorem tG {L:List OpV} {i j:Nat} (hi:i < L.length) (hj:j < 7):(flat encOp L)[i * 7 + j]?=(encOp (opAt L i))[j]?:=by
 have:=bO hi
 generalize opAt L i=v at *
 induction L generalizing i with
 | nil=>simp at hi
 | cons a r ih =>
  show (encOp a++flat encOp r)[i * 7 + j]?=_
  cases i with
  | zero =>
   simp at this
   subst this
   rw [List.getElem?_append_left (by rw [fV];omega)]
   simp
  | succ i =>
   rw [List.getElem?_append_right (by rw [fV,Nat.succ_mul];omega)]
   rw [← ih (i:=i) (by simpa using hi) (by simpa using this)]
   congr 1
   rw [fV,Nat.succ_mul];omega
theorem OpsOwn.cells {g:Nat} (h:OpsOwn w B (some ⟨g,0,none⟩) oc L) {i:Nat} (hi:i < L.length) :
 (w.cell? ⟨g,i * 7,none⟩=some (.int .i64 (opAt L i).o.kind)∧w.cell? ⟨g,i * 7 + 1,none⟩=some (.string (opAt L i).o.text)∧w.cell? ⟨g,i * 7 + 2,none⟩=some (.int .i64 (opAt L i).o.n) ∧
   w.cell? ⟨g,i * 7 + 3,none⟩=some (.int .i64 (opAt L i).o.to)∧w.cell? ⟨g,i * 7 + 4,none⟩=some (.slice (opAt L i).A (opAt L i).o.arms.length (opAt L i).c) ∧
   w.cell? ⟨g,i * 7 + 5,none⟩=some (.int .i64 (opAt L i).o.onT)∧w.cell? ⟨g,i * 7 + 6,none⟩=some (.int .i64 (opAt L i).o.onE))∧∀ j,w.frozen? ⟨g,j,none⟩=false:=by
 have hc:=h.row
 have key:∀ j,j < 7→w.cell? ⟨g,i * 7 + j,none⟩=(encOp (opAt L i))[j]?:=fun j hj=>by rw [hc.cellAt _ (by omega),tG hi hj]
 exact ⟨⟨key 0 (by omega),key 1 (by omega),key 2 (by omega),key 3 (by omega),key 4 (by omega),key 5 (by omega),key 6 (by omega)⟩,hc.frozenAt⟩
theorem cO {base size n:Nat} {e:TypeId} {v:Value} {xs:List Value} (h:w.ownsRow base e size v n xs) {g:Nat} (hg:v.ownBlock=some g):g < w.heap.size:=by
 rcases h.2 with ⟨rfl,_⟩ | ⟨g',cap,cur,rfl,_,hb,_⟩
 ·simp [Value.ownBlock] at hg
 ·simp [Value.ownBlock] at hg
  subst hg
  exact Blk.lt (t:=e) (cs:=cur) hb
theorem OpsOwn.app {oA':Option Addr} {oc':Nat} {v:OpV} (h:OpsOwn w B oA oc L) (hB:B≤w.heap.size) (hg:w.grownBy w' (blkA oA)) (hv:v.A=none) (hv2:v.o.arms=[]) (hv3:v.c=0)
 (ho:w'.ownsRow B 92 7 (.slice oA' (L.length + 1) oc') (L.length + 1) (flat encOp L++encOp v)):OpsOwn w' B oA' oc' (L++[v]):=by
 refine ⟨?_,?_,?_⟩
 ·have e:flat encOp (L++[v])=flat encOp L++encOp v:=by simp [flat]
  rw [e,List.length_append]
  exact ho
 ·intro u hu
  rcases List.mem_append.1 hu with hu | hu
  ·refine aI (T:=92) (h.arms u hu) (aG hg) (fun g hgg=>?_) (by decide)
   exact aZ h.row (by rw [aB];exact hgg)
  ·simp at hu
   subst hu
   unfold armsV
   rw [hv,hv2,hv3]
   exact World.ownsRow_nil _ _ _ _
 ·rw [List.pairwise_append]
  refine ⟨h.apart,by simp,fun a _ b hb g _=>?_⟩
  simp at hb
  subst hb
  rw [hv]
  simp [blkA]
theorem OpsOwn.setOp {g i j:Nat} {u:Value} {v:OpV} (h:OpsOwn w B (some ⟨g,0,none⟩) oc L) (hi:i < L.length) (hj:j < 7) (he:encOp v=(encOp (opAt L i)).set j u) (hA:v.A=(opAt L i).A) (hs:v.o.arms=(opAt L i).o.arms) (hc:v.c=(opAt L i).c) :
 OpsOwn (w.setCell ⟨g,i * 7 + j,none⟩ u) B (some ⟨g,0,none⟩) oc (L.set i v):=by
 have hst:=h.row.stored (i * 7 + j) u
 have hbk:∃ cs,Blk w g 92 cs:=aZ h.row rfl
 have hT:∀ x ∈ L,(w.setCell ⟨g,i * 7 + j,none⟩ u).ownsRow B 94 2 (armsV x) x.o.arms.length (flat encArm x.o.arms):=fun x hx =>
  aI (T:=92) (h.arms x hx) bP (fun k hk=>by subst hk;exact hbk) (by decide)
 refine ⟨?_,?_,?_⟩
 ·rw [List.length_set,kB encOp 7 j u v hj L i _ (fun a _=>fV a) (bO hi) he]
  exact hst.1
 ·intro x hx
  rcases List.mem_or_eq_of_mem_set hx with hx | rfl
  ·exact hT x hx
  ·have:=hT _ (cJ hi)
   unfold armsV at this ⊢
   rw [hA,hs,hc]
   exact this
 ·exact sN h.apart hi hA
theorem OpsOwn.armApp {g i:Nat} {A':Option Addr} {c':Nat} {v:OpV} {a:ArmM} (h:OpsOwn w B (some ⟨g,0,none⟩) oc L) (hi:i < L.length) (hg:w.grownBy w' (blkA (opAt L i).A))
 (ho:w'.ownsRow B 94 2 (.slice A' ((opAt L i).o.arms.length + 1) c') ((opAt L i).o.arms.length + 1) (flat encArm (opAt L i).o.arms++encArm a)) (hn:blkA A'=blkA (opAt L i).A∨blkA A'=some w.heap.size)
 (hA:v.A=A') (hs:v.o.arms=(opAt L i).o.arms++[a]) (hc:v.c=c') (he:encOp v=(encOp (opAt L i)).set 4 (.slice A' ((opAt L i).o.arms.length + 1) c')) :
 OpsOwn (w'.setCell ⟨g,i * 7 + 4,none⟩ (.slice A' ((opAt L i).o.arms.length + 1) c')) B (some ⟨g,0,none⟩) oc (L.set i v):=by
 have hrow:w'.ownsRow B 92 7 (.slice (some ⟨g,0,none⟩) L.length oc) L.length (flat encOp L):=aI (T:=94) h.row (aG hg) (fun k hk=>aZ (h.arms _ (cJ hi)) (by unfold armsV;rw [aB];exact hk)) (by decide)
 have hbk:∃ cs,Blk w' g 92 cs:=aZ hrow rfl
 have hst:=hrow.stored (i * 7 + 4) (.slice A' ((opAt L i).o.arms.length + 1) c')
 have hset:∀ {n':Nat} {x:Value} {xs:List Value},w'.ownsRow B 94 2 x n' xs→(w'.setCell ⟨g,i * 7 + 4,none⟩ (.slice A' ((opAt L i).o.arms.length + 1) c')).ownsRow B 94 2 x n' xs:=fun hx =>
  aI (T:=92) hx bP (fun k hk=>by subst hk;exact hbk) (by decide)
 have hold:∀ (q:Nat) (x:OpV),L[q]?=some x→q≠i→∀ k,blkA x.A=some k→blkA (opAt L i).A≠some k:=by
  intro q x hq hne k hk hk2
  have hqi:=bO hi
  rcases Nat.lt_or_ge q i with hlt | hge
  ·exact lM h.apart hq hqi hlt k hk hk2
  ·exact lM h.apart hqi hq (by omega) k hk2 hk
 refine ⟨?_,?_,?_⟩
 ·rw [List.length_set,kB encOp 7 4 _ v (by omega) L i _ (fun a _=>fV a) (bO hi) he]
  exact hst.1
 ·intro x hx
  rw [List.mem_iff_getElem?] at hx
  obtain ⟨q,hq⟩:=hx
  by_cases hqi:i=q
  ·subst hqi
   rw [List.getElem?_set_self hi] at hq
   injection hq with hq
   subst hq
   unfold armsV
   rw [hA,hs,hc,List.length_append,show flat encArm ((opAt L i).o.arms++[a])=flat encArm (opAt L i).o.arms++encArm a by simp [flat]]
   exact hset ho
  ·rw [List.getElem?_set_ne hqi] at hq
   refine hset (dR (h.arms x (List.mem_of_getElem? hq)) (aG hg) (fun k hk hk2=>?_))
   unfold armsV at hk
   rw [aB] at hk
   exact hold q x hq (fun e=>hqi e.symm) k hk hk2
 ·rw [List.pairwise_iff_getElem]
  intro q r hq hr hqr k hk hk2
  rw [List.length_set] at hq hr
  by_cases h1:i=q
  ·subst h1
   rw [List.getElem_set_self,hA] at hk
   rw [List.getElem_set_ne (by omega)] at hk2
   rcases hn with hn | hn
   ·rw [hn] at hk
    exact hold r _ (List.getElem?_eq_getElem hr) (by omega) k hk2 hk
   ·rw [hn] at hk
    injection hk with hk
    have:=cO (h.arms _ (List.getElem_mem hr)) (by unfold armsV;rw [aB];exact hk2)
    omega
  ·rw [List.getElem_set_ne h1] at hk
   by_cases h2:i=r
   ·subst h2
    rw [List.getElem_set_self,hA] at hk2
    rcases hn with hn | hn
    ·rw [hn] at hk2
     exact hold q _ (List.getElem?_eq_getElem hq) (by omega) k hk hk2
    ·rw [hn] at hk2
     injection hk2 with hk2
     have:=cO (h.arms _ (List.getElem_mem hq)) (by unfold armsV;rw [aB];exact hk)
     omega
   ·rw [List.getElem_set_ne h2] at hk2
    exact lM h.apart (List.getElem?_eq_getElem hq) (List.getElem?_eq_getElem hr) hqr k hk hk2
theorem qN {v:OpV}:∀ (L:List OpV) (i:Nat) (y:OpV),L[i]?=some y→encOp v=encOp y→flat encOp (L.set i v)=flat encOp L
 | [],i,y,h,_=>by simp at h
 | a :: r,0,y,h,he=>by
  simp at h
  subst h
  show encOp v++flat encOp r=encOp a++flat encOp r
  rw [he]
 | a :: r,i + 1,y,h,he=>by
  show encOp a++flat encOp (r.set i v)=encOp a++flat encOp r
  rw [qN r i y (by simpa using h) he]
theorem OpsOwn.armSet {g i k:Nat} {v:OpV} {t:Int} (h:OpsOwn w B oA oc L) (hi:i < L.length) (hA:(opAt L i).A=some ⟨g,0,none⟩) (hk:k < (opAt L i).o.arms.length)
 (hv:v.A=(opAt L i).A) (hc:v.c=(opAt L i).c) (hs:v.o.arms=(opAt L i).o.arms.set k ⟨(fL (opAt L i).o.arms k).pat,t⟩) (he:encOp v=encOp (opAt L i)) :
 OpsOwn (w.setCell ⟨g,k * 2 + 1,none⟩ (.int .i64 t)) B oA oc (L.set i v):=by
 have hr:=h.arms _ (cJ hi)
 unfold armsV at hr
 rw [hA] at hr
 have hst:=hr.stored (k * 2 + 1) (.int .i64 t)
 have hbk:∃ cs,Blk w g 94 cs:=aZ hr rfl
 have hfl:flat encArm v.o.arms=(flat encArm (opAt L i).o.arms).set (k * 2 + 1) (.int .i64 t):=by
  rw [hs]
  exact kB encArm 2 1 _ _ (by omega) _ k _ (fun a _=>oO a) (oY hk) rfl
 have hln:v.o.arms.length=(opAt L i).o.arms.length:=by rw [hs,List.length_set]
 refine ⟨?_,?_,sN h.apart hi hv⟩
 ·rw [List.length_set,qN L i _ (bO hi) he]
  exact aI (T:=94) h.row bP (fun k hk=>by subst hk;exact hbk) (by decide)
 ·intro x hx
  rw [List.mem_iff_getElem?] at hx
  obtain ⟨q,hq⟩:=hx
  by_cases hqi:i=q
  ·subst hqi
   rw [List.getElem?_set_self hi] at hq
   injection hq with hq
   subst hq
   unfold armsV
   rw [hv,hA,hc,hln,hfl]
   exact hst.1
  ·rw [List.getElem?_set_ne hqi] at hq
   refine dR (h.arms x (List.mem_of_getElem? hq)) bP (fun k' hk' hk2=>?_)
   unfold armsV at hk'
   rw [aB] at hk'
   subst hk2
   have hqi':=bO hi
   rcases Nat.lt_or_ge q i with hlt | hge
   ·exact lM h.apart hq hqi' hlt _ hk' (by rw [hA];rfl)
   ·exact lM h.apart hqi' hq (by omega) _ (by rw [hA];rfl) hk'
end
set_option maxRecDepth 100000
abbrev encUse (u:UseM):List Value:=[.string (bs u.name),.int .i64 u.line,.int .i64 u.col,.int .i64 u.op,.int .i64 u.how]
theorem gP (x:UseM):∀ u ∈ encUse x,u.oneCell'=true:=by intro u hu;simp at hu;rcases hu with rfl | rfl | rfl | rfl | rfl<;>rfl
def MutT (T:TypeId):Bool:=T == 76 || (T == 135 || (T == 92 || (T == 94 || (T == 84 || (T == 88 || T == 146)))))
structure OnB (B:Nat) (w w':World):Prop where
 on:Only (B≤·) w w'
 keep:∀ k T cs,Blk w k T cs→MutT T=false→Blk w' k T cs
theorem OnB.refl (B:Nat) (w:World):OnB B w w:=⟨Only.refl _ w,fun _ _ _ h _=>h⟩
section
variable {B:Nat} {w w' w'':World}
theorem OnB.trans (h:OnB B w w') (k:OnB B w' w''):OnB B w w'':=⟨h.on.trans k.on,fun g T cs hb hm=>k.keep g T cs (h.keep g T cs hb hm) hm⟩
theorem OnB.alloc (h:OnB B w w') (o:Obj):OnB B w (w'.alloc o):=⟨h.on.alloc o,fun g T cs hb hm=>Blk.alloc (h.keep g T cs hb hm) o⟩
theorem OnB.drew (h:OnB B w w'):OnB B w w'.drew:=⟨h.on.drew,fun g T cs hb hm=>(h.keep g T cs hb hm).drew⟩
theorem OnB.none (k:Only aA w w'):OnB B w w':=⟨k.none _,fun g T cs hb hm=>Blk.only hb k (fun h=>h)⟩
theorem OnB.drewN (h:OnB B w w') (n:Nat):OnB B w (w'.drewN n):=h.trans (OnB.none (Only.drewN (Only.refl aA _) n))
theorem OnB.of {S:Nat→Prop} {T:TypeId} (k:Only S w w') (hB:∀ g,S g→B≤g) (hT:∀ g,S g→∃ cs,Blk w g T cs) (hm:MutT T=true):OnB B w w' :=
 ⟨k.mono fun g _ hg=>hB g hg,fun g T' cs hb hm'=>Blk.only hb k (fun hg=>by
  obtain ⟨cs',hc⟩:=hT g hg
  exact Blk.ne_ hc hb (fun e=>by rw [e,hm'] at hm;exact absurd hm (by decide)) rfl)⟩
theorem okeepB (h:OnB B w w') {p:Addr} (hp:¬ B≤p.block) {v:Value} (hv:w.cell? p=some v):w'.cell? p=some v:=cM h.on hp hv
end
structure Pp where
 name:ByteArray
 dl:Int
 jm:Int
 L:List OpV
 oA:Option Addr
 oc:Nat
 labels:List (List UInt8 × Int)
 mb:Nat
 uses:List UseM
 uA:Option Addr
 uc:Nat
 head:Bool
 opn:Bool
 t0:Bool
 t1:Bool
 line:Int
 wA:Option Addr
 ws:List WordM
 wc:Nat
 width:Int
 st:St
def Pp.fr (p:Pp):Fr:=⟨.string p.name,.int .i64 p.dl,.int .i64 p.jm,.slice p.oA p.L.length p.oc,.map (some p.mb),.slice p.uA p.uses.length p.uc,.bool p.head,.bool p.opn,.bool p.t0,.bool p.t1,p.line,p.wA,p.ws,p.wc,p.width⟩
structure PAt (w:World) (B a:Nat) (p:Pp):Prop where
 blk:PBlk w a p.fr p.st
 base:B≤a
 ops:OpsOwn w B p.oA p.oc p.L
 uses:w.ownsRow B 135 5 (.slice p.uA p.uses.length p.uc) p.uses.length (flat encUse p.uses)
 lb:LbAt w p.mb p.labels.length p.labels
 lbB:B≤p.mb
 ws:w.ownsRow B 128 3 (.slice p.wA p.ws.length p.wc) p.ws.length (flat encW p.ws)
section
variable {w w':World} {B a:Nat} {p p':Pp}
theorem PAt.lt (h:PAt w B a p):a < w.heap.size:=h.blk.lt
theorem PAt.front (h:PAt w B a p) (k:Only (· = a) w w') (hb:PBlk w' a p'.fr p'.st) (e1:p'.L=p.L:=by rfl) (e2:p'.oA=p.oA:=by rfl) (e3:p'.oc=p.oc:=by rfl) (e4:p'.labels=p.labels:=by rfl) (e5:p'.mb=p.mb:=by rfl)
 (e6:p'.uses=p.uses:=by rfl) (e7:p'.uA=p.uA:=by rfl) (e8:p'.uc=p.uc:=by rfl) (e9:p'.ws=p.ws:=by rfl) (e10:p'.wA=p.wA:=by rfl) (e11:p'.wc=p.wc:=by rfl):PAt w' B a p':=by
 have hS:∀ g,g=a→∃ cs,Blk w g 76 cs:=fun g hg=>by subst hg;exact ⟨_,h.blk⟩
 refine ⟨hb,h.base,?_,?_,?_,by rw [e5];exact h.lbB,?_⟩
 ·rw [e1,e2,e3];exact h.ops.type k hS (by decide) (by decide)
 ·rw [e6,e7,e8];exact aI h.uses k hS (by decide)
 ·rw [e4,e5];exact h.lb.only k (fun e=>h.lb.ne h.blk e.symm)
 ·rw [e9,e10,e11];exact aI h.ws k hS (by decide)
theorem PAt.same (h:PAt w B a p) (k:Only aA w w'):PAt w' B a p:=h.front (k.none _) (Blk.only h.blk k (fun h=>h))
theorem PAt.alloc (h:PAt w B a p) (o:Obj):PAt (w.alloc o) B a p:=h.same ((Only.refl aA w).alloc o)
theorem PAt.drew (h:PAt w B a p):PAt w.drew B a p:=h.same (Only.refl aA w).drew
theorem PAt.words (h:PAt w B a p):Rd w (· = a) p.wA (flat encW p.ws):=by
 rcases h.ws.2 with ⟨hv,hn⟩ | ⟨g,cap,cur,hv,hb,hh,hnc,_,hsz,htk⟩
 ·left
  exact List.eq_nil_of_length_eq_zero (by rw [h.ws.1,hn])
 ·right
  injection hv with h1
  refine ⟨g,0,h1,fun e=>?_,Blk.lt (t:=128) (cs:=cur) hh,fun j hj=>?_⟩
  ·subst e;exact Blk.ne_ (t:=128) (cs:=cur) hh h.blk (by decide) rfl
  ·rw [Blk.cell (t:=128) (cs:=cur) hh,← htk,List.getElem?_take,if_pos (by rw [← h.ws.1];exact hj),Nat.zero_add]
   simp
theorem PAt.use {uA':Option Addr} {uc':Nat} {u:UseM} (h:PAt w B a p) (hg:w.grownBy w' (blkA p.uA)) (ho:w'.ownsRow B 135 5 (.slice uA' (p.uses.length + 1) uc') (p.uses.length + 1) (flat encUse p.uses++encUse u))
 (hp:p'={ p with uses:=p.uses++[u],uA:=uA',uc:=uc' }):PAt (w'.setCell ⟨a,5,none⟩ (.slice uA' (p.uses.length + 1) uc')) B a p'∧OnB B w (w'.setCell ⟨a,5,none⟩ (.slice uA' (p.uses.length + 1) uc')):=by
 subst hp
 have hSu:∀ g,blkA p.uA=some g→∃ cs,Blk w g 135 cs:=fun g hgg=>aZ h.uses (by rw [aB];exact hgg)
 have hb1:PBlk w' a p.fr p.st:=Blk.only h.blk (aG hg) (fun hgg=>by obtain ⟨cs,hc⟩:=hSu a hgg;exact Blk.ne_ hc h.blk (by decide) rfl)
 have hS:∀ g,g=a→∃ cs,Blk w' g 76 cs:=fun g hg=>by subst hg;exact ⟨_,hb1⟩
 have k2:Only (· = a) w' (w'.setCell ⟨a,5,none⟩ (.slice uA' (p.uses.length + 1) uc')):=bP
 refine ⟨⟨?_,h.base,?_,?_,?_,h.lbB,?_⟩,?_⟩
 ·have:=hb1.set_ 5 (.slice uA' (p.uses.length + 1) uc')
  unfold PBlk Pp.fr at *
  simp only [List.length_append,List.length_singleton]
  exact this
 ·exact (h.ops.type (aG hg) hSu (by decide) (by decide)).type k2 hS (by decide) (by decide)
 ·have e:flat encUse (p.uses++[u])=flat encUse p.uses++encUse u:=by simp [flat]
  show World.ownsRow _ B _ 5 (.slice uA' (p.uses++[u]).length uc') (p.uses++[u]).length (flat encUse (p.uses++[u]))
  rw [e,List.length_append]
  exact aI ho k2 hS (by decide)
 ·refine (h.lb.only (aG hg) (fun hgg=>?_)).only k2 (fun e=>?_)
  ·obtain ⟨cs,hc⟩:=hSu _ hgg;exact h.lb.ne hc rfl
  ·exact h.lb.ne h.blk e.symm
 ·exact aI (aI h.ws (aG hg) hSu (by decide)) k2 hS (by decide)
 ·exact (OnB.of (aG hg) (fun g hgg=>aU h.uses g (by rw [aB];exact hgg)) hSu rfl).trans (OnB.of k2 (fun g hg=>by have:=h.base;omega) hS rfl)
theorem PAt.app {oA':Option Addr} {oc':Nat} {v:OpV} (h:PAt w B a p) (hB:B≤w.heap.size) (hg:w.grownBy w' (blkA p.oA)) (hv:v.A=none) (hv2:v.o.arms=[]) (hv3:v.c=0)
 (ho:w'.ownsRow B 92 7 (.slice oA' (p.L.length + 1) oc') (p.L.length + 1) (flat encOp p.L++encOp v))
 (hp:p'={ p with L:=p.L++[v],oA:=oA',oc:=oc' }):PAt (w'.setCell ⟨a,3,none⟩ (.slice oA' (p.L.length + 1) oc')) B a p'∧OnB B w (w'.setCell ⟨a,3,none⟩ (.slice oA' (p.L.length + 1) oc')):=by
 subst hp
 have hSu:∀ g,blkA p.oA=some g→∃ cs,Blk w g 92 cs:=fun g hgg=>aZ h.ops.row (by rw [aB];exact hgg)
 have hb1:PBlk w' a p.fr p.st:=Blk.only h.blk (aG hg) (fun hgg=>by obtain ⟨cs,hc⟩:=hSu a hgg;exact Blk.ne_ hc h.blk (by decide) rfl)
 have hS:∀ g,g=a→∃ cs,Blk w' g 76 cs:=fun g hg=>by subst hg;exact ⟨_,hb1⟩
 have k2:Only (· = a) w' (w'.setCell ⟨a,3,none⟩ (.slice oA' (p.L.length + 1) oc')):=bP
 refine ⟨⟨?_,h.base,?_,?_,?_,h.lbB,?_⟩,?_⟩
 ·have:=hb1.set_ 3 (.slice oA' (p.L.length + 1) oc')
  unfold PBlk Pp.fr at *
  simp only [List.length_append,List.length_singleton]
  exact this
 ·exact (h.ops.app hB hg hv hv2 hv3 ho).type k2 hS (by decide) (by decide)
 ·exact aI (aI h.uses (aG hg) hSu (by decide)) k2 hS (by decide)
 ·refine (h.lb.only (aG hg) (fun hgg=>?_)).only k2 (fun e=>?_)
  ·obtain ⟨cs,hc⟩:=hSu _ hgg;exact h.lb.ne hc rfl
  ·exact h.lb.ne h.blk e.symm
 ·exact aI (aI h.ws (aG hg) hSu (by decide)) k2 hS (by decide)
 ·exact (OnB.of (aG hg) (fun g hgg=>aU h.ops.row g (by rw [aB];exact hgg)) hSu rfl).trans (OnB.of k2 (fun g hg=>by have:=h.base;omega) hS rfl)
theorem PAt.turn {S:Nat→Prop} {T:TypeId} {L':List OpV} (h:PAt w B a p) (k:Only S w w') (hS:∀ g,S g→B≤g∧∃ cs,Blk w g T cs) (hT:T≠76∧T≠135∧T≠128) (hM:MutT T=true) (ho:OpsOwn w' B p.oA p.oc L') (hl:L'.length=p.L.length)
 (hp:p'={ p with L:=L' }):PAt w' B a p'∧OnB B w w':=by
 subst hp
 have hS':∀ g,S g→∃ cs,Blk w g T cs:=fun g hg=>(hS g hg).2
 refine ⟨⟨?_,h.base,ho,aI h.uses k hS' hT.2.1,h.lb.only k (fun e=>?_),h.lbB,aI h.ws k hS' hT.2.2⟩,OnB.of k (fun g hg=>(hS g hg).1) hS' hM⟩
 ·have:=Blk.only h.blk k (fun hs=>by obtain ⟨cs,hc⟩:=hS' a hs;exact Blk.ne_ hc h.blk hT.1 rfl)
  unfold PBlk Pp.fr at *
  simp only [hl]
  exact this
 ·obtain ⟨cs,hc⟩:=hS' _ e;exact h.lb.ne hc rfl
theorem PAt.label {x:List UInt8 × Int} (h:PAt w B a p) (k:Only (· = p.mb) w w') (hl:LbAt w' p.mb (p.labels.length + 1) (x :: p.labels)) (hp:p'={ p with labels:=x :: p.labels }):PAt w' B a p'∧OnB B w w':=by
 subst hp
 have hf:∀ {base size n:Nat} {e:TypeId} {v:Value} {xs:List Value},w.ownsRow base e size v n xs→w'.ownsRow base e size v n xs:=fun ho=>dR ho k (fun g hg=>h.lb.own_ne ho g hg)
 refine ⟨⟨Blk.only h.blk k (fun e=>h.lb.ne h.blk e),h.base,⟨hf h.ops.row,fun v hv=>hf (h.ops.arms v hv),h.ops.apart⟩,hf h.uses,hl,h.lbB,hf h.ws⟩,⟨k.mono fun g _ hg=>by have:=h.lbB;have hg':g=p.mb:=hg;show B≤g;omega,fun g T cs hb _=>Blk.only hb k (fun e=>h.lb.ne hb e)⟩⟩
end
set_option maxRecDepth 100000
def Pp.pl (p:Pp):PM:=⟨p.name,p.dl,p.jm,p.L.map (·.o),p.labels,p.uses,p.head,p.opn,p.t0,p.t1,p.line,p.ws,p.width,p.st⟩
def Did (w w':World) (B a:Nat) (m:PM):Prop:=(∃ p',PAt w' B a p'∧p'.pl=m)∧OnB B w w'
structure MSz (m:PM) (n:Nat):Prop where
 ops:m.ops.length≤n
 uses:m.uses.length≤n
 labels:m.labels.length≤n
 arms:∀ o ∈ m.ops,o.arms.length≤n
 len:m.ws.length≤1000000000
 at_:∀ x ∈ m.ws,x.at_≤1000000000
 txt:∀ x ∈ m.ws,x.text.length≤1000000000
 lo:0≤m.width
 hi:m.width≤1000000000
 nx:m.st.nx≤1000000
 small:n≤1000000
theorem MSz.fr {p:Pp} {n:Nat} (h:MSz p.pl n):FrOk p.fr:=⟨h.len,h.at_,h.txt,h.lo,h.hi⟩
section
variable {w w':World} {B a:Nat} {p p':Pp}
theorem PAt.st (h:PAt w B a p) (k:Only (· = a) w w') {s:St} (hb:PBlk w' a p.fr s):PAt w' B a { p with st:=s }:=h.front (p':={ p with st:=s }) k hb
theorem PAt.only (h:PAt w B a p) (k:Only (· = a) w w'):OnB B w w':=OnB.of k (fun g hg=>by have:=h.base;have hg':g=a:=hg;omega) (fun g hg=>by have hg':g=a:=hg;subst hg';exact ⟨_,h.blk⟩) (T:=76) rfl
theorem PAt.cell (h:PAt w B a p) (i:Nat) (v:Value) (hb:pvV p'.fr p'.st=(pvV p.fr p.st).setIfInBounds i v) (e1:p'.L=p.L:=by rfl) (e2:p'.oA=p.oA:=by rfl) (e3:p'.oc=p.oc:=by rfl) (e4:p'.labels=p.labels:=by rfl) (e5:p'.mb=p.mb:=by rfl)
 (e6:p'.uses=p.uses:=by rfl) (e7:p'.uA=p.uA:=by rfl) (e8:p'.uc=p.uc:=by rfl) (e9:p'.ws=p.ws:=by rfl) (e10:p'.wA=p.wA:=by rfl) (e11:p'.wc=p.wc:=by rfl):PAt (w.setCell ⟨a,i,none⟩ v) B a p'∧OnB B w (w.setCell ⟨a,i,none⟩ v) :=
 ⟨h.front (p':=p') bP (by unfold PBlk;rw [hb];exact Blk.set_ h.blk i v) e1 e2 e3 e4 e5 e6 e7 e8 e9 e10 e11,h.only bP⟩
theorem PAt.setOp {g i j:Nat} {u:Value} {v:OpV} (h:PAt w B a p) (ho:p.oA=some ⟨g,0,none⟩) (hi:i < p.L.length) (hj:j < 7) (he:encOp v=(encOp (opAt p.L i)).set j u) (hA:v.A=(opAt p.L i).A) (hs:v.o.arms=(opAt p.L i).o.arms) (hc:v.c=(opAt p.L i).c)
 (hp:p'={ p with L:=p.L.set i v }):PAt (w.setCell ⟨g,i * 7 + j,none⟩ u) B a p'∧OnB B w (w.setCell ⟨g,i * 7 + j,none⟩ u):=by
 have hrow:=h.ops
 rw [ho] at hrow
 refine h.turn (S:=(· = g)) (T:=92) bP (fun k hk=>?_) ⟨by decide,by decide,by decide⟩ rfl (L':=p.L.set i v) ?_ (List.length_set) hp
 ·subst hk
  exact ⟨aU hrow.row k rfl,aZ hrow.row rfl⟩
 ·rw [ho]
  exact hrow.setOp hi hj he hA hs hc
theorem PAt.armApp {g i:Nat} {A':Option Addr} {c':Nat} {v:OpV} {x:ArmM} (h:PAt w B a p) (ho:p.oA=some ⟨g,0,none⟩) (hi:i < p.L.length) (hg:w.grownBy w' (blkA (opAt p.L i).A))
 (hw:w'.ownsRow B 94 2 (.slice A' ((opAt p.L i).o.arms.length + 1) c') ((opAt p.L i).o.arms.length + 1) (flat encArm (opAt p.L i).o.arms++encArm x)) (hn:blkA A'=blkA (opAt p.L i).A∨blkA A'=some w.heap.size)
 (hA:v.A=A') (hs:v.o.arms=(opAt p.L i).o.arms++[x]) (hc:v.c=c') (he:encOp v=(encOp (opAt p.L i)).set 4 (.slice A' ((opAt p.L i).o.arms.length + 1) c')) (hp:p'={ p with L:=p.L.set i v }) :
 PAt (w'.setCell ⟨g,i * 7 + 4,none⟩ (.slice A' ((opAt p.L i).o.arms.length + 1) c')) B a p'∧OnB B w (w'.setCell ⟨g,i * 7 + 4,none⟩ (.slice A' ((opAt p.L i).o.arms.length + 1) c')):=by
 have hrow:=h.ops
 rw [ho] at hrow
 have harm:=h.ops.arms _ (cJ hi)
 have hS1:∀ k,blkA (opAt p.L i).A=some k→B≤k∧∃ cs,Blk w k 94 cs:=fun k hk=>by
  have hk':(armsV (opAt p.L i)).ownBlock=some k:=by unfold armsV;rw [aB];exact hk
  exact ⟨aU harm k hk',aZ harm hk'⟩
 have hfin:=hrow.armApp hi hg hw hn hA hs hc he
 subst hp
 have k1:=aG hg
 have hT1:∀ k,blkA (opAt p.L i).A=some k→∃ cs,Blk w k 94 cs:=fun k hk=>(hS1 k hk).2
 have hb1:PBlk w' a p.fr p.st:=Blk.only h.blk k1 (fun hgg=>by obtain ⟨cs,hc⟩:=hT1 a hgg;exact Blk.ne_ hc h.blk (by decide) rfl)
 have hbk:∃ cs,Blk w' g 92 cs:=aZ (aI (T:=94) hrow.row k1 hT1 (by decide)) rfl
 have hT2:∀ k,k=g→∃ cs,Blk w' k 92 cs:=fun k hk=>by subst hk;exact hbk
 have k2:Only (· = g) w' (w'.setCell ⟨g,i * 7 + 4,none⟩ (.slice A' ((opAt p.L i).o.arms.length + 1) c')):=bP
 have hlb1:=h.lb.only k1 (fun hgg=>by obtain ⟨cs,hc⟩:=hT1 _ hgg;exact h.lb.ne hc rfl)
 refine ⟨⟨?_,h.base,by show OpsOwn _ B p.oA p.oc _;rw [ho];exact hfin,aI (T:=92) (aI (T:=94) h.uses k1 hT1 (by decide)) k2 hT2 (by decide),hlb1.only k2 (fun e=>?_),h.lbB,aI (T:=92) (aI (T:=94) h.ws k1 hT1 (by decide)) k2 hT2 (by decide)⟩,?_⟩
 ·have:=Blk.only hb1 k2 (fun e=>by obtain ⟨cs,hc⟩:=hT2 a e;exact Blk.ne_ hc hb1 (by decide) rfl)
  unfold PBlk Pp.fr at *
  simp only [List.length_set]
  exact this
 ·obtain ⟨cs,hc⟩:=hT2 _ e
  exact hlb1.ne hc rfl
 ·exact (OnB.of k1 (fun k hk=>(hS1 k hk).1) hT1 rfl).trans (OnB.of k2 (fun k hk=>by have hk':k=g:=hk;subst hk';exact aU hrow.row k rfl) hT2 rfl)
theorem PAt.armSet {g i k:Nat} {v:OpV} {t:Int} (h:PAt w B a p) (hi:i < p.L.length) (hA:(opAt p.L i).A=some ⟨g,0,none⟩) (hk:k < (opAt p.L i).o.arms.length)
 (hv:v.A=(opAt p.L i).A) (hc:v.c=(opAt p.L i).c) (hs:v.o.arms=(opAt p.L i).o.arms.set k ⟨(fL (opAt p.L i).o.arms k).pat,t⟩) (he:encOp v=encOp (opAt p.L i)) (hp:p'={ p with L:=p.L.set i v }) :
 PAt (w.setCell ⟨g,k * 2 + 1,none⟩ (.int .i64 t)) B a p'∧OnB B w (w.setCell ⟨g,k * 2 + 1,none⟩ (.int .i64 t)):=by
 have harm:=h.ops.arms _ (cJ hi)
 refine h.turn (S:=(· = g)) (T:=94) bP (fun k hk=>?_) ⟨by decide,by decide,by decide⟩ rfl (L':=p.L.set i v) (h.ops.armSet hi hA hk hv hc hs he) (List.length_set) hp
 have hk':k=g:=hk
 subst hk'
 have hob:(armsV (opAt p.L i)).ownBlock=some k:=by unfold armsV;rw [aB,hA];rfl
 exact ⟨aU harm k hob,aZ harm hob⟩
end
end Go.Proofs.YtaioaojfdngfdaaGreatDoor
