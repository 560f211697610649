/- Parts of a chain of lemmas: Str, Life, Law, Open, OpenEv, OpenEv2, Shelf, App, Cut, Few, Sort31, TxtA. Conditions: those of each theorem. -/
import Derived.Test.YtaioaojfdngfdaaGreatDoorPg01
import Derived.Laws.CopyOwn
import Derived.Lib.LazyBuf
import Derived.Lib.SlBytesRow
import Derived.Deep.RegionLaw
import Derived.ProofKit
import Derived.OpenShut
import Derived.SizedLaws
import Derived.Deep.Slices
import Derived.Deep.Fields
import Derived.ChangeSame
import Derived.Shelf.Strconv.Itoa0
import Derived.Shelf.Strconv.Itoa1
import Derived.Shelf.LaysM
import Derived.Shelf.Strconv.Itoa2
import Derived.Shelf.Strconv.Itoa3
import Derived.Shelf.Strconv.Itoa4
import Derived.Shelf.Sort.Plain
import Derived.Ground.Names2Prog
import Derived.Shelf.Slices.CompactI
import Derived.Shelf.Slices.SearchI
import Derived.Shelf.Slices.Turned
import Derived.Shelf.Slices.Cells
import Derived.Shelf.Slices.In.SortNone
import Derived.Maps.AppendAt
import Derived.Deep.AppendLies
import Derived.BigRegion
import Derived.RegionTactic
import Derived.BigQuiet
import Derived.Deep.QuietTactic
import Derived.Deep.RegionHeld3
import Derived.Deep.DeepCutAuto
import Derived.Deep.CutBlock
import Derived.Ground.NamesProg
import Derived.Lib.SortBridge
import Derived.Lib.ItoaNum
import Derived.WalkSmall
set_option linter.unusedVariables false
set_option linter.unusedSimpArgs false
set_option maxHeartbeats 1600000
namespace Go.Proofs.YtaioaojfdngfdaaGreatDoor
open Go.RowKit
theorem rS {a b:ByteArray} (h:a.data.toList=b.data.toList):a=b:=by
 apply ByteArray.ext
 exact Array.toList_inj.1 h
theorem cT (a:ByteArray):a.data.toList.length=a.size:=by rw [Array.length_toList];rfl
theorem mM (s:ByteArray) (a b:Nat):(s.extract a b).data.toList=(s.data.toList.drop a).take (b - a):=Lib.extract_data s a b
theorem gU (s:ByteArray) (a b:Nat) (h:a≤b) (hb:b≤s.size):(s.extract a b).size=b - a:=by
 rw [← cT,mM,List.length_take,List.length_drop,cT];omega
def bys (X:List UInt8):List Value:=X.map fun x=>Value.int .u8 (x.toNat:Int)
theorem rO (X:List UInt8):(bys X).length=X.length:=by simp [bys]
theorem bys_at (X:List UInt8) (i:Nat) (h:i < X.length):(bys X)[i]?=some (.int .u8 (X[i].toNat:Int)):=by simp [bys,h]
section
variable {P:Program}
end
structure Stp where
 tick:Int
 at_:Int
 what:Int
 arm:Int
 n:Int
 status:Int
structure Ev where
 k:Int
 id:Int
 n:Int
 tick:Int
 s:ByteArray
 err:Int
 st:Stp
structure Inp where
 k:Int
 s:ByteArray
 n:Int
 tick:Int
structure LifeM where
 script:Int
 start:Int
 ins:List Inp
 steps:List Stp
 read:ByteArray
 taken:ByteArray
 eof:Bool
 status:Int
end Go.Proofs.YtaioaojfdngfdaaGreatDoor
namespace Go.Proofs.YtaioaojfdngfdaaGreatDoor
open Go.ChangeShapes Go.WideShapes Go.ChangeAt Go.RowKit
theorem Tryz.own:ownKnob Tryz.prog.godebug=none:=by kernel_rfl
theorem Tryz.laidOut:laidOutB Tryz.prog=true:=by kernel_rfl
section
variable {H:Type} {enc:TypeId × Value→H} {P:Program}
theorem kJ (hl:laidOutB P=true) {W W':World} (hb:Only aA W W') {sp:Nat→Bool}:∀ (ts:List TypeId) (vs:List Value) (ds:List (DataW H)) (ps:List MemPlace),
 (∀ t ∈ ts,P.readableRec t=true∧t < P.types.size)→DataW.TrodAll enc P W 0 (fun _=>true) true ts vs ds ps→(∀ x ∈ ps,x.block < W.heap.size)→(∀ x ∈ ps,sp x.block=true) →
 DataW.TrodAll enc P W' 0 sp true ts vs ds ps
 | [],vs,ds,ps,_,h,_,_=>by
  obtain ⟨rfl,rfl,rfl⟩:=trodAll_nil h
  exact trodAll_mk0
 | t :: ts,vs,ds,ps,ht,h,hlt,hsp=>by
  obtain ⟨v,vs',d,ds',p,q,rfl,rfl,rfl,h0,h1⟩:=trodAll_cons h
  have hsame:∀ x ∈ p,W.sameAt W' x:=fun x hx=>by
   have hbx:=hb.block x.block (hlt x (List.mem_append_left _ hx)) (fun hf=>hf)
   cases x with
   | cell b o=>exact World.cell?_of_block (w:=W) hbx
   | map b=>exact hbx
  exact trodAll_cons_mk (WideElems.Trod_stays hl (ht t (by simp)).1 (ht t (by simp)).2 h0 hsame (fun x hx=>hsp x (List.mem_append_left _ hx)))
   (kJ hl hb ts vs' ds' q (fun t' h'=>ht t' (by simp [h'])) h1 (fun x hx=>hlt x (List.mem_append_right _ hx)) (fun x hx=>hsp x (List.mem_append_right _ hx)))
theorem law_post {f:Func} {s:ChangeSpec} {apart fresh handsOn again:Bool} {W W':World} {args:Array Value} {ds:List (DataW H)} {before:List MemPlace} {tb:TypeId}
 (hl:laidOutB P=true) (hts0:(f.params.toList.all fun t=>P.readableRec t && decide (t < P.types.size))=true) (hres:f.resultTypes=#[tb]) (htb:P.underlying tb=some .bool) (hvars:s.vars=[])
 (hW:DataW.Whole enc P f.params.toList s.vars apart W args.toList ds [] before)
 (h1:(s.fn H (ds++[])).results=[.lit (.bool true)]) (h2:(s.fn H (ds++[])).args=ds) (h3:(s.fn H (ds++[])).vars=[]) (hb:Only aA W W') :
 s.post enc P f apart fresh handsOn again W args (.bool true) W':=by
 have hts:∀ t ∈ f.params.toList,P.readableRec t=true∧t < P.types.size:=fun t ht=>by
  have:=List.all_eq_true.1 hts0 t ht
  simpa using this
 have hW':=hW
 obtain ⟨p,q,hA,hV,he,hfz,hnd⟩:=hW
 rw [hvars] at hV
 obtain ⟨_,rfl⟩:=trodVars_none hV
 rw [List.append_nil] at he
 subst he
 have hlt:∀ x ∈ before,x.block < W.heap.size:=fun x hx=>hW'.lt x hx
 have hold:∀ x ∈ before,(fun b=>decide (b < W.heap.size)) x.block=true:=fun x hx=>by simpa using hlt x hx
 have hR:∀ (b:Nat) (sp:Nat→Bool) (hd:Bool),DataW.TrodAll enc P W' b sp hd f.resultTypes.toList ((Value.bool true).resultList f.resultTypes.size) (s.fn H (ds++[])).results []:=by
  intro b sp hd
  rw [h1,hres]
  exact trodAll_mk1 (shut_bool htb _)
 have hAr:∀ sp:Nat→Bool,(∀ x ∈ before,sp x.block=true)→DataW.TrodAll enc P W' 0 sp true f.params.toList args.toList (s.fn H (ds++[])).args before:=by
  intro sp hsp
  rw [h2]
  exact kJ hl hb _ _ _ _ hts hA hlt hsp
 have hVr:∀ sp:Nat→Bool,DataW.TrodVars enc P W' sp s.vars (s.fn H (ds++[])).vars []:=by
  intro sp
  rw [h3,hvars]
  rfl
 have hk:W.keptBut W' (· ∈ before):=by
  refine ⟨hb.os,hb.output,fun i hi=>?_⟩
  rw [hb.block i hi (fun h=>h)]
  split<;>simp_all
 refine ⟨ds,[],before,[],before,[],hW',hR _ _ _,hAr _ hold,hVr _,World.keptBut_mono (fun p hp=>⟨hp,Or.inr (by simpa using hp)⟩) hk,fun _=>?_⟩
 refine ⟨?_,_,_,([]++before)++[],⟨[]++before,[],trodAll_append (hAr _ (fun _ _=>rfl)) (hR _ _ _),hVr _,rfl,?_,?_⟩,?_⟩
 ·exact ok_one hres rfl (okWide_bool_mk htb _)
 ·intro b off hp
  have hin:MemPlace.cell b off ∈ before:=by simpa using hp
  have hbx:=hb.block b (hlt _ hin) (fun hf=>hf)
  rw [World.frozen?_of_block (w:=W) (a:=⟨b,off,none⟩) hbx]
  exact hfz b off (by simpa using hin)
 ·intro ha
  have:=hnd ha
  simpa using this
 ·intro p hp _
  simpa using hp
end
end Go.Proofs.YtaioaojfdngfdaaGreatDoor
namespace Go.Proofs.YtaioaojfdngfdaaGreatDoor
open Go.ChangeShapes Go.WideShapes Go.ChangeAt Go.RowKit Go.Deep
def flat {α:Type} (enc:α→List Value) (l:List α):List Value:=(l.map enc).flatten
theorem kC {α:Type} (enc:α→List Value) (a:α) (l:List α):flat enc (a :: l)=enc a++flat enc l:=rfl
theorem dZ {α:Type} (enc:α→List Value) (a b:List α):flat enc (a++b)=flat enc a++flat enc b:=by simp [flat]
theorem flat_len {α:Type} (enc:α→List Value) (n:Nat) (h:∀ a,(enc a).length=n) (l:List α):(flat enc l).length=l.length * n:=by
 induction l with
 | nil=>simp [flat]
 | cons a l ih=>rw [kC,List.length_append,h,ih,List.length_cons,Nat.add_mul];omega
theorem wB {α:Type} (enc:α→List Value) (n:Nat) (h:∀ a,(enc a).length=n):∀ (l:List α) (k j:Nat) (a:α),l[k]?=some a→j < n→(flat enc l)[k * n + j]?=(enc a)[j]?
 | [],k,j,a,hk,_=>by simp at hk
 | b :: l,0,j,a,hk,hj=>by
  simp at hk
  subst hk
  rw [kC,List.getElem?_append_left (by rw [h];omega)]
  simp
 | b :: l,k + 1,j,a,hk,hj=>by
  have hk':l[k]?=some a:=by simpa using hk
  rw [kC,List.getElem?_append_right (by rw [h,Nat.add_mul];omega),h,← wB enc n h l k j a hk' hj]
  congr 1
  rw [Nat.add_mul];omega
section
variable {H:Type} {enc:TypeId × Value→H} {P:Program} {w:World}
end
end Go.Proofs.YtaioaojfdngfdaaGreatDoor
namespace Go.Proofs.YtaioaojfdngfdaaGreatDoor
open Go.ChangeShapes Go.WideShapes Go.ChangeAt Go.RowKit Go.Deep
theorem cR {α:Type} {enc:α→List Value} {n:Nat} (hn:∀ a,(enc a).length=n) {l:List α} {w:World} {M:Nat→Prop} {A:Option Addr} (hr:Rd w M A (flat enc l)) (k:Nat) (a:α) (hk:l[k]?=some a) (h0:0 < n) :
 ∃ b o,A=some ⟨b,o,none⟩∧¬ M b∧b < w.heap.size∧∀ j,j < n→w.cell? ⟨b,o + k * n + j,none⟩=(enc a)[j]?:=by
 have hkl:k < l.length:=(List.getElem?_eq_some_iff.1 hk).1
 have hfl:=flat_len enc n hn l
 have h1:k * n + n≤l.length * n:=by
  rw [← Nat.succ_mul]
  exact Nat.mul_le_mul_right n hkl
 obtain ⟨b,o,hA,hm,hb,hc⟩:=hr.at_ (j:=k * n) (by omega)
 refine ⟨b,o,hA,hm,hb,fun j hj=>?_⟩
 rw [Nat.add_assoc,hc (k * n + j) (by omega)]
 exact wB enc n hn l k j a hk hj
section
variable {H:Type} {enc:TypeId × Value→H} {P:Program} {w:World}
end
def evD:Ev:=⟨0,0,0,0,⟨#[]⟩,0,⟨0,0,0,0,0,0⟩⟩
def evAt (l:List Ev) (k:Nat):Ev:=l.getD k evD
end Go.Proofs.YtaioaojfdngfdaaGreatDoor
namespace Go.Proofs.YtaioaojfdngfdaaGreatDoor
open Go.ChangeShapes Go.WideShapes Go.ChangeAt Go.RowKit Go.Deep
def I64 (n:Int):Prop:=-9223372036854775808≤n∧n≤9223372036854775807
structure StpOk (x:Stp):Prop where
 tick:I64 x.tick
 at_:I64 x.at_
 what:I64 x.what
 arm:I64 x.arm
 n:I64 x.n
 status:I64 x.status
structure EvOk (x:Ev):Prop where
 k:I64 x.k
 id:I64 x.id
 n:I64 x.n
 tick:I64 x.tick
 err:I64 x.err
 st:StpOk x.st
section
variable {H:Type} {enc:TypeId × Value→H} {P:Program} {w:World}
end
end Go.Proofs.YtaioaojfdngfdaaGreatDoor
namespace Go.Proofs
open Go.Shelf
def Tryz.laysM171_ren:Go.Shelf.Ren:=⟨fun | 171=>54 | 243=>88 | 246=>128 | 283=>155 | 284=>156 | 285=>157 | 286=>158 | 129=>174 | 317=>187 | 318=>188 | 319=>189 | 320=>190 | 337=>216 | 338=>217 | n=>n,fun | 3=>3 | 9=>9 | 2=>2 | 4=>4 | 171=>223 | 0=>0 | 53=>224 | 37=>47 | 5=>5 | 173=>227 | 212=>258 | 51=>239 | 20=>20 | 213=>259 | 46=>213 | 232=>301 | 233=>302 | n=>n,fun | 17=>1 | 18=>5 | 19=>6 | n=>n⟩
theorem Tryz.laysM171:Go.Proofs.LaysM.n171 Tryz.prog Tryz.laysM171_ren:={
 mixed:=by kernel_rfl
 f129:=Tryz.func174.trans (congrArg some (by kernel_rfl))
 f171:=Tryz.func54.trans (congrArg some (by kernel_rfl))
 f243:=Tryz.func88.trans (congrArg some (by kernel_rfl))
 f246:=Tryz.func128.trans (congrArg some (by kernel_rfl))
 f283:=Tryz.func155.trans (congrArg some (by kernel_rfl))
 f284:=Tryz.func156.trans (congrArg some (by kernel_rfl))
 f285:=Tryz.func157.trans (congrArg some (by kernel_rfl))
 f286:=Tryz.func158.trans (congrArg some (by kernel_rfl))
 f317:=Tryz.func187.trans (congrArg some (by kernel_rfl))
 f318:=Tryz.func188.trans (congrArg some (by kernel_rfl))
 f319:=Tryz.func189.trans (congrArg some (by kernel_rfl))
 f320:=Tryz.func190.trans (congrArg some (by kernel_rfl))
 f337:=Tryz.func216.trans (congrArg some (by kernel_rfl))
 f338:=Tryz.func217.trans (congrArg some (by kernel_rfl))
 t0:=Tryz.underlying0
 a0:=Tryz.isAgg0
 z0:=Tryz.sizeOf0
 v0:=Tryz.zeroValue0
 t2:=Tryz.underlying2
 a2:=Tryz.isAgg2
 z2:=Tryz.sizeOf2
 v2:=Tryz.zeroValue2
 t3:=Tryz.underlying3
 a3:=Tryz.isAgg3
 z3:=Tryz.sizeOf3
 v3:=Tryz.zeroValue3
 t4:=Tryz.underlying4
 a4:=Tryz.isAgg4
 z4:=Tryz.sizeOf4
 v4:=Tryz.zeroValue4
 t5:=Tryz.underlying5
 a5:=Tryz.isAgg5
 z5:=Tryz.sizeOf5
 v5:=Tryz.zeroValue5
 t9:=Tryz.underlying9
 a9:=Tryz.isAgg9
 z9:=Tryz.sizeOf9
 v9:=Tryz.zeroValue9
 t20:=Tryz.underlying20
 a20:=Tryz.isAgg20
 z20:=Tryz.sizeOf20
 v20:=Tryz.zeroValue20
 t37:=Tryz.underlying47
 a37:=Tryz.isAgg47
 z37:=Tryz.sizeOf47
 v37:=Tryz.zeroValue47
 t46:=Tryz.underlying213
 a46:=Tryz.isAgg213
 z46:=Tryz.sizeOf213
 v46:=Tryz.zeroValue213
 t51:=Tryz.underlying239
 a51:=Tryz.isAgg239
 z51:=Tryz.sizeOf239
 v51:=Tryz.zeroValue239
 t53:=Tryz.underlying224
 a53:=Tryz.isAgg224
 z53:=Tryz.sizeOf224
 v53:=Tryz.zeroValue224
 t171:=Tryz.underlying223
 a171:=Tryz.isAgg223
 z171:=Tryz.sizeOf223
 v171:=Tryz.zeroValue223
 t173:=Tryz.underlying227
 a173:=Tryz.isAgg227
 z173:=Tryz.sizeOf227
 v173:=Tryz.zeroValue227
 t212:=Tryz.underlying258
 a212:=Tryz.isAgg258
 z212:=Tryz.sizeOf258
 v212:=Tryz.zeroValue258
 t213:=Tryz.underlying259
 a213:=Tryz.isAgg259
 z213:=Tryz.sizeOf259
 t232:=Tryz.underlying301
 a232:=Tryz.isAgg301
 z232:=Tryz.sizeOf301
 v232:=Tryz.zeroValue301
 t233:=Tryz.underlying302
 a233:=Tryz.isAgg302
 z233:=Tryz.sizeOf302
 v233:=Tryz.zeroValue302
 g17:=by kernel_rfl
 g18:=by kernel_rfl
 g19:=by kernel_rfl
 i0:=by kernel_rfl
 i2:=by kernel_rfl
 i3:=by kernel_rfl
 i4:=by kernel_rfl
 i5:=by kernel_rfl
 i9:=by kernel_rfl
 i20:=by kernel_rfl
 i37:=by kernel_rfl
 i46:=by kernel_rfl
 i51:=by kernel_rfl
 i53:=by kernel_rfl
 i171:=by kernel_rfl
 i173:=by kernel_rfl
 i212:=by kernel_rfl
 i232:=by kernel_rfl
 i233:=by kernel_rfl
 m17:=by kernel_rfl
 m18:=by kernel_rfl
 m19:=by kernel_rfl }
open Go.RowKit Go.Sort Go.Lib in
theorem Tryz.strconv_Itoa (n:Int) (h0 : -9223372036854775808≤n) (h1:n≤9223372036854775807) (w:World) (htab:Lib.TabIs Tryz.prog w "internal/strconv.uint64pow10" .u64 Lib.pow10Tab) :
 Calls Tryz.prog 54 #[.int .i64 n] w fun e w'=>e=.returned (.string ⟨(Lib.itoa n).toArray⟩)∧∃ k os,w'=grow (w.drewN k) os:=Any.strconv_Itoa Tryz.laysM171 n h0 h1 w htab
end Go.Proofs
namespace Go.Proofs.YtaioaojfdngfdaaGreatDoor
open Go.RowKit
section
variable {P:Program} (w:World)
theorem lH (base:Nat) (t ty e:TypeId) (i:TypeInfo) (size:Nat) (ht:P.underlying t=some (.slice e)) (hi:P.info? e=some i)
 (v:Value) (n:Nat) (xs:List Value) (hown:w.ownsRow base e size v n xs) (c:Nat):(Builtin.append_ #[t,t] ty #[v,.slice none 0 c]).run P w=.ok v w:=by
 rcases hown.2 with ⟨rfl,rfl⟩ | ⟨g,cap,cur,rfl,_,_,hnc,_⟩
 ·simp [Builtin.append_,run_underlying ht,sizeOf,typeInfo,hi,Builtin.lenOf,Builtin.firstCells]
 ·simp [Builtin.append_,run_underlying ht,sizeOf,typeInfo,hi,Builtin.lenOf,Builtin.firstCells,hnc,storeCells]
theorem o8 (base:Nat) (t ty e:TypeId) (i:TypeInfo) (z:Value) (size bytes:Nat) (ht:P.underlying t=some (.slice e)) (hi:P.info? e=some i) (hz:i.zero=some z)
 (hsize:i.size=size) (hby:i.bytes=bytes) (hzs:z.cells.size=size) (hsz:0 < size)
 (v:Value) (n:Nat) (xs:List Value) (hown:w.ownsRow base e size v n xs)
 (M:Nat→Prop) (A:Option Addr) (m c:Nat) (news:List Value) (hr:Rd w M A news) (hl:news.length=m * size) (h1:∀ u ∈ news,u.oneCell'=true)
 (h63:n + m≤maxLen) (hbytes:(n + m) * bytes≤140737488355328) (hbase:base≤w.heap.size) :
 ∃ v' w',(Builtin.append_ #[t,t] ty #[v,.slice A m c]).run P w=.ok v' w'∧w'.ownsRow base e size v' (n + m) (xs++news)∧w.grownBy w' v.ownBlock ∧
  (v'.ownBlock=v.ownBlock∨v'.ownBlock=some w.heap.size):=by
 rcases hr with hn | ⟨b,o,hA,_,_,hc⟩
 ·subst hn
  have hm:m=0:=by
   rcases Nat.eq_zero_or_pos m with h0 | h0
   ·exact h0
   ·have:=Nat.mul_pos h0 hsz
    simp at hl;omega
  subst hm
  cases A with
  | none=>exact ⟨v,w,lH w base t ty e i size ht hi v n xs hown c,by simpa using hown,World.grownBy.refl w _,.inl rfl⟩
  | some ad =>
   obtain ⟨v',w',hrun,h2,h3,_,h5⟩:=run_append_own_at (P:=P) w base t ty e i z size bytes ht hi hz hsize hby hzs hsz v n xs hown ad 0 c [] (by simp) (by simp) (by simp) h63 hbytes hbase
   exact ⟨v',w',hrun,h2,h3,h5⟩
 ·subst hA
  have hcells:∀ j u,news[j]?=some u→w.cell? ((⟨b,o,none⟩:Addr).add j)=some u:=by
   intro j u hu
   rw [Addr.add_lit,← hu]
   exact hc j (List.getElem?_eq_some_iff.1 hu).1
  obtain ⟨v',w',hrun,h2,h3,_,h5⟩:=run_append_own_at (P:=P) w base t ty e i z size bytes ht hi hz hsize hby hzs hsz v n xs hown ⟨b,o,none⟩ m c news hl hcells h1 h63 hbytes hbase
  exact ⟨v',w',hrun,h2,h3,h5⟩
theorem kZ {o:Oper} {a:Act} {K:Act→World→Prop} {Q:Exit→Act→World→Prop} (s x:Operand) (t:TypeId)
 (ho:o.op=.call { callee:=.builtin .append,args:=#[s,x],argTypes:=#[t,t] })
 (base:Nat) (e:TypeId) (i:TypeInfo) (z:Value) (size bytes:Nat) (ht:P.underlying t=some (.slice e)) (hi:P.info? e=some i) (hz:i.zero=some z)
 (hsize:i.size=size) (hby:i.bytes=bytes) (hzs:z.cells.size=size) (hsz:0 < size)
 (v:Value) (n:Nat) (xs:List Value) (hs:a.eval s=v) (hown:w.ownsRow base e size v n xs)
 (M:Nat→Prop) (A:Option Addr) (m c:Nat) (news:List Value) (hx:a.eval x=.slice A m c) (hr:Rd w M A news) (hl:news.length=m * size) (h1:∀ u ∈ news,u.oneCell'=true)
 (h63:n + m≤maxLen) (hbytes:(n + m) * bytes≤140737488355328) (hbase:base≤w.heap.size)
 (h:∀ v' w',w'.ownsRow base e size v' (n + m) (xs++news)→w.grownBy w' v.ownBlock→(v'.ownBlock=v.ownBlock∨v'.ownBlock=some w.heap.size)→K (a.put o.dst v') w'):o.wp P a w K Q:=by
 obtain ⟨v',w',hrun,h2,h3,h4⟩:=o8 (P:=P) w base t o.type e i z size bytes ht hi hz hsize hby hzs hsz v n xs hown M A m c news hr hl h1 h63 hbytes hbase
 unfold Oper.wp execOp
 simp only [ho,resolve,invoke,builtin,Sem.run_bind,Sem.run_pure,Result.andThen_ok,List.map_toArray,List.map_cons,List.map_nil,hs,hx,hrun]
 exact h v' w' h2 h3 h4
theorem aD {ops:Array Oper} {rest:List Oper} {o:Oper} {a:Act} {Q:Exit→Act→World→Prop} (hgd:o.guard=none) (s x:Operand) (t:TypeId)
 (ho:o.op=.call { callee:=.builtin .append,args:=#[s,x],argTypes:=#[t,t] })
 (base:Nat) (e:TypeId) (i:TypeInfo) (z:Value) (size bytes:Nat) (ht:P.underlying t=some (.slice e)) (hi:P.info? e=some i) (hz:i.zero=some z)
 (hsize:i.size=size) (hby:i.bytes=bytes) (hzs:z.cells.size=size) (hsz:0 < size)
 (v:Value) (n:Nat) (xs:List Value) (hs:a.eval s=v) (hown:w.ownsRow base e size v n xs)
 (M:Nat→Prop) (A:Option Addr) (m c:Nat) (news:List Value) (hx:a.eval x=.slice A m c) (hr:Rd w M A news) (hl:news.length=m * size) (h1:∀ u ∈ news,u.oneCell'=true)
 (h63:n + m≤maxLen) (hbytes:(n + m) * bytes≤140737488355328) (hbase:base≤w.heap.size)
 (h:∀ v' w',w'.ownsRow base e size v' (n + m) (xs++news)→w.grownBy w' v.ownBlock→(v'.ownBlock=v.ownBlock∨v'.ownBlock=some w.heap.size)→wpList P ops Q rest (a.put o.dst v') w'):wpList P ops Q (o :: rest) a w :=
 wpList_plain hgd fun _ hK=>kZ w s x t ho base e i z size bytes ht hi hz hsize hby hzs hsz v n xs hs hown M A m c news hx hr hl h1 h63 hbytes hbase fun v' w' h2 h3 h4=>hK _ _ (h v' w' h2 h3 h4)
theorem aT {ops:Array Oper} {o:Oper} {a:Act} {K:Act→World→Prop} {Q:Exit→Act→World→Prop} {E:Prop} (hgd:o.guard=none) (s x:Operand) (t:TypeId)
 (ho:o.op=.call { callee:=.builtin .append,args:=#[s,x],argTypes:=#[t,t] })
 (base:Nat) (e:TypeId) (i:TypeInfo) (z:Value) (size bytes:Nat) (ht:P.underlying t=some (.slice e)) (hi:P.info? e=some i) (hz:i.zero=some z)
 (hsize:i.size=size) (hby:i.bytes=bytes) (hzs:z.cells.size=size) (hsz:0 < size)
 (v:Value) (n:Nat) (xs:List Value) (hs:a.eval s=v) (hown:w.ownsRow base e size v n xs)
 (M:Nat→Prop) (A:Option Addr) (m c:Nat) (news:List Value) (hx:a.eval x=.slice A m c) (hr:Rd w M A news) (hl:news.length=m * size) (h1:∀ u ∈ news,u.oneCell'=true)
 (h63:n + m≤maxLen) (hbytes:(n + m) * bytes≤140737488355328) (hbase:base≤w.heap.size)
 (h:∀ v' w',w'.ownsRow base e size v' (n + m) (xs++news)→w.grownBy w' v.ownBlock→(v'.ownBlock=v.ownBlock∨v'.ownBlock=some w.heap.size)→K (a.put o.dst v') w') :
 if Region.wanted o (yielded ops a.tmps)=true then Oper.wp P o a w K Q else E:=by
 have hw:Region.wanted o (yielded ops a.tmps)=true:=by simp [Region.wanted,hgd]
 rw [if_pos hw]
 exact kZ w s x t ho base e i z size bytes ht hi hz hsize hby hzs hsz v n xs hs hown M A m c news hx hr hl h1 h63 hbytes hbase h
end
theorem eY {w:World} {base:Nat} {e:TypeId} {size:Nat} (h:base≤w.heap.size):(w.alloc (.cells #[] e)).ownsRow base e size (.slice (some ⟨w.heap.size,0,none⟩) 0 0) 0 [] :=
 ⟨by simp,Or.inr ⟨w.heap.size,0,#[],rfl,h,heap_alloc_new _ _,Nat.le_refl _,by unfold maxLen;omega,by simp,by simp⟩⟩
theorem uQ {w:World} {base g:Nat} {e:TypeId} {size:Nat} (h:base≤w.heap.size) (hg:g=w.heap.size):(w.alloc (.cells #[] e)).ownsRow base e size (.slice (some ⟨g,0,none⟩) 0 0) 0 []:=by
 subst hg;exact eY h
theorem Rd.alloc {w:World} {M:Nat→Prop} {A:Option Addr} {xs:List Value} (h:Rd w M A xs) (o:Obj):Rd (w.alloc o) M A xs:=h.only ((Only.refl aA _).alloc o) (fun _ h=>h.elim)
theorem aY {w:World} {M:Nat→Prop} {g:Nat} {t:TypeId} {xs:List Value} (h:Blk w g t xs.toArray) (hm:¬ M g):Rd w M (some ⟨g,0,none⟩) xs :=
 Or.inr ⟨g,0,rfl,hm,h.lt,fun j hj=>by
  rw [h.cell,List.getElem?_toArray,Nat.zero_add]⟩
theorem aW {w:World} {base size n:Nat} {e:TypeId} {v:Value} {xs:List Value} (h:w.ownsRow base e size v n xs):∃ A c,v=.slice A n c∧n≤c:=by
 rcases h.2 with ⟨hv,hn⟩ | ⟨g,cap,cur,hv,_,_,hnc,_⟩
 ·exact ⟨none,0,by rw [hv,hn],by omega⟩
 ·exact ⟨_,cap,hv,hnc⟩
theorem below_drewN (w:World) (n:Nat):Below w.heap.size w (w.drewN n):=⟨rfl,rfl,rfl,Nat.le_refl _,fun _ _=>rfl⟩
theorem aK (w:World) (o:Obj):Below w.heap.size w (w.alloc o):=(Below.refl _ _).alloc (Nat.le_refl _) _
section
variable {w:World} {M:Nat→Prop} {A:Option Addr} {l:List Ev}
end
theorem fN {B:Nat} {w0 w1:World} {b o:Nat} {v:Value} (h:Below B w0 w1) (hb:b < B) (hc:w0.cell? ⟨b,o,none⟩=some v):w1.cell? ⟨b,o,none⟩=some v :=
 (h.cell (p:=⟨b,o,none⟩) hb).trans hc
end Go.Proofs.YtaioaojfdngfdaaGreatDoor
namespace Go.Proofs.YtaioaojfdngfdaaGreatDoor
open Go.RowKit Go.Shelf Go.Sort
theorem below_grow {B:Nat} {w0 w:World} (h:Below B w0 w) (hB:B≤w.heap.size) (os:Array Obj):Below B w0 (grow w os):=by
 refine ⟨h.os,h.tape,h.output,?_,fun i hi=>?_⟩
 ·have:=h.size;simp [grow];omega
 ·rw [heap_grow_old w os (by omega)];exact h.block i hi
end Go.Proofs.YtaioaojfdngfdaaGreatDoor
namespace Go.Proofs.YtaioaojfdngfdaaGreatDoor
open Go.RowKit
abbrev bs (l:List UInt8):ByteArray:=⟨l.toArray⟩
theorem iI (a b:List UInt8):bs a++bs b=bs (a++b):=by
 apply ByteArray.ext
 simp [ByteArray.data_append]
theorem bJ (a:List UInt8):(bs a).size=a.length:=by simp [ByteArray.size]
def tK (d:Nat):UInt8:=UInt8.ofNat (48 + d)
theorem yS:∀ d:Fin 10,((⟨#[48,49,50,51,52,53,54,55,56,57]⟩:ByteArray).extract d.val (d.val + 1))=bs [tK d.val]:=by decide
theorem tJ {d:Nat} (h:d < 10):((⟨#[48,49,50,51,52,53,54,55,56,57]⟩:ByteArray).extract d (d + 1))=bs [tK d]:=yS ⟨d,h⟩
theorem oS:∀ (k u:Nat),u < 10 ^ (k + 1)→(Lib.decDigits u).length≤k + 1
 | 0,u,h=>by rw [Lib.decDigits_one (by simpa using h)];simp
 | k + 1,u,h=>by
  by_cases h9:u < 10
  ·rw [Lib.decDigits_one h9];simp
  ·rw [Lib.decDigits,dif_neg h9,List.length_append]
   have:=oS k (u / 10) (by rw [Nat.pow_succ] at h;omega)
   simp;omega
theorem dec_len {u:Nat} (h:u≤18446744073709551616):(Lib.decDigits u).length≤20:=oS 19 u (by omega)
theorem dec_big {u:Nat} (h:¬ u < 10):Lib.decDigits u=Lib.decDigits (u / 10)++[tK (u % 10)]:=by rw [Lib.decDigits,dif_neg h];rfl
set_option maxRecDepth 100000 in
theorem Digits_c (N:Nat) (w:World) (hN:N≤9223372036854775807):Calls Tryz.prog 56 #[.int .i64 N] w fun e w'=>e=.returned (.string (bs (Lib.decDigits N)))∧w'=w:=by
 have hlen:=dec_len (u:=N) (by omega)
 have Hlen:=hide hlen
 clear hlen
 go_enter Tryz.func56,Tryz.ntmps56
 go_wp2_with fail
 go_loopw [0,3] (fun n v wr=>∃ (m:Nat) (s:List UInt8),n=.int .i64 m∧v=.string (bs s)∧m≤N∧Hid (Lib.decDigits N=Lib.decDigits m++s)∧wr=w) (fun n _ _=>(intOf n).toNat)
 case atStart=>exact ⟨N,[],rfl,rfl,Nat.le_refl _,hide (by simp),rfl⟩
 case round =>
  obtain ⟨m,s,rfl,rfl,hm,hd,rfl⟩:=hrel
  have hsl:s.length≤20:=by
   have h1:=Hlen.out
   rw [hd.out,List.length_append] at h1
   omega
  by_cases h9:9 < m
  ·have d1:decide ((9:Int) < (m:Int))=true:=by simp;omega
   have d2:decide (9 < m)=true:=by simp;omega
   have t1:Int.tmod (m:Int) 10=((m % 10:Nat):Int):=by rw [Int.tmod_eq_emod_of_nonneg (by omega)];omega
   have t2:Int.tdiv (m:Int) 10=((m / 10:Nat):Int):=by rw [Int.tdiv_eq_ediv_of_nonneg (by omega)];omega
   have HN:=hide (show Lib.decDigits N=Lib.decDigits (m / 10)++([tK (m % 10)]++s) by rw [hd.out,dec_big (by omega),List.append_assoc])
   obtain ⟨d,hdd⟩:∃ d,d=m % 10:=⟨_,rfl⟩
   obtain ⟨q,hq⟩:∃ q,q=m / 10:=⟨_,rfl⟩
   have hd10:d < 10:=by omega
   have hqm:q < m:=by omega
   rw [← hdd] at t1 HN
   rw [← hq] at t2 HN
   clear hdd hq hd
   have hx:=tJ hd10
   have w1:IntKind.i64.wrap ((d:Int) + 1)=(d:Int) + 1:=IntWalk.i64_in _ (by omega)
   have w2:((d:Int) + 1).toNat=d + 1:=by omega
   have w3:IntKind.i64.wrap (d:Int)=(d:Int):=IntWalk.i64_in _ (by omega)
   have w4:IntKind.i64.wrap (q:Int)=(q:Int):=IntWalk.i64_in _ (by omega)
   have w5:IntKind.i64.wrap (m:Int)=(m:Int):=IntWalk.i64_in _ (by omega)
   have hsz:(bs [tK d]).size + (bs s).size≤9223372036854775807:=by rw [bJ,bJ];simp;omega
   go_wp2_with fail
   go_roundw
   case rel=>exact ⟨q,[tK d]++s,by go_num,by rw [iI],by omega,HN,by first | trivial | rfl⟩
   case measure=>simp [intOf];omega
  ·have d1:decide ((9:Int) < (m:Int))=false:=by simp;omega
   have d2:decide (9 < m)=false:=by simp;omega
   have HN:=hide (show bs [tK m]++bs s=bs (Lib.decDigits N) by rw [iI,hd.out,Lib.decDigits_one (by omega)];rfl)
   have hx:=tJ (d:=m) (by omega)
   have w1:IntKind.i64.wrap ((m:Int) + 1)=(m:Int) + 1:=IntWalk.i64_in _ (by omega)
   have w2:((m:Int) + 1).toNat=m + 1:=by omega
   have hsz:(bs [tK m]).size + (bs s).size≤9223372036854775807:=by rw [bJ,bJ];simp;omega
   clear hd
   go_wp2_with fail
   go_ret
   exact ⟨by rw [← HN.out];rfl,rfl⟩
end Go.Proofs.YtaioaojfdngfdaaGreatDoor
namespace Go.Proofs.YtaioaojfdngfdaaGreatDoor
open Go.RowKit
end Go.Proofs.YtaioaojfdngfdaaGreatDoor
namespace Go.Proofs.YtaioaojfdngfdaaGreatDoor
open Go.RowKit
end Go.Proofs.YtaioaojfdngfdaaGreatDoor
namespace Go.Proofs.YtaioaojfdngfdaaGreatDoor
open Go.RowKit Go.Sort
def Tab (w:World):Prop:=Lib.TabIs Tryz.prog w "internal/strconv.uint64pow10" .u64 Lib.pow10Tab
theorem Tab.below {w w':World} (h:Tab w) (hb:Below w.heap.size w w'):Tab w':=by
 unfold Tab Lib.TabIs World.var? at *
 cases hg : Tryz.prog.globalNamed "internal/strconv.uint64pow10" with
 | none=>rw [hg] at h;simp at h
 | some g =>
  rw [hg] at h
  simp only [Option.bind_some] at h ⊢
  have hlt:g < w.heap.size:=by
   rcases Nat.lt_or_ge g w.heap.size with hl | hl
   ·exact hl
   ·rw [Array.getElem?_eq_none hl] at h;cases h
  rw [hb.block g hlt]
  exact h
theorem yT (w:World) (k:Nat) (os:Array Obj):Below w.heap.size w (grow (w.drewN k) os):=below_grow (below_drewN w k) (Nat.le_refl _) os
theorem Itoa_c (n:Int) (w:World) (h0 : -9223372036854775808≤n) (h1:n≤9223372036854775807) (ht:Tab w):Calls Tryz.prog 54 #[.int .i64 n] w fun e w'=>e=.returned (.string (bs (Lib.itoa n)))∧Below w.heap.size w w':=by
 refine (Tryz.strconv_Itoa n h0 h1 w ht).mono ?_
 rintro e w1 ⟨rfl,k,os,rfl⟩
 exact ⟨rfl,yT _ _ _⟩
theorem itoa_nn {n:Int} (h:0≤n):Lib.itoa n=Lib.decDigits n.toNat:=by unfold Lib.itoa;rw [if_neg (by omega)]
abbrev stV:Array Value:=#[.string ⟨#[114,117,110]⟩,.string ⟨#[100,111,110,101]⟩,.string ⟨#[102,97,105,108,101,100]⟩,.string ⟨#[100,101,97,100,108,105,110,101]⟩,.string ⟨#[111,118,101,114,102,108,111,119]⟩,.string ⟨#[100,114,97,105,110,101,100]⟩]
end Go.Proofs.YtaioaojfdngfdaaGreatDoor
