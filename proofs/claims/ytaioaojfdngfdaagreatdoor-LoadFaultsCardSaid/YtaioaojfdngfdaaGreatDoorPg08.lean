/- Parts of a chain of lemmas: ParW, ParX. Conditions: those of each theorem. -/
import Derived.Test.YtaioaojfdngfdaaGreatDoorPg07
set_option linter.unusedVariables false
set_option linter.unusedSimpArgs false
namespace Go.Proofs.YtaioaojfdngfdaaGreatDoor
set_option linter.unusedSectionVars false
def opI (ops:List OpM) (u:UseM):OpM:=ops.getD u.op.toNat op0
def UseOk (ops:List OpM) (u:UseM):Prop:=0≤u.op∧u.op < ops.length∧((u.how = -1∧(opI ops u).kind=3)∨((opI ops u).kind=2∧(u.how = -2∨u.how = -3∨(0≤u.how∧u.how < (opI ops u).arms.length))))
structure WF (d:DM):Prop where
 name:d.head=true→nameB d.name=true
 dl:d.head=true→(nevB d.dl || tickB 1 d.dl)=true
 jm:d.head=true→0≤d.jm∧d.jm≤1000
 len:d.ops.length≤200
 ops:∀ o ∈ d.ops,∀ k,opE k o=0
 lb:∀ p ∈ d.labels,0≤p.2∧p.2≤d.ops.length
 use:∀ u ∈ d.uses,UseOk d.ops u
 opn:d.opn=true→d.ops≠[]∧(lastD d).kind=2
theorem wf0:WF d0:=⟨fun h=>absurd h (by decide),fun h=>absurd h (by decide),fun h=>absurd h (by decide),by decide,fun o h=>(by cases h),fun o h=>(by cases h),fun o h=>(by cases h),fun h=>absurd h (by decide)⟩
theorem nZ {t:List UInt8} {most:Int} (h:(bK t most).2=0) (hm:most≠9223372036854775807):(bK t most).1≤most:=by
 unfold bK at h ⊢
 split
 ·rename_i hh;rw [if_pos hh] at h;cases h
 ·rename_i hh
  rw [if_neg hh] at h
  rcases Int.lt_or_le most (cZ t).1 with h1 | h1
  ·exact absurd ⟨h,hm,h1⟩ hh
  ·exact h1
theorem gI {d:DM} {l:List WordM} {width:Nat} {c:UInt8} {r:List UInt8} {i:Nat} (h:(cB d l width (c :: r) i).2=0):¬ l.length≤i + 1∧aO c (aC l (i + 1))=0∧((aC l 0).text=bG→findD (aC l 1).text d.labels < 0)∧(cB d l width r (i + 1)).2=0:=by
 unfold cB at h
 split at h
 ·cases h
 rename_i h1
 split at h
 ·rename_i h2;exact absurd h h2
 rename_i h2
 split at h
 ·cases h
 rename_i h3
 exact ⟨h1,by omega,fun e=>by
  rcases Int.lt_or_le (findD (aC l 1).text d.labels) 0 with h4 | h4
  ·exact h4
  ·exact absurd ⟨e,h4⟩ h3,h⟩
theorem tU {c:UInt8} {w:WordM} (hc:c=110∨c=108) (h:aO c w=0):eE w.text=true:=by
 unfold aO at h
 split at h
 ·cases h
 split at h
 ·cases h
 rename_i h2
 cases hn:eE w.text with
 | true=>rfl
 | false=>exact absurd ⟨hc,hn⟩ h2
theorem jR {c:UInt8} {w:WordM} (hc:c=100∨c=101∨c=116∨c=106) (h:aO c w=0):(aF c w.text).2=0:=by
 unfold aO at h
 split at h
 ·cases h
 rcases hc with rfl | rfl | rfl | rfl<;>simpa using h
theorem m7 {w:WordM} (h:aO 113 w=0):w.text.length≠0∧w.text.length≤256:=by
 unfold aO at h
 split at h
 ·cases h
 rw [if_neg (fun h=>by rcases h.1 with h | h<;>exact absurd h (by decide))] at h
 split at h
 ·cases h
 rename_i h2
 split at h
 ·cases h
 rename_i h3
 exact ⟨fun e=>h2 ⟨rfl,e⟩,by
  rcases Nat.lt_or_ge 256 w.text.length with h4 | h4
  ·exact absurd (Or.inl ⟨rfl,h4⟩) h3
  ·exact h4⟩
theorem pO {w:WordM} (h:aO 112 w=0):w.text.length≤64∧(bV w.text).2=0:=by
 unfold aO at h
 split at h
 ·cases h
 rw [if_neg (fun h=>by rcases h.1 with h | h<;>exact absurd h (by decide)),if_neg (fun h=>absurd h.1 (by decide))] at h
 split at h
 ·cases h
 rename_i h3
 rw [if_pos rfl] at h
 exact ⟨by
  rcases Nat.lt_or_ge 64 w.text.length with h4 | h4
  ·exact absurd (Or.inr ⟨rfl,h4⟩) h3
  ·exact h4,h⟩
theorem kQ {c:UInt8} {t:List UInt8} (h:(aF c t).2=0) (hc:c≠106):(nevB (aF c t).1=true∧(c=100∨c=101))∨(0≤(aF c t).1∧(aF c t).1≤1000000000000∧(c=100→(aF c t).1≠0)):=by
 unfold aF at h ⊢
 rw [if_neg hc] at h ⊢
 split
 ·rename_i h1;exact Or.inl ⟨rfl,h1.2⟩
 rename_i h1
 rw [if_neg h1] at h
 split
 ·rename_i h2;rw [if_pos h2] at h;cases h
 rename_i h2
 rw [if_neg h2] at h
 exact Or.inr ⟨iN _ _,nZ h (by decide),fun e e2=>h2 ⟨h,e,e2⟩⟩
theorem uT {t:List UInt8} (h:(aF 106 t).2=0):0≤(aF 106 t).1∧(aF 106 t).1≤1000:=by
 unfold aF at h ⊢
 rw [if_neg (fun h=>by rcases h.2 with h | h<;>exact absurd h (by decide)),if_neg (fun h=>absurd h.2.1 (by decide)),if_pos rfl] at h ⊢
 exact ⟨iN _ _,nZ h (by decide)⟩
theorem nG {n:Int} {least:Int} (h0:least≤n) (h1:n≤1000000000000):tickB least n=true:=by unfold tickB;simp [h0,h1]
theorem op_send (t:List UInt8) (h:t.length≠0) (h2:t.length≤256) (k:Nat):opE k { bA 1 with text:=bs t }=0:=by
 have hs:(bs t).size=t.length:=bJ t
 unfold opE jP bA
 generalize bs t=b at *
 simp [hs]
 rw [if_neg (by simpa using h),if_neg (by omega)]
theorem xW (n:Int) (h:nevB n=true∨(0≤n∧n≤1000000000000)) (k:Nat):opE k { cE with n:=n }=0:=by
 have h2:(nevB n || tickB 0 n)=true:=by
  rcases h with h | h
  ·rw [h];rfl
  ·rw [nG h.1 h.2,Bool.or_true]
 unfold opE jP cE bA m5 toB
 simp only [h2]
 simp [fB]
 rfl
theorem op_pause (n:Int) (h:0≤n) (h2:n≤1000000000000) (k:Nat):opE k { bA 4 with n:=n }=0:=by
 unfold opE jP bA
 simp [nG h h2]
 rfl
theorem op_goto (k:Nat):opE k (bA 3)=0:=by
 unfold opE jP bA kX
 simp
 rfl
theorem op_done (k:Nat):opE k (bA 5)=0:=by
 unfold opE jP bA
 simp
 rfl
theorem op_fail (k:Nat):opE k (bA 6)=0:=by
 unfold opE jP bA
 simp
 rfl
theorem fC {k:Nat} {o:OpM} (hk:o.kind=2):opE k o=0↔o.text.size=0∧o.to=0∧(nevB o.n || tickB 0 o.n)=true∧o.arms.length≤8∧fB (o.arms.map (pM k))=0∧(toB k o.onT && toB k o.onE)=true:=by
 unfold opE jP m5
 rw [hk,if_neg (by decide),if_neg (show ¬ (2:Int)=1 by decide),if_pos rfl]
 simp only [decide_eq_true_eq,show ((2:Int)=1)=False by simp,show ((2:Int)=3)=False by simp,decide_false,decide_true,Bool.true_or,Bool.false_or,Bool.and_true,Bool.true_and]
 by_cases h1:o.text.size=0
 ·by_cases h2:o.to=0
  ·rw [if_neg (by simp [h1,h2])]
   cases h3:(nevB o.n || tickB 0 o.n)
   ·simp
   ·rw [if_neg (by simp)]
    by_cases h4:8 < o.arms.length
    ·rw [if_pos h4];simp;omega
    ·rw [if_neg h4]
     by_cases h5:fB (o.arms.map (pM k))=0
     ·rw [if_neg (by simpa using h5)]
      cases h6:(toB k o.onT && toB k o.onE)
      ·simp
      ·simp [h1,h2,h5];omega
     ·rw [if_pos h5];simp [h5]
  ·rw [if_pos (by simp [h1,h2])];simp [h2]
 ·rw [if_pos (by simp [h1])];simp [h1]
theorem oK {l:List Int}:fB l=0↔∀ e ∈ l,e=0:=by
 induction l with
 | nil=>simp [fB]
 | cons a r ih =>
  unfold fB
  by_cases h:a=0
  ·rw [if_neg (by simpa using h),ih];simp [h]
  ·rw [if_pos h];simp [h]
theorem arm_new (k:Nat) (t:List UInt8) (h:t.length≤64) (h2:(bV t).2=0):pM k ⟨bs t,0⟩=0:=by
 unfold pM patE
 simp only
 rw [bJ,if_neg (by omega),h2,if_neg (by decide),if_pos (by unfold kX;simp)]
theorem yU {o:OpM} {t:List UInt8} (hk:o.kind=2) (h:∀ k,opE k o=0) (h8:¬ 7 < o.arms.length) (ht:t.length≤64) (hc:(bV t).2=0):∀ k,opE k (bQ o t)=0:=by
 intro k
 obtain ⟨h1,h2,h3,h4,h5,h6⟩:=(fC hk).1 (h k)
 refine (fC (o:=bQ o t) hk).2 ⟨h1,h2,h3,?_,?_,h6⟩
 ·show (o.arms++[_]).length≤8
  rw [List.length_append];simp;omega
 ·show fB ((o.arms++[_]).map (pM k))=0
  rw [oK] at h5 ⊢
  intro e he
  rw [List.map_append,List.mem_append] at he
  rcases he with he | he
  ·exact h5 e he
  ·simp at he
   rw [he]
   exact arm_new k t ht hc
theorem use_app {ops:List OpM} {u:UseM} (h:UseOk ops u) (o:OpM):UseOk (ops++[o]) u:=by
 obtain ⟨h0,h1,h2⟩:=h
 have e:opI (ops++[o]) u=opI ops u:=by
  unfold opI
  rw [List.getD_eq_getElem?_getD,List.getD_eq_getElem?_getD,List.getElem?_append_left (by omega)]
 refine ⟨h0,by rw [List.length_append];omega,?_⟩
 rw [e];exact h2
theorem vJ {ops:List OpM} {u:UseM} (h:UseOk ops u) (i:Nat) (o:OpM) (hk:o.kind=(ops.getD i op0).kind) (ha:(ops.getD i op0).arms.length≤o.arms.length):UseOk (ops.set i o) u:=by
 obtain ⟨h0,h1,h2⟩:=h
 refine ⟨h0,by rw [List.length_set];exact h1,?_⟩
 by_cases hi:i=u.op.toNat
 ·have e:opI (ops.set i o) u=o:=by
   unfold opI
   rw [← hi,List.getD_eq_getElem?_getD,List.getElem?_set_self (by omega)]
   rfl
  rw [e]
  have e2:ops.getD i op0=opI ops u:=by unfold opI;rw [hi]
  rw [e2] at hk ha
  rcases h2 with h2 | ⟨h2,h3⟩
  ·exact Or.inl ⟨h2.1,by rw [hk];exact h2.2⟩
  ·refine Or.inr ⟨by rw [hk];exact h2,?_⟩
   rcases h3 with h3 | h3 | h3
   ·exact Or.inl h3
   ·exact Or.inr (Or.inl h3)
   ·exact Or.inr (Or.inr ⟨h3.1,by omega⟩)
 ·have e:opI (ops.set i o) u=opI ops u:=by
   unfold opI
   rw [List.getD_eq_getElem?_getD,List.getD_eq_getElem?_getD,List.getElem?_set_ne hi]
  rw [e];exact h2
theorem s8 (ops:List OpM) (o:OpM):(ops++[o]).getD ((ops++[o]).length - 1) op0=o:=by
 rw [List.getD_eq_getElem?_getD,List.length_append]
 simp
theorem WF.op {d:DM} (h:WF d) (o:OpM) (b tm ef:Bool) (h2:¬ 199 < d.ops.length) (ho:∀ k,opE k o=0) (hb:b=true→o.kind=2):WF { d with ops:=d.ops++[o],opn:=b,tm:=tm,ef:=ef }:=by
 refine ⟨h.name,h.dl,h.jm,?_,?_,?_,fun u hu=>use_app (h.use u hu) o,fun hb'=>⟨by simp,?_⟩⟩
 ·show (d.ops++[o]).length≤200
  rw [List.length_append];simp;omega
 ·intro x hx
  rcases List.mem_append.1 hx with hx | hx
  ·exact h.ops x hx
  ·simp at hx;subst hx;exact ho
 ·intro p hp
  have:=h.lb p hp
  refine ⟨this.1,?_⟩
  show p.2≤((d.ops++[o]).length:Nat)
  rw [List.length_append];simp;omega
 ·unfold lastD
  rw [s8]
  exact hb hb'
end Go.Proofs.YtaioaojfdngfdaaGreatDoor
namespace Go.Proofs.YtaioaojfdngfdaaGreatDoor
set_option linter.unusedSectionVars false
theorem qD {d:DM} {w:WordM} (h:cH d w=0) (ha:bN w.text=true):d.opn=true∧(w.text=kOn→¬ 7 < (lastD d).arms.length):=by
 unfold cH at h
 split at h
 ·cases h
 split at h
 ·cases h
 rename_i h2
 split at h
 ·cases h
 rename_i h3
 exact ⟨by simpa using h2,fun e h4=>h3 ⟨e,h4⟩⟩
theorem place_op {d:DM} {w:WordM} (h:cH d w=0) (ha:dY w.text=true) (hl:w.text≠bG):¬ 199 < d.ops.length:=by
 have hna:bN w.text=false:=by
  unfold dY at ha
  simp only [Bool.or_eq_true,decide_eq_true_eq] at ha
  rcases ha with ht | ht | ht | ht | ht | ht | ht<;>rw [ht]<;>rfl
 have hns:w.text≠aH:=by
  intro h
  rw [h] at ha
  exact absurd ha (by decide)
 unfold cH at h
 split at h
 ·cases h
 rw [if_neg (by rw [hna];simp)] at h
 split at h
 ·cases h
 rename_i h3
 exact fun h4=>h3 ⟨hns,hl,h4⟩
theorem mP {d:DM} {w:WordM} (h:cH d w=0):w.text=aH∨bN w.text=true∨dY w.text=true:=by
 unfold cH at h
 split at h
 ·cases h
 rename_i h1
 have h2:(bZ w.text).2=true:=by
  cases h3:(bZ w.text).2 with
  | true=>rfl
  | false=>exact absurd (Or.inr (Or.inl h3)) h1
 rw [eM] at h2
 simpa using h2
theorem rW {d:DM} (h:d.opn=true→d.ops≠[]∧(lastD d).kind=2) (ho:d.opn=true) (name:List UInt8) (line col how:Int) (hh:how = -2∨how = -3):UseOk d.ops ⟨name,line,col,(d.ops.length:Nat) - 1,how⟩:=by
 obtain ⟨h1,h2⟩:=h ho
 have hl:0 < d.ops.length:=List.length_pos_iff.2 h1
 have e:opI d.ops ⟨name,line,col,(d.ops.length:Nat) - 1,how⟩=lastD d:=by
  unfold opI lastD
  show d.ops.getD ((d.ops.length:Int) - 1).toNat op0=_
  rw [show ((d.ops.length:Int) - 1).toNat=d.ops.length - 1 by omega]
 refine ⟨by show (0:Int)≤(d.ops.length:Int) - 1;omega,by show (d.ops.length:Int) - 1 < _;omega,Or.inr ⟨by rw [e];exact h2,?_⟩⟩
 rcases hh with hh | hh
 ·exact Or.inl hh
 ·exact Or.inr (Or.inl hh)
theorem eF {α:Type} {P:α→Prop} {l:List α} {a:α} (h:∀ x ∈ l,P x) (ha:P a):∀ x ∈ l++[a],P x:=by
 intro x hx
 rcases List.mem_append.1 hx with hx | hx
 ·exact h x hx
 ·simp at hx;subst hx;exact ha
theorem qW {d:DM} (h:WF d) (s:List UInt8) (line:Int) (h0:(eO d s).2=0):WF (takeD d (aL s).1 line):=by
 have he:(aL s).2.2=0:=by
  unfold eO at h0
  split at h0
  ·rename_i h1;exact absurd h0 h1
  ·omega
 rw [nQ s he] at h0
 generalize (aL s).1=l at *
 have hp:cH d (aC l 0)=0:=by
  split at h0
  ·rename_i h1;exact absurd h0 h1
  ·omega
 rw [if_neg (by omega)] at h0
 rcases mP hp with ht | ht | ht
 ·rw [ht] at h0
  obtain ⟨a1,a2,_,h0⟩:=gI (c:=110) (r:=[100,106]) h0
  obtain ⟨b1,b2,_,h0⟩:=gI (c:=100) (r:=[106]) h0
  obtain ⟨c1,c2,_,h0⟩:=gI (c:=106) (r:=[]) h0
  have e:takeD d l line={ d with head:=true,name:=bs (aC l 1).text,dl:=(aF 100 (aC l 2).text).1,jm:=(aF 106 (aC l 3).text).1 }:=by
   unfold takeD dOp cD
   rw [ht]
   rfl
  rw [e]
  refine ⟨fun _=>tU (Or.inl rfl) a2,fun _=>?_,fun _=>uT (jR (Or.inr (Or.inr (Or.inr rfl))) c2),h.len,h.ops,h.lb,h.use,h.opn⟩
  rcases kQ (jR (Or.inl rfl) b2) (by decide) with hx | hx
  ·show (nevB (aF 100 (aC l 2).text).1 || _)=true
   rw [hx.1];rfl
  ·show (_ || tickB 1 (aF 100 (aC l 2).text).1)=true
   have h3:=hx.2.2 rfl
   rw [nG (by omega) hx.2.1,Bool.or_true]
 ·obtain ⟨ho,h8⟩:=qD hp ht
  unfold bN at ht
  simp only [Bool.or_eq_true,decide_eq_true_eq] at ht
  rcases ht with ht | ht | ht
  ·rw [ht] at h0
   obtain ⟨a1,a2,_,h0⟩:=gI (c:=112) (r:=[108]) h0
   have e:takeD d l line={ d with ops:=d.ops.set (d.ops.length - 1) (bQ (lastD d) (aC l 1).text),uses:=d.uses++[⟨(aC l (l.length - 1)).text,line,((aC l (l.length - 1)).at_:Nat) + 1,((d.ops.set (d.ops.length - 1) (bQ (lastD d) (aC l 1).text)).length:Nat) - 1,((lastD d).arms.length:Nat)⟩] }:=by
    unfold takeD dOp cD
    rw [ht]
    rfl
   rw [e]
   obtain ⟨g1,g2⟩:=h.opn ho
   have hl:0 < d.ops.length:=List.length_pos_iff.2 g1
   have hlast:d.ops.getD (d.ops.length - 1) op0=lastD d:=rfl
   have hmem:lastD d ∈ d.ops:=by
    unfold lastD
    rw [List.getD_eq_getElem?_getD,List.getElem?_eq_getElem (by omega)]
    exact List.getElem_mem _
   have hnew:=yU g2 (h.ops _ hmem) (h8 ht) (pO a2).1 (pO a2).2
   have hself:(d.ops.set (d.ops.length - 1) (bQ (lastD d) (aC l 1).text)).getD (d.ops.length - 1) op0=bQ (lastD d) (aC l 1).text:=by
    rw [List.getD_eq_getElem?_getD,List.getElem?_set_self (by omega)]
    rfl
   refine ⟨h.name,h.dl,h.jm,by rw [List.length_set];exact h.len,?_,?_,eF ?_ ?_,fun _=>⟨?_,?_⟩⟩
   ·intro o ho
    rcases List.mem_or_eq_of_mem_set ho with ho | rfl
    ·exact h.ops o ho
    ·exact hnew
   ·intro p hp
    rw [List.length_set]
    exact h.lb p hp
   ·intro u hu
    exact vJ (h.use u hu) _ _ (by rw [hlast];rfl) (by rw [hlast];unfold bQ;simp)
   ·have e2:((((d.ops.set (d.ops.length - 1) (bQ (lastD d) (aC l 1).text)).length:Nat):Int) - 1).toNat=d.ops.length - 1:=by rw [List.length_set];omega
    refine ⟨by rw [List.length_set];show (0:Int)≤(d.ops.length:Int) - 1;omega,by rw [List.length_set];show (d.ops.length:Int) - 1 < _;omega,Or.inr ?_⟩
    unfold opI
    simp only
    rw [e2,hself]
    refine ⟨g2,Or.inr (Or.inr ⟨by omega,?_⟩)⟩
    show _ < (((lastD d).arms++[_]).length:Int)
    rw [List.length_append];simp
    first | done | omega
   ·intro e
    have:=congrArg List.length e
    rw [List.length_set] at this
    exact g1 (List.eq_nil_of_length_eq_zero this)
   ·have h9:=hself
    unfold lastD at h9 ⊢
    simp only [List.length_set]
    rw [h9]
    exact g2
  ·have e:takeD d l line={ d with tm:=true,uses:=d.uses++[⟨(aC l (l.length - 1)).text,line,((aC l (l.length - 1)).at_:Nat) + 1,(d.ops.length:Nat) - 1,-2⟩] }:=by
    unfold takeD dOp cD
    rw [ht]
    rfl
   rw [e]
   exact ⟨h.name,h.dl,h.jm,h.len,h.ops,h.lb,eF h.use (rW h.opn ho _ _ _ _ (Or.inl rfl)),h.opn⟩
  ·have e:takeD d l line={ d with ef:=true,uses:=d.uses++[⟨(aC l (l.length - 1)).text,line,((aC l (l.length - 1)).at_:Nat) + 1,(d.ops.length:Nat) - 1,-3⟩] }:=by
    unfold takeD dOp cD
    rw [ht]
    rfl
   rw [e]
   exact ⟨h.name,h.dl,h.jm,h.len,h.ops,h.lb,eF h.use (rW h.opn ho _ _ _ _ (Or.inr rfl)),h.opn⟩
 ·by_cases hll:(aC l 0).text=bG
  ·have e:takeD d l line={ d with opn:=false,labels:=d.labels++[((aC l 1).text,((d.ops.length:Nat):Int))] }:=by
    unfold takeD dOp cD
    rw [hll]
    rfl
   rw [e]
   exact ⟨h.name,h.dl,h.jm,h.len,h.ops,eF h.lb ⟨by simp,Int.le_refl _⟩,h.use,fun hb=>absurd hb (by simp)⟩
  have h2:=place_op hp ht hll
  unfold dY at ht
  simp only [Bool.or_eq_true,decide_eq_true_eq] at ht
  rcases ht with ht | ht | ht | ht | ht | ht | ht
  ·rw [ht] at h0
   obtain ⟨a1,a2,_,h0⟩:=gI (c:=113) (r:=[]) h0
   have e:takeD d l line={ d with ops:=d.ops++[{ bA 1 with text:=bs (aC l 1).text }],opn:=false,tm:=false,ef:=false }:=by
    unfold takeD dOp cD eU
    rw [ht]
    rfl
   rw [e]
   exact h.op _ _ _ _ h2 (op_send _ (m7 a2).1 (m7 a2).2) (fun hb=>absurd hb (by simp))
  ·rw [ht] at h0
   obtain ⟨a1,a2,_,h0⟩:=gI (c:=101) (r:=[]) h0
   have e:takeD d l line={ d with ops:=d.ops++[{ cE with n:=(aF 101 (aC l 1).text).1 }],opn:=true,tm:=false,ef:=false }:=by
    unfold takeD dOp cD eU
    rw [ht]
    rfl
   rw [e]
   refine h.op _ _ _ _ h2 (xW _ ?_) (fun _=>rfl)
   rcases kQ (jR (Or.inr (Or.inl rfl)) a2) (by decide) with hx | hx
   ·exact Or.inl hx.1
   ·exact Or.inr ⟨hx.1,hx.2.1⟩
  ·have e:takeD d l line={ d with ops:=d.ops++[bA 3],opn:=false,tm:=false,ef:=false,uses:=d.uses++[⟨(aC l (l.length - 1)).text,line,((aC l (l.length - 1)).at_:Nat) + 1,((d.ops++[bA 3]).length:Nat) - 1,-1⟩] }:=by
    unfold takeD dOp cD eU
    rw [ht]
    rfl
   rw [e]
   have hw:=h.op (bA 3) false false false h2 op_goto (fun hb=>absurd hb (by simp))
   refine ⟨hw.name,hw.dl,hw.jm,hw.len,hw.ops,hw.lb,eF hw.use ⟨?_,?_,Or.inl ⟨rfl,?_⟩⟩,hw.opn⟩
   ·show (0:Int)≤(((d.ops++[bA 3]).length:Nat):Int) - 1
    rw [List.length_append];simp
   ·show (((d.ops++[bA 3]).length:Nat):Int) - 1 < (((d.ops++[bA 3]).length:Nat):Int)
    omega
   ·unfold opI
    show ((d.ops++[bA 3]).getD ((((d.ops++[bA 3]).length:Nat):Int) - 1).toNat op0).kind=3
    rw [show ((((d.ops++[bA 3]).length:Nat):Int) - 1).toNat=(d.ops++[bA 3]).length - 1 by omega,s8]
    rfl
  ·rw [ht] at h0
   obtain ⟨a1,a2,_,h0⟩:=gI (c:=116) (r:=[]) h0
   have e:takeD d l line={ d with ops:=d.ops++[{ bA 4 with n:=(aF 116 (aC l 1).text).1 }],opn:=false,tm:=false,ef:=false }:=by
    unfold takeD dOp cD eU
    rw [ht]
    rfl
   rw [e]
   rcases kQ (jR (Or.inr (Or.inr (Or.inl rfl))) a2) (by decide) with hx | hx
   ·rcases hx.2 with hx | hx<;>exact absurd hx (by decide)
   ·exact h.op _ _ _ _ h2 (op_pause _ hx.1 hx.2.1) (fun hb=>absurd hb (by simp))
  ·have e:takeD d l line={ d with ops:=d.ops++[bA 5],opn:=false,tm:=false,ef:=false }:=by
    unfold takeD dOp cD eU
    rw [ht]
    rfl
   rw [e]
   exact h.op _ _ _ _ h2 op_done (fun hb=>absurd hb (by simp))
  ·have e:takeD d l line={ d with ops:=d.ops++[bA 6],opn:=false,tm:=false,ef:=false }:=by
    unfold takeD dOp cD eU
    rw [ht]
    rfl
   rw [e]
   exact h.op _ _ _ _ h2 op_fail (fun hb=>absurd hb (by simp))
  ·exact absurd ht hll
theorem set_ok {K:Nat} {ops:List OpM} {u:UseM} {t:Int} (hu:UseOk ops u) (h:∀ o ∈ ops,opE K o=0) (ht:0≤t∧t≤K):∀ o ∈ eX ops u t,opE K o=0:=by
 obtain ⟨u0,u1,u2⟩:=hu
 have hmem:opI ops u ∈ ops:=by
  unfold opI
  rw [List.getD_eq_getElem?_getD,List.getElem?_eq_getElem (by omega)]
  exact List.getElem_mem _
 have hold:=h _ hmem
 have hc:kX K t=true:=by unfold kX;simp;omega
 intro o ho
 unfold eX at ho
 rcases List.mem_or_eq_of_mem_set ho with ho | ho
 ·exact h o ho
 rw [ho]
 clear ho
 rw [show ops.getD u.op.toNat op0=opI ops u from rfl]
 generalize opI ops u=x at *
 rcases u2 with ⟨e1,e2⟩ | ⟨e2,e1⟩
 ·rw [if_pos e1]
  unfold opE jP at hold ⊢
  simp only [e2] at hold ⊢
  rw [if_neg (by decide)] at hold ⊢
  split at hold
  ·cases hold
  rename_i hb
  rw [if_neg (by simpa using hb)]
  simp [hc]
 ·obtain ⟨g1,g2,g3,g4,g5,g6⟩:=(fC e2).1 hold
  rw [Bool.and_eq_true] at g6
  have hto:toB K t=true:=by unfold toB;rw [hc,Bool.or_true]
  rcases e1 with e1 | e1 | e1
  ·rw [if_neg (by omega),if_pos e1]
   exact (fC (by exact e2)).2 ⟨g1,g2,g3,g4,g5,by rw [Bool.and_eq_true];exact ⟨hto,g6.2⟩⟩
  ·rw [if_neg (by omega),if_neg (by omega),if_pos e1]
   exact (fC (by exact e2)).2 ⟨g1,g2,g3,g4,g5,by rw [Bool.and_eq_true];exact ⟨g6.1,hto⟩⟩
  ·rw [if_neg (by omega),if_neg (by omega),if_neg (by omega)]
   refine (fC (by exact e2)).2 ⟨g1,g2,g3,by simp only [List.length_set];exact g4,?_,by rw [Bool.and_eq_true];exact g6⟩
   rw [oK] at g5 ⊢
   intro e he
   obtain ⟨y,hy,rfl⟩:=List.mem_map.1 he
   rcases List.mem_or_eq_of_mem_set hy with hy | hy
   ·exact g5 _ (List.mem_map.2 ⟨y,hy,rfl⟩)
   ·rw [hy]
    have hm:x.arms.getD u.how.toNat ⟨⟨#[]⟩,0⟩ ∈ x.arms:=by
     rw [List.getD_eq_getElem?_getD,List.getElem?_eq_getElem (by omega)]
     exact List.getElem_mem _
    have:=g5 _ (List.mem_map.2 ⟨_,hm,rfl⟩)
    unfold pM at this ⊢
    simp only
    split at this
    ·cases this
    rename_i q1
    rw [if_neg q1]
    split at this
    ·rename_i q2;exact absurd this q2
    rename_i q2
    rw [if_neg q2,if_pos hc]
theorem tY (ops:List OpM) (u:UseM) (t:Int):(eX ops u t).length=ops.length:=by unfold eX;rw [List.length_set]
theorem l9 {ops:List OpM} {u v:UseM} {t:Int} (h:UseOk ops v):UseOk (eX ops u t) v:=by
 unfold eX
 refine vJ h _ _ ?_ ?_
 ·split
  ·rfl
  split
  ·rfl
  split<;>rfl
 ·split
  ·exact Nat.le_refl _
  split
  ·exact Nat.le_refl _
  split
  ·exact Nat.le_refl _
  ·show _≤(List.set _ _ _).length
   rw [List.length_set]
   exact Nat.le_refl _
theorem lT {k:List UInt8} {n:Int}:∀ ls:List (List UInt8 × Int),(∀ p ∈ ls,0≤p.2∧p.2≤n)→¬ findD k ls < 0→0≤findD k ls∧findD k ls≤n
 | [],_,h=>absurd (show findD k [] < 0 by unfold findD;decide) h
 | (a,b) :: r,h,h2=>by
  unfold findD at h2 ⊢
  split
  ·exact h (a,b) (by simp)
  ·rename_i hh
   rw [if_neg hh] at h2
   exact lT r (fun p hp=>h p (by simp [hp])) h2
theorem wG {K:Nat} {ls:List (List UInt8 × Int)} (hl:∀ p ∈ ls,0≤p.2∧p.2≤(K:Int)):∀ (us:List UseM) (ops:List OpM),ops.length=K→(∀ u ∈ us,UseOk ops u)→(∀ o ∈ ops,opE K o=0)→(iH ls us ops).2=none→(iH ls us ops).1.length=K∧∀ o ∈ (iH ls us ops).1,opE K o=0
 | [],ops,hK,_,h,_=>⟨hK,h⟩
 | u :: r,ops,hK,hu,h,hn=>by
  unfold iH at hn ⊢
  split at hn
  ·cases hn
  rename_i h1
  rw [if_neg h1]
  exact wG hl r _ (by rw [tY];exact hK) (fun v hv=>l9 (hu v (by simp [hv]))) (set_ok (hu u (by simp)) h (lT ls hl h1)) hn
theorem tH {i:Nat} {l:List Int} (h:∀ e ∈ l,e=0):kD i l=(0,0):=by
 induction l generalizing i with
 | nil=>rfl
 | cons a r ih =>
  unfold kD
  rw [if_neg (by have:=h a (by simp);omega)]
  exact ih (fun e he=>h e (by simp [he]))
theorem vD (l:List (List UInt8)):∀ (f i:Nat) (d:DM),WF d→(dGo l f i d).2=none→WF (dGo l f i d).1
 | 0,i,d,h,_=>h
 | f + 1,i,d,h,hn=>by
  unfold dGo at hn ⊢
  split at hn
  ·rename_i h1
   rw [if_pos h1]
   exact vD l f (i + 1) d h hn
  rename_i h1
  rw [if_neg h1]
  split at hn
  ·cases hn
  rename_i h2
  rw [if_neg h2]
  exact vD l f (i + 1) _ (qW h _ _ (by omega)) hn
theorem sM (s:List UInt8) (h:(eT s).2.2=0):v8 (eT s).1=true:=by
 unfold eT kH at h ⊢
 have hw:=vD (bI s) (bI s).length 0 d0 wf0
 generalize hx:dGo (bI s) (bI s).length 0 d0=x at h hw ⊢
 obtain ⟨d,o⟩:=x
 cases o with
 | some y =>
  obtain ⟨i,c,e⟩:=y
  simp only at h
  exfalso
  have:∀ (l:List (List UInt8)) (f i:Nat) (d:DM) (y:Nat × Nat × Nat),(dGo l f i d).2=some y→y.2.2≠0:=by
   intro l f
   induction f with
   | zero=>intro i d y hy;cases hy
   | succ f ih =>
    intro i d y hy
    unfold dGo at hy
    split at hy
    ·exact ih _ _ _ hy
    split at hy
    ·rename_i h2
     injection hy with hy
     subst hy
     exact h2
    ·exact ih _ _ _ hy
  have h2:=this _ _ _ _ _ (by rw [hx])
  simp only at h2
  omega
 | none =>
  simp only at h hw ⊢
  have hw:=hw trivial
  split at h
  ·cases h
  rename_i hh
  rw [if_neg hh]
  have hd:d.head=true:=by simpa using hh
  split at h
  ·rename_i ops hr
   have hr2:=wG (K:=d.ops.length) hw.lb d.uses d.ops rfl hw.use (fun o ho=>hw.ops o ho _) (by rw [hr])
   rw [hr] at hr2
   simp only at hr2
   unfold v8 m8 qM
   simp only
   have e1:(if nameB d.name=false then (10:Int) else if ((nevB d.dl || tickB 1 d.dl) && decide (0≤d.jm) && decide (d.jm≤1000))=false then 12 else if 200 < ops.length then 4 else 0)=0:=by
    rw [if_neg (by rw [hw.name hd];simp),if_neg (by rw [hw.dl hd,decide_eq_true (hw.jm hd).1,decide_eq_true (hw.jm hd).2];simp),if_neg (by rw [hr2.1];have:=hw.len;omega)]
   rw [e1,if_neg (show ¬ ((0:Int)≠0) by decide)]
   rw [tH]
   ·rfl
   ·intro e he
    obtain ⟨o,ho,rfl⟩:=List.mem_map.1 he
    rw [hr2.1]
    exact hr2.2 o ho
  ·cases h
def Safe (m:PM):Prop:=∃ d,Rel m d∧WF d
theorem safe0:Safe m0:=⟨d0,⟨rfl,rfl,rfl,rfl,rfl,rfl,rfl,fun h=>absurd h (by decide),fun h=>absurd h (by decide),fun _=>rfl,fun k v h=>(by cases h),fun p hp=>(by cases hp)⟩,wf0⟩
theorem wU {m:PM} (h:Safe m) (h0:m.st.bad=0) (i:Nat) (s:List UInt8) (hi:idleB s=false) (h1:(iV m i s).st.bad=0):Safe (iV m i s):=by
 obtain ⟨d,hr,hw⟩:=h
 have ho:=sY hr h0 i s hi
 unfold Out at ho
 by_cases hx:(eO d s).2=0
 ·rw [if_pos hx] at ho
  exact ⟨_,ho.2,qW hw s _ hx⟩
 ·rw [if_neg hx] at ho
  exact absurd h1 ho.ne
theorem Safe.opn {m:PM} (h:Safe m) (ho:m.opn=true):m.ops≠[]:=by
 obtain ⟨d,hr,hw⟩:=h
 rw [hr.ops]
 exact (hw.opn (by rw [← hr.opn];exact ho)).1
theorem Safe.use {m:PM} (h:Safe m):∀ u ∈ m.uses,UseOk m.ops u:=by
 obtain ⟨d,hr,hw⟩:=h
 rw [hr.ops,hr.uses]
 exact hw.use
theorem Safe.lb {m:PM} (h:Safe m):∀ k v,lbF k m.labels=some v→0≤v∧v≤200:=by
 obtain ⟨d,hr,hw⟩:=h
 intro k v hk
 have h1:=hr.lb k
 rw [hk] at h1
 have h2:=hr.lbp k v hk
 have h3:=lT (k:=k) (n:=(d.ops.length:Nat)) d.labels hw.lb (by rw [h1];show ¬ v < 0;omega)
 have h4:=hw.len
 rw [h1] at h3
 have h5:v≤(d.ops.length:Nat):=h3.2
 omega
end Go.Proofs.YtaioaojfdngfdaaGreatDoor
