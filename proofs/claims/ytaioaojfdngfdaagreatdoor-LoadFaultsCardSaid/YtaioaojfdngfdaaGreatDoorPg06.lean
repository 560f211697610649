/- Parts of a chain of lemmas: ParE, ParF, ParG. Conditions: those of each theorem. -/
import Derived.Test.YtaioaojfdngfdaaGreatDoorPg05
set_option linter.unusedVariables false
set_option linter.unusedSimpArgs false
namespace Go.Proofs.YtaioaojfdngfdaaGreatDoor
def fM (l:List WordM) (width:Nat) (c:UInt8) (i:Nat):Option (Nat × Nat) :=
 if l.length≤i + 1 then some (width,3) else if aO c (aC l (i + 1))≠0 then some ((aC l (i + 1)).at_,aO c (aC l (i + 1))) else none
theorem cX (d:DM) (l:List WordM) (width:Nat) (c:UInt8) (r:List UInt8) (i:Nat):cB d l width (c :: r) i =
 match fM l width c i with
 | some x=>x
 | none=>if (aC l 0).text=bG∧0≤findD (aC l 1).text d.labels then ((aC l 1).at_,6) else cB d l width r (i + 1):=by
 conv=>lhs;unfold cB
 unfold fM
 split
 ·rfl
 split
 ·rfl
 ·rfl
def Bad (s:St) (line:Int) (x:Nat × Nat):Prop:=s.bad=(x.2:Nat)∧s.sl=line∧s.sc=(x.1:Nat) + 1∧x.2≠0
theorem Bad.ne {s:St} {line:Int} {x:Nat × Nat} (h:Bad s line x):s.bad≠0:=by have:=h.1;have:=h.2.2.2;omega
theorem lB {s:St} (h:s.bad≠0) (line width:Int) (ws:List WordM) (q:Bool):aJ line width ws s q=((w0,false),s):=by unfold aJ;rw [if_pos h]
theorem name_bad {s:St} (h:s.bad≠0) (line width:Int) (ws:List WordM):b9 line width ws s=(w0,s):=by unfold b9;rw [lB h];simp
theorem l6 {s:St} (h:s.bad≠0) (line width:Int) (ws:List WordM) (a:Int) (b:Bool):bT line width ws s a b=(0,s):=by unfold bT;rw [lB h];simp
theorem text_bad {s:St} (h:s.bad≠0) (line width:Int) (ws:List WordM):textS line width ws s=([],s):=by unfold textS;rw [lB h];simp [textE,w0]
theorem failS_ne {s:St} (h:s.bad≠0) (l c e:Int):bE l s c e=s:=by unfold bE;rw [if_neg h]
theorem eJ {s:St} (h:s.bad=0) (l c e:Int):bE l s c e=⟨s.nx,l,c + 1,e⟩:=by unfold bE;rw [if_pos h]
theorem k7 {s:St} {line:Int} {width:Nat} {ws:List WordM} {q:Bool} {i:Nat} (h:s.bad=0) (hn:s.nx=i + 1) (hl:¬ ws.length≤i + 1) (hq:(aC ws (i + 1)).quoted=q) :
 aJ line width ws s q=((aC ws (i + 1),true),⟨i + 2,s.sl,s.sc,0⟩):=by
 unfold aJ;rw [if_neg (by omega),hn,if_neg hl,if_neg (by simpa using hq),h]
theorem iY {s:St} {line:Int} {width:Nat} {ws:List WordM} {q:Bool} {i:Nat} (h:s.bad=0) (hn:s.nx=i + 1) (hl:ws.length≤i + 1) :
 (aJ line width ws s q).1.2=false∧(aJ line width ws s q).1.1=w0∧Bad (aJ line width ws s q).2 line (width,3):=by
 unfold aJ;rw [if_neg (by omega),hn,if_pos hl]
 exact ⟨rfl,rfl,rfl,rfl,rfl,Nat.succ_ne_zero _⟩
theorem gZ {s:St} {line:Int} {width:Nat} {ws:List WordM} {q:Bool} {i:Nat} (h:s.bad=0) (hn:s.nx=i + 1) (hl:¬ ws.length≤i + 1) (hq:(aC ws (i + 1)).quoted≠q) :
 (aJ line width ws s q).1.2=false∧(aJ line width ws s q).1.1=aC ws (i + 1)∧Bad (aJ line width ws s q).2 line ((aC ws (i + 1)).at_,2):=by
 unfold aJ;rw [if_neg (by omega),hn,if_neg hl,if_pos hq]
 exact ⟨rfl,rfl,rfl,rfl,rfl,Nat.succ_ne_zero _⟩
def Arg {α:Type} (r:α × St) (s:St) (line:Int) (ws:List WordM) (width:Nat) (c:UInt8) (i:Nat) (f:WordM→α):Prop :=
 match fM ws width c i with
 | some x=>Bad r.2 line x
 | none=>r=(f (aC ws (i + 1)),⟨i + 2,s.sl,s.sc,0⟩)
theorem lW {α:Type} {r:α × St} {s:St} {line:Int} {ws:List WordM} {width:Nat} {c:UInt8} {i:Nat} {f:WordM→α} (hl:ws.length≤i + 1) (h:Bad r.2 line (width,3)):Arg r s line ws width c i f:=by
 unfold Arg fM;rw [if_pos hl];exact h
theorem cY {α:Type} {r:α × St} {s:St} {line:Int} {ws:List WordM} {width:Nat} {c:UInt8} {i e:Nat} {f:WordM→α} (hl:¬ ws.length≤i + 1) (he:aO c (aC ws (i + 1))=e) (h0:e≠0) (h:Bad r.2 line ((aC ws (i + 1)).at_,e)):Arg r s line ws width c i f:=by
 unfold Arg fM;rw [if_neg hl,he,if_pos h0];exact h
theorem fX {α:Type} {r:α × St} {s:St} {line:Int} {ws:List WordM} {width:Nat} {c:UInt8} {i:Nat} {f:WordM→α} (hl:¬ ws.length≤i + 1) (he:aO c (aC ws (i + 1))=0) (h:r=(f (aC ws (i + 1)),⟨i + 2,s.sl,s.sc,0⟩)):Arg r s line ws width c i f:=by
 unfold Arg fM;rw [if_neg hl,if_neg (by omega)];exact h
theorem gJ {i:Nat} {a b line:Int} {x e:Nat} (he:e≠0):Bad (bE line ⟨i,a,b,0⟩ x (e:Nat)) line (x,e):=by
 rw [eJ rfl];exact ⟨rfl,rfl,rfl,he⟩
section
variable {s:St} {line:Int} {ws:List WordM} {width i:Nat}
theorem iD (c:UInt8) (hc:c=110∨c=108) (h:s.bad=0) (hn:s.nx=i + 1):Arg (b9 line width ws s) s line ws width c i (fun w=>w):=by
 have hw:∀ w:WordM,aO c w=if w.quoted=true then 2 else if eE w.text=false then 10 else 0:=by
  intro w
  unfold aO
  rcases hc with rfl | rfl<;>cases w.quoted<;>simp
 by_cases hl:ws.length≤i + 1
 ·obtain ⟨h1,h2,h3⟩:=iY (line:=line) (width:=width) (q:=false) h hn hl
  refine lW hl ?_
  unfold b9
  rw [h1,if_neg (by simp)]
  exact h3
 by_cases hq:(aC ws (i + 1)).quoted=true
 ·obtain ⟨h1,h2,h3⟩:=gZ (line:=line) (width:=width) (q:=false) h hn hl (by rw [hq];simp)
  refine cY (e:=2) hl (by rw [hw,if_pos hq]) (by decide) ?_
  unfold b9
  rw [h1,if_neg (by simp)]
  exact h3
 ·have hk:=k7 (line:=line) (width:=width) (q:=false) h hn hl (by simpa using hq)
  unfold b9
  rw [hk]
  simp only [true_and]
  by_cases hnm:eE (aC ws (i + 1)).text=false
  ·refine cY (e:=10) hl (by rw [hw,if_neg hq,if_pos hnm]) (by decide) ?_
   rw [if_pos hnm]
   exact gJ (by decide)
  ·refine fX hl (by rw [hw,if_neg hq,if_neg hnm]) ?_
   rw [if_neg hnm]
theorem text_arg (h:s.bad=0) (hn:s.nx=i + 1):Arg (textS line width ws s) s line ws width 113 i (fun w=>w.text):=by
 have hw:∀ w:WordM,aO 113 w=if w.quoted=false then 2 else if w.text.length=0 then 9 else if 256 < w.text.length then 4 else 0:=by
  intro w
  unfold aO
  cases w.quoted<;>simp
 by_cases hl:ws.length≤i + 1
 ·obtain ⟨h1,h2,h3⟩:=iY (line:=line) (width:=width) (q:=true) h hn hl
  refine lW hl ?_
  unfold textS textE
  rw [h1,if_pos rfl,if_neg (by decide)]
  exact h3
 by_cases hq:(aC ws (i + 1)).quoted=false
 ·obtain ⟨h1,h2,h3⟩:=gZ (line:=line) (width:=width) (q:=true) h hn hl (by rw [hq];simp)
  refine cY (e:=2) hl (by rw [hw,if_pos hq]) (by decide) ?_
  unfold textS textE
  rw [h1,if_pos rfl,if_neg (by decide)]
  exact h3
 ·have hk:=k7 (line:=line) (width:=width) (q:=true) h hn hl (by simpa using hq)
  unfold textS textE
  rw [hk]
  simp only [Bool.true_eq_false,if_false]
  by_cases h9:(aC ws (i + 1)).text.length=0
  ·refine cY (e:=9) hl (by rw [hw,if_neg hq,if_pos h9]) (by decide) ?_
   rw [if_pos h9,if_pos (by decide)]
   exact gJ (e:=9) (by decide)
  by_cases h4:256 < (aC ws (i + 1)).text.length
  ·refine cY (e:=4) hl (by rw [hw,if_neg hq,if_neg h9,if_pos h4]) (by decide) ?_
   rw [if_neg h9,if_pos h4,if_pos (by decide)]
   exact gJ (e:=4) (by decide)
  ·refine fX hl (by rw [hw,if_neg hq,if_neg h9,if_neg h4]) ?_
   rw [if_neg h9,if_neg h4,if_neg (by decide)]
theorem pat_arg (h:s.bad=0) (hn:s.nx=i + 1):Arg (cP line width ws s) s line ws width 112 i (fun w=>w.text):=by
 have hw:∀ w:WordM,aO 112 w=if w.quoted=false then 2 else if 64 < w.text.length then 4 else (bV w.text).2:=by
  intro w
  unfold aO
  cases w.quoted<;>simp
 by_cases hl:ws.length≤i + 1
 ·obtain ⟨h1,h2,h3⟩:=iY (line:=line) (width:=width) (q:=true) h hn hl
  refine lW hl ?_
  unfold cP
  rw [h1,if_pos rfl]
  exact h3
 by_cases hq:(aC ws (i + 1)).quoted=false
 ·obtain ⟨h1,h2,h3⟩:=gZ (line:=line) (width:=width) (q:=true) h hn hl (by rw [hq];simp)
  refine cY (e:=2) hl (by rw [hw,if_pos hq]) (by decide) ?_
  unfold cP
  rw [h1,if_pos rfl]
  exact h3
 ·have hk:=k7 (line:=line) (width:=width) (q:=true) h hn hl (by simpa using hq)
  unfold cP
  rw [hk]
  simp only [Bool.true_eq_false,if_false]
  by_cases h4:64 < (aC ws (i + 1)).text.length
  ·refine cY (e:=4) hl (by rw [hw,if_neg hq,if_pos h4]) (by decide) ?_
   rw [if_pos h4]
   exact gJ (e:=4) (by decide)
  rw [if_neg h4]
  by_cases h0:(bV (aC ws (i + 1)).text).2=0
  ·refine fX hl (by rw [hw,if_neg hq,if_neg h4,h0]) ?_
   rw [if_neg (by omega)]
  ·refine cY (e:=(bV (aC ws (i + 1)).text).2) hl (by rw [hw,if_neg hq,if_neg h4]) h0 ?_
   rw [if_pos (by omega)]
   exact gJ h0
theorem sR (t:List UInt8) (c:UInt8) (least most:Int) (hm:most=if c=106 then 1000 else 1000000000000) (hl:least=if c=100 then 1 else 0) (hx:¬ (t=cK∧(c=100∨c=101))) (h0:0≤(bK t most).1) :
 sS t least most=((aF c t).2:Nat)∧((aF c t).2=0→(bK t most).1=(aF c t).1):=by
 unfold aF sS
 rw [if_neg hx,← hm]
 by_cases hc:c=100
 ·rw [if_pos hc] at hl
  by_cases hz:(bK t most).2=0∧(bK t most).1 < least
  ·rw [if_pos hz,if_pos ⟨hz.1,hc,by omega⟩]
   exact ⟨rfl,fun h=>absurd h (by decide)⟩
  ·rw [if_neg hz,if_neg (fun h=>hz ⟨h.1,by omega⟩)]
   exact ⟨rfl,fun _=>rfl⟩
 ·rw [if_neg hc] at hl
  rw [if_neg (fun h=>by omega),if_neg (fun h=>hc h.2.1)]
  exact ⟨rfl,fun _=>rfl⟩
theorem tickP_ge (t:List UInt8):0≤(cZ t).1:=by
 unfold cZ
 split
 ·simp
 split
 ·simp
 split
 ·simp
 split
 ·simp
 ·simp
theorem iN (t:List UInt8) (most:Int):0≤(bK t most).1:=by
 unfold bK
 split
 ·simp
 ·exact tickP_ge t
theorem l7 (c:UInt8) (least:Int) (ever:Bool) (hc:(c=100∧least=1∧ever=true)∨(c=101∧least=0∧ever=true)∨(c=116∧least=0∧ever=false)) (h:s.bad=0) (hn:s.nx=i + 1) :
 Arg (bT line width ws s least ever) s line ws width c i (fun w=>(aF c w.text).1):=by
 have hw:∀ w:WordM,aO c w=if w.quoted=true then 2 else (aF c w.text).2:=by
  intro w
  unfold aO
  rcases hc with ⟨rfl,_⟩ | ⟨rfl,_⟩ | ⟨rfl,_⟩<;>cases w.quoted<;>simp
 by_cases hl:ws.length≤i + 1
 ·obtain ⟨h1,h2,h3⟩:=iY (line:=line) (width:=width) (q:=false) h hn hl
  refine lW hl ?_
  unfold bT
  rw [h1,if_pos rfl]
  exact h3
 by_cases hq:(aC ws (i + 1)).quoted=true
 ·obtain ⟨h1,h2,h3⟩:=gZ (line:=line) (width:=width) (q:=false) h hn hl (by rw [hq];simp)
  refine cY (e:=2) hl (by rw [hw,if_pos hq]) (by decide) ?_
  unfold bT
  rw [h1,if_pos rfl]
  exact h3
 ·have hk:=k7 (line:=line) (width:=width) (q:=false) h hn hl (by simpa using hq)
  unfold bT
  rw [hk]
  simp only [Bool.true_eq_false,if_false]
  by_cases hnv:ever=true∧(aC ws (i + 1)).text=cK
  ·have hd:aF c (aC ws (i + 1)).text=(9223372036854775807,0):=by
    unfold aF
    rw [if_pos ⟨hnv.2,by rcases hc with h | h | h;exact Or.inl h.1;exact Or.inr h.1;exact absurd hnv.1 (by rw [h.2.2];simp)⟩]
   refine fX hl (by rw [hw,if_neg hq,hd]) ?_
   rw [if_pos hnv,hd]
  ·rw [if_neg hnv]
   have hx:¬ ((aC ws (i + 1)).text=cK∧(c=100∨c=101)):=by
    rintro ⟨h1,h2⟩
    refine hnv ⟨?_,h1⟩
    rcases hc with h | h | h
    ·exact h.2.2
    ·exact h.2.2
    ·rcases h2 with h2 | h2<;>rw [h.1] at h2<;>exact absurd h2 (by decide)
   obtain ⟨e1,e2⟩:=sR (aC ws (i + 1)).text c least 1000000000000 (by rcases hc with h | h | h<;>rw [h.1]<;>decide) (by rcases hc with h | h | h<;>rw [h.1,h.2.1]<;>decide) hx (iN _ _)
   unfold kF
   rw [e1]
   by_cases h0:(aF c (aC ws (i + 1)).text).2=0
   ·refine fX hl (by rw [hw,if_neg hq,h0]) ?_
    rw [if_neg (by omega),e2 h0]
   ·refine cY (e:=(aF c (aC ws (i + 1)).text).2) hl (by rw [hw,if_neg hq]) h0 ?_
    rw [if_pos (by omega)]
    exact gJ h0
def iQ (line:Int) (width:Int) (ws:List WordM) (s:St) (j:Int):Int × St :=
 if (aJ line width ws s false).1.2=true then kF line (aJ line width ws s false).2 (aJ line width ws s false).1.1 0 1000 else (j,(aJ line width ws s false).2)
theorem yD (j:Int) (h:s.bad=0) (hn:s.nx=i + 1):Arg (iQ line width ws s j) s line ws width 106 i (fun w=>(aF 106 w.text).1):=by
 have hw:∀ w:WordM,aO 106 w=if w.quoted=true then 2 else (aF 106 w.text).2:=by
  intro w
  unfold aO
  cases w.quoted<;>simp
 by_cases hl:ws.length≤i + 1
 ·obtain ⟨h1,h2,h3⟩:=iY (line:=line) (width:=width) (q:=false) h hn hl
  refine lW hl ?_
  unfold iQ
  rw [h1,if_neg (by simp)]
  exact h3
 by_cases hq:(aC ws (i + 1)).quoted=true
 ·obtain ⟨h1,h2,h3⟩:=gZ (line:=line) (width:=width) (q:=false) h hn hl (by rw [hq];simp)
  refine cY (e:=2) hl (by rw [hw,if_pos hq]) (by decide) ?_
  unfold iQ
  rw [h1,if_neg (by simp)]
  exact h3
 ·have hk:=k7 (line:=line) (width:=width) (q:=false) h hn hl (by simpa using hq)
  unfold iQ
  rw [hk]
  simp only [if_true]
  obtain ⟨e1,e2⟩:=sR (aC ws (i + 1)).text 106 0 1000 (by decide) (by decide) (fun h=>by rcases h.2 with h | h<;>exact absurd h (by decide)) (iN _ _)
  unfold kF
  rw [e1]
  by_cases h0:(aF 106 (aC ws (i + 1)).text).2=0
  ·refine fX hl (by rw [hw,if_neg hq,h0]) ?_
   rw [if_neg (by omega),e2 h0]
  ·refine cY (e:=(aF 106 (aC ws (i + 1)).text).2) hl (by rw [hw,if_neg hq]) h0 ?_
   rw [if_pos (by omega)]
   exact gJ h0
end
end Go.Proofs.YtaioaojfdngfdaaGreatDoor
namespace Go.Proofs.YtaioaojfdngfdaaGreatDoor
set_option linter.unusedSectionVars false
structure Rel (m:PM) (d:DM):Prop where
 name:m.name=d.name
 dl:m.dl=d.dl
 jm:m.jm=d.jm
 ops:m.ops=d.ops
 uses:m.uses=d.uses
 head:m.head=d.head
 opn:m.opn=d.opn
 t0:d.opn=true→m.t0=d.tm
 t1:d.opn=true→m.t1=d.ef
 lb:∀ k,findD k d.labels=(lbF k m.labels).getD (-1)
 lbp:∀ k v,lbF k m.labels=some v→0≤v
 lbd:∀ p ∈ d.labels,0≤p.2
def Out (m:PM) (d:DM) (line:Int) (x:Nat × Nat):Prop:=if x.2=0 then m.st.bad=0∧Rel m d else Bad m.st line x
theorem out_bad {m:PM} {d:DM} {line:Int} {x:Nat × Nat} (h:Bad m.st line x):Out m d line x:=by unfold Out;rw [if_neg h.2.2.2];exact h
theorem out_ok {m:PM} {d:DM} {line:Int} (h:m.st.bad=0) (hr:Rel m d):Out m d line (0,0):=⟨h,hr⟩
theorem nC:∀ (f:Nat) (L:List UInt8) (i:Nat) (out:List WordM),(aX f L i out).2.2=0→(aX f L i out).1≠[]
 | 0,L,i,out,h=>by unfold aX at h;exact absurd h (Nat.succ_ne_zero _)
 | f + 1,L,i,out,h=>by
  unfold aX at h ⊢
  split at h
  ·exact absurd h (by assumption)
  rename_i h1
  rw [if_neg h1]
  split at h
  ·rename_i h2
   rw [if_pos h2]
   simp
  rename_i h2
  rw [if_neg h2]
  split at h
  ·exact absurd h (Nat.succ_ne_zero _)
  rename_i h3
  rw [if_neg h3]
  exact nC f L _ _ h
theorem l4 {s:List UInt8} (h:(aL s).2.2=0) (hi:idleB s=false):(aL s).1≠[]:=by
 have hl:s.length≠0:=by
  intro e
  unfold idleB at hi
  rw [e] at hi
  simp at hi
 unfold aL at h ⊢
 split at h
 ·exact absurd h (by decide)
 rename_i h1
 rw [if_neg h1,if_neg hl]
 exact nC _ _ _ _ h
section
variable {m:PM}
theorem iO (h:m.st.bad≠0) (how:Int):(cQ m how).st=m.st:=by unfold cQ dN;rw [name_bad h]
theorem mOp_long (h:m.st.bad=0) (h2:200≤m.ops.length) (o:OpM):(mOp m o).st=⟨m.st.nx,m.line,1,4⟩:=by unfold mOp;simp only;rw [if_pos h2,eJ h];rfl
theorem mF (h2:¬ 200≤m.ops.length) (o:OpM):mOp m o={ m with ops:=m.ops++[o] }:=by unfold mOp;rw [if_neg h2]
theorem xZ (h:(mOp m (bA 1)).st.bad≠0):(qE m).st=(mOp m (bA 1)).st:=by unfold qE eH sW;rw [text_bad h]
theorem sX (h:(mOp m cE).st.bad≠0):(jY m).st=(mOp m cE).st:=by unfold jY eH eV;rw [l6 h]
theorem uV (h:(mOp m (bA 4)).st.bad≠0):(mD m).st=(mOp m (bA 4)).st:=by unfold mD eH eV;rw [l6 h]
theorem bY (h:m.st.bad≠0):dA m=m:=by unfold dA;rw [if_neg (fun e=>h e.1)]
end
theorem dX {m:PM} {d d':DM} {line:Int} {width i:Nat} {l:List WordM} (h:m.st.bad=0) (hn:m.st.nx=i + 1) (hl:m.ws=l) (hln:m.line=line) (hr:¬ i + 1 < l.length→Rel m d'):Out (dA m) d' line (cB d l width [] i):=by
 subst hl hln
 unfold dA cB
 rw [hn]
 by_cases hx:i + 1 < m.ws.length
 ·rw [if_pos ⟨h,hx⟩,if_pos hx]
  refine out_bad ?_
  unfold iE
  simp only
  rw [eJ h]
  exact ⟨rfl,rfl,rfl,Nat.succ_ne_zero _⟩
 ·rw [if_neg (fun e=>hx e.2),if_neg hx]
  exact out_ok h (hr hx)
theorem j9 (l:List WordM) (n:Nat) (h1:¬ l.length≤n) (h2:¬ n + 1 < l.length):aC l (l.length - 1)=aC l n:=by
 have:l.length - 1=n:=by omega
 rw [this]
end Go.Proofs.YtaioaojfdngfdaaGreatDoor
namespace Go.Proofs.YtaioaojfdngfdaaGreatDoor
set_option linter.unusedSectionVars false
theorem nH {α:Type} (l:List α) (a b:α):(l++[a]).set ((l++[a]).length - 1) b=l++[b]:=by
 simp [List.set_append]
section
variable {m:PM} {d:DM} {l:List WordM} {width:Nat}
theorem ops_send (h2:¬ 200≤m.ops.length):cL m dO={ m with opn:=false,ops:=m.ops++[{ bA 1 with text:=bs (textS m.line m.width m.ws m.st).1 }],st:=(textS m.line m.width m.ws m.st).2 }:=by
 unfold cL
 rw [if_pos rfl]
 unfold qE eH sW
 rw [mF (m:=dM m) h2]
 simp only [nH]
 rfl
theorem uR (h2:¬ 200≤m.ops.length):cL m bS={ m with opn:=true,t0:=false,t1:=false,ops:=m.ops++[{ cE with n:=(bT m.line m.width m.ws m.st 0 true).1 }],st:=(bT m.line m.width m.ws m.st 0 true).2 }:=by
 unfold cL
 rw [if_neg (by decide),if_pos rfl]
 unfold jY eH eV
 rw [mF (m:=dM m) h2]
 simp only [nH]
 rfl
theorem xR (h2:¬ 200≤m.ops.length):cL m cF={ m with opn:=false,ops:=m.ops++[{ bA 4 with n:=(bT m.line m.width m.ws m.st 0 false).1 }],st:=(bT m.line m.width m.ws m.st 0 false).2 }:=by
 unfold cL
 rw [if_neg (by decide),if_neg (by decide),if_neg (by decide),if_pos rfl]
 unfold mD eH eV
 rw [mF (m:=dM m) h2]
 simp only [nH]
 rfl
theorem ops_goto (h2:¬ 200≤m.ops.length):cL m dJ={ m with opn:=false,ops:=m.ops++[bA 3],st:=(b9 m.line m.width m.ws m.st).2,uses:=m.uses++[⟨(b9 m.line m.width m.ws m.st).1.text,m.line,((b9 m.line m.width m.ws m.st).1.at_:Nat) + 1,(m.ops.length:Nat),-1⟩] }:=by
 unfold cL
 rw [if_neg (by decide),if_neg (by decide),if_pos rfl]
 rw [mF (m:=dM m) h2]
 unfold cQ dN
 simp [dM]
theorem ops_done (h2:¬ 200≤m.ops.length):cL m dQ={ m with opn:=false,ops:=m.ops++[bA 5] }:=by
 unfold cL
 rw [if_neg (by decide),if_neg (by decide),if_neg (by decide),if_neg (by decide),if_pos rfl,mF (m:=dM m) h2]
 rfl
theorem ops_fail (h2:¬ 200≤m.ops.length):cL m dP={ m with opn:=false,ops:=m.ops++[bA 6] }:=by
 unfold cL
 rw [if_neg (by decide),if_neg (by decide),if_neg (by decide),if_neg (by decide),if_neg (by decide),if_pos rfl,mF (m:=dM m) h2]
 rfl
theorem xU:cL m bG=rF (dM m):=by
 unfold cL
 rw [if_neg (by decide),if_neg (by decide),if_neg (by decide),if_neg (by decide),if_neg (by decide),if_neg (by decide),if_pos rfl]
theorem ops_long (h:m.st.bad=0) (h2:200≤m.ops.length) (t:List UInt8) (ht:dY t=true) (hl:t≠bG):(cL m t).st=⟨m.st.nx,m.line,1,4⟩:=by
 have hs:∀ o,(mOp (dM m) o).st=⟨m.st.nx,m.line,1,4⟩:=fun o=>mOp_long (m:=dM m) h h2 o
 have hb:∀ o,(mOp (dM m) o).st.bad≠0:=fun o=>by rw [hs];show (4:Int)≠0;decide
 unfold dY at ht
 simp only [Bool.or_eq_true,decide_eq_true_eq] at ht
 rcases ht with rfl | rfl | rfl | rfl | rfl | rfl | rfl
 ·unfold cL
  rw [if_pos rfl,xZ (hb _),hs]
 ·unfold cL
  rw [if_neg (by decide),if_pos rfl,sX (hb _),hs]
 ·unfold cL
  rw [if_neg (by decide),if_neg (by decide),if_pos rfl,iO (hb _),hs]
 ·unfold cL
  rw [if_neg (by decide),if_neg (by decide),if_neg (by decide),if_pos rfl,uV (hb _),hs]
 ·unfold cL
  rw [if_neg (by decide),if_neg (by decide),if_neg (by decide),if_neg (by decide),if_pos rfl,hs]
 ·unfold cL
  rw [if_neg (by decide),if_neg (by decide),if_neg (by decide),if_neg (by decide),if_neg (by decide),if_pos rfl,hs]
 ·exact absurd rfl hl
theorem send_out (hr:Rel m d) (h0:m.st.bad=0) (hn:m.st.nx=1) (hw:m.ws=l) (hwd:m.width=(width:Nat)) (ht:(aC l 0).text=dO) (h2:¬ 200≤m.ops.length):Out (dA (cL m dO)) (takeD d l m.line) m.line (cB d l width [113] 0):=by
 have a:=text_arg (s:=m.st) (line:=m.line) (ws:=l) (width:=width) (i:=0) h0 hn
 rw [ops_send h2,hw,hwd,cX]
 unfold Arg at a
 generalize textS m.line width l m.st=r at a ⊢
 generalize fM l width 113 0=o at a ⊢
 cases o with
 | some x =>
  simp only at a ⊢
  refine out_bad ?_
  rw [bY (Bad.ne (line:=m.line) (x:=x) a)]
  exact a
 | none =>
  simp only at a ⊢
  subst a
  rw [ht,if_neg (fun h=>absurd h.1 (by decide))]
  refine dX rfl rfl rfl rfl (fun hx=>?_)
  have e:takeD d l m.line={ d with ops:=d.ops++[{ bA 1 with text:=bs (aC l 1).text }],opn:=false,tm:=false,ef:=false }:=by
   unfold takeD dOp cD eU
   rw [ht]
   rfl
  rw [e]
  exact ⟨hr.name,hr.dl,hr.jm,by show _++_=_++_;rw [hr.ops],hr.uses,hr.head,rfl,fun h=>absurd h (by simp),fun h=>absurd h (by simp),hr.lb,hr.lbp,hr.lbd⟩
theorem vB (hr:Rel m d) (h0:m.st.bad=0) (hn:m.st.nx=1) (hw:m.ws=l) (hwd:m.width=(width:Nat)) (ht:(aC l 0).text=bS) (h2:¬ 200≤m.ops.length):Out (dA (cL m bS)) (takeD d l m.line) m.line (cB d l width [101] 0):=by
 have a:=l7 (s:=m.st) (line:=m.line) (ws:=l) (width:=width) (i:=0) 101 0 true (Or.inr (Or.inl ⟨rfl,rfl,rfl⟩)) h0 hn
 rw [uR h2,hw,hwd,cX]
 unfold Arg at a
 generalize bT m.line width l m.st 0 true=r at a ⊢
 generalize fM l width 101 0=o at a ⊢
 cases o with
 | some x =>
  simp only at a ⊢
  refine out_bad ?_
  rw [bY (Bad.ne (line:=m.line) (x:=x) a)]
  exact a
 | none =>
  simp only at a ⊢
  subst a
  rw [ht,if_neg (fun h=>absurd h.1 (by decide))]
  refine dX rfl rfl rfl rfl (fun hx=>?_)
  have e:takeD d l m.line={ d with ops:=d.ops++[{ cE with n:=(aF 101 (aC l 1).text).1 }],opn:=true,tm:=false,ef:=false }:=by
   unfold takeD dOp cD eU
   rw [ht]
   rfl
  rw [e]
  exact ⟨hr.name,hr.dl,hr.jm,by show _++_=_++_;rw [hr.ops],hr.uses,hr.head,rfl,fun h=>rfl,fun h=>rfl,hr.lb,hr.lbp,hr.lbd⟩
theorem xN (hr:Rel m d) (h0:m.st.bad=0) (hn:m.st.nx=1) (hw:m.ws=l) (hwd:m.width=(width:Nat)) (ht:(aC l 0).text=cF) (h2:¬ 200≤m.ops.length):Out (dA (cL m cF)) (takeD d l m.line) m.line (cB d l width [116] 0):=by
 have a:=l7 (s:=m.st) (line:=m.line) (ws:=l) (width:=width) (i:=0) 116 0 false (Or.inr (Or.inr ⟨rfl,rfl,rfl⟩)) h0 hn
 rw [xR h2,hw,hwd,cX]
 unfold Arg at a
 generalize bT m.line width l m.st 0 false=r at a ⊢
 generalize fM l width 116 0=o at a ⊢
 cases o with
 | some x =>
  simp only at a ⊢
  refine out_bad ?_
  rw [bY (Bad.ne (line:=m.line) (x:=x) a)]
  exact a
 | none =>
  simp only at a ⊢
  subst a
  rw [ht,if_neg (fun h=>absurd h.1 (by decide))]
  refine dX rfl rfl rfl rfl (fun hx=>?_)
  have e:takeD d l m.line={ d with ops:=d.ops++[{ bA 4 with n:=(aF 116 (aC l 1).text).1 }],opn:=false,tm:=false,ef:=false }:=by
   unfold takeD dOp cD eU
   rw [ht]
   rfl
  rw [e]
  exact ⟨hr.name,hr.dl,hr.jm,by show _++_=_++_;rw [hr.ops],hr.uses,hr.head,rfl,fun h=>absurd h (by simp),fun h=>absurd h (by simp),hr.lb,hr.lbp,hr.lbd⟩
theorem goto_out (hr:Rel m d) (h0:m.st.bad=0) (hn:m.st.nx=1) (hw:m.ws=l) (hwd:m.width=(width:Nat)) (ht:(aC l 0).text=dJ) (h2:¬ 200≤m.ops.length):Out (dA (cL m dJ)) (takeD d l m.line) m.line (cB d l width [108] 0):=by
 have a:=iD (s:=m.st) (line:=m.line) (ws:=l) (width:=width) (i:=0) 108 (Or.inr rfl) h0 hn
 have hle:l.length≤1→fM l width 108 0=some (width,3):=fun h=>by unfold fM;rw [if_pos h]
 rw [ops_goto h2,hw,hwd,cX]
 unfold Arg at a
 generalize b9 m.line width l m.st=r at a ⊢
 generalize fM l width 108 0=o at a hle ⊢
 cases o with
 | some x =>
  simp only at a ⊢
  refine out_bad ?_
  rw [bY (Bad.ne (line:=m.line) (x:=x) a)]
  exact a
 | none =>
  simp only at a ⊢
  subst a
  rw [ht,if_neg (fun h=>absurd h.1 (by decide))]
  refine dX rfl rfl rfl rfl (fun hx=>?_)
  have e:takeD d l m.line={ d with ops:=d.ops++[bA 3],opn:=false,tm:=false,ef:=false,uses:=d.uses++[⟨(aC l (l.length - 1)).text,m.line,((aC l (l.length - 1)).at_:Nat) + 1,((d.ops++[bA 3]).length:Nat) - 1,-1⟩] }:=by
   unfold takeD dOp cD eU
   rw [ht]
   rfl
  rw [e,j9 l 1 (fun h=>by have:=hle h;cases this) hx]
  refine ⟨hr.name,hr.dl,hr.jm,by show _++_=_++_;rw [hr.ops],?_,hr.head,rfl,fun h=>absurd h (by simp),fun h=>absurd h (by simp),hr.lb,hr.lbp,hr.lbd⟩
  show m.uses++_=d.uses++_
  rw [hr.uses,hr.ops]
  simp
theorem done_out (hr:Rel m d) (h0:m.st.bad=0) (hn:m.st.nx=1) (hw:m.ws=l) (ht:(aC l 0).text=dQ) (h2:¬ 200≤m.ops.length):Out (dA (cL m dQ)) (takeD d l m.line) m.line (cB d l width [] 0):=by
 rw [ops_done h2]
 refine dX h0 hn hw rfl (fun hx=>?_)
 have e:takeD d l m.line={ d with ops:=d.ops++[bA 5],opn:=false,tm:=false,ef:=false }:=by
  unfold takeD dOp cD eU
  rw [ht]
  rfl
 rw [e]
 exact ⟨hr.name,hr.dl,hr.jm,by show _++_=_++_;rw [hr.ops],hr.uses,hr.head,rfl,fun h=>absurd h (by simp),fun h=>absurd h (by simp),hr.lb,hr.lbp,hr.lbd⟩
theorem fail_out (hr:Rel m d) (h0:m.st.bad=0) (hn:m.st.nx=1) (hw:m.ws=l) (ht:(aC l 0).text=dP) (h2:¬ 200≤m.ops.length):Out (dA (cL m dP)) (takeD d l m.line) m.line (cB d l width [] 0):=by
 rw [ops_fail h2]
 refine dX h0 hn hw rfl (fun hx=>?_)
 have e:takeD d l m.line={ d with ops:=d.ops++[bA 6],opn:=false,tm:=false,ef:=false }:=by
  unfold takeD dOp cD eU
  rw [ht]
  rfl
 rw [e]
 exact ⟨hr.name,hr.dl,hr.jm,by show _++_=_++_;rw [hr.ops],hr.uses,hr.head,rfl,fun h=>absurd h (by simp),fun h=>absurd h (by simp),hr.lb,hr.lbp,hr.lbd⟩
theorem oM (k n:List UInt8) (v:Int):∀ ls:List (List UInt8 × Int),(∀ p ∈ ls,0≤p.2)→findD k (ls++[(n,v)])=if 0≤findD k ls then findD k ls else if n=k then v else -1
 | [],_=>by simp [findD]
 | (a,b) :: r,h=>by
  show (if a=k then b else findD k (r++[(n,v)]))=_
  rw [show findD k ((a,b) :: r)=if a=k then b else findD k r from rfl]
  by_cases hk:a=k
  ·have:=h (a,b) (by simp)
   rw [if_pos hk,if_pos hk,if_pos this]
  ·rw [if_neg hk,if_neg hk,oM k n v r (fun p hp=>h p (by simp [hp]))]
end
end Go.Proofs.YtaioaojfdngfdaaGreatDoor
