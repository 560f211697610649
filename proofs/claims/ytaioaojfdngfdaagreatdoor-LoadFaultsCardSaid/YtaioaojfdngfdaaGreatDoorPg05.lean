/- Parts of a chain of lemmas: NumP, WordP, ParP, LineP, ParM, DocP. Conditions: those of each theorem. -/
import Derived.Test.YtaioaojfdngfdaaGreatDoorPg04
import Derived.Lib.ParseIntB
import Derived.Test.YtaioaojfdngfdaaGreatDoorPg03
set_option linter.unusedVariables false
set_option linter.unusedSimpArgs false
namespace Go.Proofs.YtaioaojfdngfdaaGreatDoor
def dC (b:UInt8):Bool:=decide (48≤b.toNat) && decide (b.toNat≤57)
def bB:Nat→List UInt8→Nat
 | n,[]=>n
 | n,c :: r=>bB (10 * n + (c.toNat - 48)) r
def cK:List UInt8:=[110,101,118,101,114]
def cZ (L:List UInt8):Int × Nat :=
 if L=cK then (9223372036854775807,0)
 else if L.length=0∨(1 < L.length∧atB L 0=48) then (0,2)
 else if L.all dC=false then (0,2)
 else if 9223372036854775807≤bB 0 L then (0,12)
 else ((bB 0 L:Nat),0)
def bK (L:List UInt8) (most:Int):Int × Nat :=
 if (cZ L).2=0∧most≠9223372036854775807∧most < (cZ L).1 then (0,12) else cZ L
theorem nF:∀ (r:List UInt8) (n:Nat),n≤bB n r
 | [],n=>Nat.le_refl _
 | c :: r,n=>by
  have:=nF r (10 * n + (c.toNat - 48))
  unfold bB
  omega
theorem lC:∀ (X:List UInt8) (n:Nat) (c:UInt8),bB n (X++[c])=10 * bB n X + (c.toNat - 48)
 | [],n,c=>rfl
 | a :: r,n,c=>by
  show bB (10 * n + (a.toNat - 48)) (r++[c])=_
  rw [lC r]
  rfl
theorem qT (L:List UInt8) (k:Nat) (h:k < L.length):bB 0 (L.take (k + 1))=10 * bB 0 (L.take k) + ((atB L k).toNat - 48):=by
 have e:L[k]=atB L k:=by unfold atB;simp [List.getD,h]
 rw [List.take_succ_eq_append_getElem h,lC,e]
theorem pS:∀ (r:List UInt8) (acc:Nat),r.all dC=true→acc≤18446744073709551615→Lib.parseUintM 18446744073709551615 acc r=if bB acc r≤18446744073709551615 then .ok (bB acc r) else .range
 | [],acc,_,h=>by unfold Lib.parseUintM bB;rw [if_pos h]
 | c :: r,acc,h,ha=>by
  rw [List.all_cons,Bool.and_eq_true] at h
  obtain ⟨h1,h2⟩:=h
  unfold dC at h1
  simp only [Bool.and_eq_true,decide_eq_true_eq] at h1
  have hge:=nF r (10 * acc + (c.toNat - 48))
  unfold Lib.parseUintM bB
  rw [if_pos h1]
  split
  ·rw [if_neg (by omega)]
  split
  ·rw [if_neg (by omega)]
  ·rw [pS r _ h2 (by omega),show acc * 10 + (c.toNat - 48)=10 * acc + (c.toNat - 48) by omega]
theorem intB_val (L:List UInt8) (h:L.all dC=true) (h0:L≠[]):Lib.parseIntB 64 L=if bB 0 L < 9223372036854775808 then .ok ((bB 0 L:Nat):Int) else .range:=by
 cases L with
 | nil=>exact absurd rfl h0
 | cons c r =>
  have hc:=h
  rw [List.all_cons,Bool.and_eq_true] at hc
  have h1:=hc.1
  unfold dC at h1
  simp only [Bool.and_eq_true,decide_eq_true_eq] at h1
  have e1:(c.toNat=43)=False:=by simp;omega
  have e2:(c.toNat=45)=False:=by simp;omega
  unfold Lib.parseIntB
  simp only [e1,e2,or_self,if_false,false_and,not_false_eq_true,true_and]
  unfold Lib.parseUintB
  rw [if_neg h0,show (2:Nat) ^ 64 - 1=18446744073709551615 from rfl,pS _ 0 h (by omega)]
  by_cases hv:bB 0 (c :: r)≤18446744073709551615
  ·rw [if_pos hv]
   simp only [show (2:Nat) ^ (64 - 1)=9223372036854775808 from rfl]
   by_cases hw:bB 0 (c :: r) < 9223372036854775808
   ·rw [if_pos hw,if_neg (by omega)]
   ·rw [if_neg hw,if_pos (by omega)]
  ·rw [if_neg hv,if_neg (by omega)]
end Go.Proofs.YtaioaojfdngfdaaGreatDoor
namespace Go.Proofs.YtaioaojfdngfdaaGreatDoor
def cV (b:UInt8):Bool:=decide (33≤b.toNat) && (decide (b.toNat≤126) && (decide (b≠34) && decide (b≠92)))
def eB (L:List UInt8):Nat:=(L.takeWhile cV).length
structure WordM where
 text:List UInt8
 quoted:Bool
 at_:Nat
def wordAt (L:List UInt8) (i:Nat):WordM × Nat × Nat :=
 if i < L.length∧atB L i=34 then (⟨(bR (L.drop i)).1,true,i⟩,(bR (L.drop i)).2.1,(bR (L.drop i)).2.2)
 else if eB (L.drop i)=0 then (⟨[],false,i⟩,0,if i=L.length then 3 else 2)
 else (⟨(L.drop i).take (eB (L.drop i)),false,i⟩,eB (L.drop i),0)
def aX:Nat→List UInt8→Nat→List WordM→List WordM × Nat × Nat
 | 0,L,i,out=>([],i,2)
 | f + 1,L,i,out=>if (wordAt L i).2.2≠0 then ([],i + (wordAt L i).2.1,(wordAt L i).2.2)
  else if i + (wordAt L i).2.1=L.length then (out++[(wordAt L i).1],0,0)
  else if atB L (i + (wordAt L i).2.1)≠32 then ([],i + (wordAt L i).2.1,2)
  else aX f L (i + (wordAt L i).2.1 + 1) (out++[(wordAt L i).1])
def aL (L:List UInt8):List WordM × Nat × Nat:=if 1200 < L.length then ([],1200,4) else if L.length=0 then ([],0,0) else aX (L.length + 1) L 0 []
theorem bareN_le (L:List UInt8):eB L≤L.length:=by
 unfold eB
 exact (List.takeWhile_prefix cV).length_le
theorem oW:∀ (L:List UInt8) (k:Nat),k≤L.length→(∀ j,j < k→cV (atB L j)=true)→(k < L.length→cV (atB L k)=false)→eB L=k
 | [],k,hk,_,_=>by simp at hk;subst hk;rfl
 | b :: r,0,_,_,h=>by
  have h1:cV b=false:=h (by simp)
  unfold eB
  rw [List.takeWhile_cons,if_neg (by rw [h1];simp)]
  rfl
 | b :: r,k + 1,hk,h,h2=>by
  have h1:cV b=true:=h 0 (by omega)
  have h3:=oW r k (by simpa using hk) (fun j hj=>h (j + 1) (by omega)) (fun hj=>h2 (by simpa using hj))
  unfold eB at h3 ⊢
  rw [List.takeWhile_cons,if_pos h1,List.length_cons,h3]
theorem jS (L:List UInt8) (i:Nat) (h:i≤L.length):i + (wordAt L i).2.1≤L.length:=by
 unfold wordAt
 split
 ·have:=(nR (L.drop i)).2
  rw [List.length_drop] at this
  show i + (bR (L.drop i)).2.1≤_
  omega
 split
 ·simpa using h
 ·have:=bareN_le (L.drop i)
  rw [List.length_drop] at this
  show i + eB (L.drop i)≤_
  omega
theorem tW (L:List UInt8) (i:Nat):(wordAt L i).1.text.length≤L.length:=by
 unfold wordAt
 split
 ·have:=(nR (L.drop i)).1
  rw [List.length_drop] at this
  show (bR (L.drop i)).1.length≤_
  omega
 split
 ·simp
 ·show ((L.drop i).take _).length≤_
  rw [List.length_take,List.length_drop];omega
end Go.Proofs.YtaioaojfdngfdaaGreatDoor
namespace Go.Proofs.YtaioaojfdngfdaaGreatDoor
structure UseM where
 name:List UInt8
 line:Int
 col:Int
 op:Int
 how:Int
def lbF (k:List UInt8):List (List UInt8 × Int)→Option Int
 | []=>none
 | (n,v) :: r=>if n=k then some v else lbF k r
structure St where
 nx:Nat
 sl:Int
 sc:Int
 bad:Int
def w0:WordM:=⟨[],false,0⟩
def aC (ws:List WordM) (k:Nat):WordM:=ws.getD k w0
theorem lZ {l:List WordM} {k:Nat} (hk:k < l.length):l[k]?=some (aC l k):=by simp [aC,List.getD,hk]
theorem eC {l:List WordM} {k:Nat} (hk:k < l.length):aC l k ∈ l:=List.mem_of_getElem? (lZ hk)
def bE (line:Int) (s:St) (col e:Int):St:=if s.bad=0 then ⟨s.nx,line,col + 1,e⟩ else s
def aJ (line width:Int) (ws:List WordM) (s:St) (q:Bool):(WordM × Bool) × St :=
 if s.bad≠0 then ((w0,false),s)
 else if ws.length≤s.nx then ((w0,false),⟨s.nx,line,width + 1,3⟩)
 else if (aC ws s.nx).quoted≠q then ((aC ws s.nx,false),⟨s.nx + 1,line,(aC ws s.nx).at_ + 1,2⟩)
 else ((aC ws s.nx,true),⟨s.nx + 1,s.sl,s.sc,s.bad⟩)
def b9 (line width:Int) (ws:List WordM) (s:St):WordM × St :=
 ((aJ line width ws s false).1.1,if (aJ line width ws s false).1.2=true∧eE (aJ line width ws s false).1.1.text=false then bE line (aJ line width ws s false).2 (aJ line width ws s false).1.1.at_ 10 else (aJ line width ws s false).2)
def sS (t:List UInt8) (least most:Int):Int:=if (bK t most).2=0∧(bK t most).1 < least then 12 else (bK t most).2
def kF (line:Int) (s:St) (x:WordM) (least most:Int):Int × St :=
 ((bK x.text most).1,if sS x.text least most≠0 then bE line s x.at_ (sS x.text least most) else s)
def bT (line width:Int) (ws:List WordM) (s:St) (least:Int) (ever:Bool):Int × St :=
 if (aJ line width ws s false).1.2=false then (0,(aJ line width ws s false).2)
 else if ever=true∧(aJ line width ws s false).1.1.text=cK then (9223372036854775807,(aJ line width ws s false).2)
 else kF line (aJ line width ws s false).2 (aJ line width ws s false).1.1 least 1000000000000
def textE (ok:Bool) (t:List UInt8):Int:=if ok=false then 0 else if t.length=0 then 9 else if 256 < t.length then 4 else 0
def textS (line width:Int) (ws:List WordM) (s:St):List UInt8 × St :=
 ((aJ line width ws s true).1.1.text,if textE (aJ line width ws s true).1.2 (aJ line width ws s true).1.1.text≠0 then bE line (aJ line width ws s true).2 (aJ line width ws s true).1.1.at_ (textE (aJ line width ws s true).1.2 (aJ line width ws s true).1.1.text) else (aJ line width ws s true).2)
def cP (line width:Int) (ws:List WordM) (s:St):List UInt8 × St :=
 if (aJ line width ws s true).1.2=false then ([],(aJ line width ws s true).2)
 else if 64 < (aJ line width ws s true).1.1.text.length then ([],bE line (aJ line width ws s true).2 (aJ line width ws s true).1.1.at_ 4)
 else ((aJ line width ws s true).1.1.text,if (bV (aJ line width ws s true).1.1.text).2≠0 then bE line (aJ line width ws s true).2 (aJ line width ws s true).1.1.at_ (bV (aJ line width ws s true).1.1.text).2 else (aJ line width ws s true).2)
end Go.Proofs.YtaioaojfdngfdaaGreatDoor
namespace Go.Proofs.YtaioaojfdngfdaaGreatDoor
def aV:List UInt8→List UInt8→List (List UInt8)
 | [],cur=>[cur]
 | c :: r,cur=>if c=10 then cur :: aV r [] else aV r (cur++[c])
def bI (L:List UInt8):List (List UInt8):=aV L []
def idleB (L:List UInt8):Bool:=decide (L.length=0) || decide (atB L 0=35)
theorem uZ (L:List UInt8) (i:Nat) (cur:List UInt8) (h:i < L.length):aV (L.drop i) cur=if atB L i=10 then cur :: aV (L.drop (i + 1)) [] else aV (L.drop (i + 1)) (cur++[atB L i]):=by
 rw [List.drop_eq_getElem_cons h]
 have e:L[i]=atB L i:=by unfold atB;simp [List.getD,h]
 rw [e]
 rfl
theorem cut_succ (L:List UInt8) (a i:Nat) (h:a≤i) (h2:i < L.length):(L.drop a).take (i + 1 - a)=(L.drop a).take (i - a)++[atB L i]:=by
 have e:i + 1 - a=(i - a) + 1:=by omega
 have hl:i - a < (L.drop a).length:=by rw [List.length_drop];omega
 rw [e,List.take_succ_eq_append_getElem hl]
 congr 2
 unfold atB
 rw [List.getElem_drop]
 simp [List.getD,h2,show a + (i - a)=i by omega]
theorem eP (r:List UInt8):∀ cur,(aV r cur).length≤r.length + 1:=by
 induction r with
 | nil=>intro cur;simp [aV]
 | cons c r ih =>
  intro cur
  unfold aV
  split
  ·have:=ih [];simp;omega
  ·have:=ih (cur++[c]);simp;omega
end Go.Proofs.YtaioaojfdngfdaaGreatDoor
namespace Go.Proofs.YtaioaojfdngfdaaGreatDoor
structure PM where
 name:ByteArray
 dl:Int
 jm:Int
 ops:List OpM
 labels:List (List UInt8 × Int)
 uses:List UseM
 head:Bool
 opn:Bool
 t0:Bool
 t1:Bool
 line:Int
 ws:List WordM
 width:Int
 st:St
def aH:List UInt8:=[115,99,114,105,112,116]
def dO:List UInt8:=[115,101,110,100]
def bS:List UInt8:=[101,120,112,101,99,116]
def kOn:List UInt8:=[111,110]
def aQ:List UInt8:=[116,105,109,101,111,117,116]
def dK:List UInt8:=[101,111,102]
def dJ:List UInt8:=[103,111,116,111]
def cF:List UInt8:=[112,97,117,115,101]
def dQ:List UInt8:=[100,111,110,101]
def dP:List UInt8:=[102,97,105,108]
def bG:List UInt8:=[108,97,98,101,108]
def bN (t:List UInt8):Bool:=decide (t=kOn) || (decide (t=aQ) || decide (t=dK))
def dY (t:List UInt8):Bool:=decide (t=dO) || (decide (t=bS) || (decide (t=dJ) || (decide (t=cF) || (decide (t=dQ) || (decide (t=dP) || decide (t=bG))))))
def iE (m:PM) (col e:Int):PM:={ m with st:=bE m.line m.st col e }
def dN (m:PM):WordM × St:=b9 m.line m.width m.ws m.st
def eV (m:PM) (least:Int) (ever:Bool):Int × St:=bT m.line m.width m.ws m.st least ever
def sW (m:PM):List UInt8 × St:=textS m.line m.width m.ws m.st
def mPat (m:PM):List UInt8 × St:=cP m.line m.width m.ws m.st
def cQ (m:PM) (how:Int):PM:={ m with st:=(dN m).2,uses:=m.uses++[⟨(dN m).1.text,m.line,((dN m).1.at_:Nat) + 1,(m.ops.length:Nat) - 1,how⟩] }
def mOp (m:PM) (o:OpM):PM:={ m with ops:=m.ops++[o],st:=if 200≤m.ops.length then bE m.line m.st 0 4 else m.st }
def bA (k:Int):OpM:=⟨k,⟨#[]⟩,0,0,[],0,0⟩
def eH (m:PM) (o:OpM) (s:St):PM:={ m with ops:=m.ops.set (m.ops.length - 1) o,st:=s }
def uW (m:PM):PM:={ m with head:=true,name:=bs (dN m).1.text,st:=(dN m).2 }
def mDl (m:PM):PM:={ m with dl:=(eV m 1 true).1,st:=(eV m 1 true).2 }
def rG (m:PM):PM:=if (aJ m.line m.width m.ws m.st false).1.2=true then { m with jm:=(kF m.line (aJ m.line m.width m.ws m.st false).2 (aJ m.line m.width m.ws m.st false).1.1 0 1000).1,st:=(kF m.line (aJ m.line m.width m.ws m.st false).2 (aJ m.line m.width m.ws m.st false).1.1 0 1000).2 } else { m with st:=(aJ m.line m.width m.ws m.st false).2 }
def gW (m:PM):PM:=rG (mDl (uW m))
def op0:OpM:=bA 0
def eZ (m:PM):OpM:=m.ops.getD (m.ops.length - 1) op0
def bQ (o:OpM) (t:List UInt8):OpM:={ o with arms:=o.arms++[⟨bs t,0⟩] }
def mOn (m:PM):PM:=cQ (eH m (bQ (eZ m) (mPat m).1) (mPat m).2) (eZ m).arms.length
def xY (m:PM):PM:={ m with t0:=true,st:=if m.t0=true then bE m.line m.st 0 6 else m.st }
def xX (m:PM):PM:={ m with t1:=true,st:=if m.t1=true then bE m.line m.st 0 6 else m.st }
def dE (m:PM) (t:List UInt8):PM :=
 if m.opn=false then iE m 0 8
 else if t=kOn then (if 8≤(eZ m).arms.length then iE m 0 4 else mOn m)
 else if t=dK then cQ (xX m) (-3) else cQ (xY m) (-2)
def dM (m:PM):PM:={ m with opn:=false }
def qE (m:PM):PM:=eH (mOp m (bA 1)) { bA 1 with text:=bs (sW (mOp m (bA 1))).1 } (sW (mOp m (bA 1))).2
def cE:OpM:={ bA 2 with onT:=-1,onE:=-1 }
def jY (m:PM):PM:={ eH (mOp m cE) { cE with n:=(eV (mOp m cE) 0 true).1 } (eV (mOp m cE) 0 true).2 with opn:=true,t0:=false,t1:=false }
def mD (m:PM):PM:=eH (mOp m (bA 4)) { bA 4 with n:=(eV (mOp m (bA 4)) 0 false).1 } (eV (mOp m (bA 4)) 0 false).2
def rF (m:PM):PM:={ m with labels:=((dN m).1.text,((m.ops.length:Nat):Int)) :: m.labels,st:=if (lbF (dN m).1.text m.labels).isSome=true then bE m.line (dN m).2 (dN m).1.at_ 6 else (dN m).2 }
def cL (m:PM) (t:List UInt8):PM :=
 if t=dO then qE (dM m) else if t=bS then jY (dM m) else if t=dJ then cQ (mOp (dM m) (bA 3)) (-1) else if t=cF then mD (dM m)
 else if t=dQ then mOp (dM m) (bA 5) else if t=dP then mOp (dM m) (bA 6) else if t=bG then rF (dM m) else dM m
def iT (m:PM):PM:={ m with st:=⟨m.st.nx + 1,m.st.sl,m.st.sc,m.st.bad⟩ }
def qX (m:PM):WordM:=aC m.ws m.st.nx
def jM (m:PM):Bool:=!(qX m).quoted && (if (qX m).text=aH then !m.head else if (bN (qX m).text || dY (qX m).text)=true then m.head else false)
def dI (m:PM) (t:List UInt8):PM:=if t=aH then gW m else if bN t=true then dE m t else cL m t
def dA (m:PM):PM:=if m.st.bad=0∧m.st.nx < m.ws.length then iE m (aC m.ws m.st.nx).at_ 2 else m
def lP (m:PM):PM:=if jM m=false then iE (iT m) 0 11 else dA (dI (iT m) (qX m).text)
def gA (m:PM) (i:Nat) (s:List UInt8):PM:={ m with line:=(i:Nat) + 1,ws:=(aL s).1,width:=s.length,st:=⟨0,m.st.sl,m.st.sc,m.st.bad⟩ }
def iV (m:PM) (i:Nat) (s:List UInt8):PM:=if idleB s=true then m else if (aL s).2.2≠0 then iE (gA m i s) (aL s).2.1 (aL s).2.2 else lP (gA m i s)
def mGo (l:List (List UInt8)):Nat→Nat→PM→PM
 | 0,_,m=>m
 | f + 1,i,m=>if m.st.bad≠0 then m else mGo l f (i + 1) (iV m i (l.getD i []))
def m0:PM:=⟨⟨#[]⟩,0,0,[],[],[],false,false,false,false,0,[],0,⟨0,0,0,0⟩⟩
def eX (ops:List OpM) (u:UseM) (to_:Int):List OpM :=
 ops.set u.op.toNat (if u.how = -1 then { ops.getD u.op.toNat op0 with «to»:=to_ } else if u.how = -2 then { ops.getD u.op.toNat op0 with onT:=to_ } else if u.how = -3 then { ops.getD u.op.toNat op0 with onE:=to_ }
  else { ops.getD u.op.toNat op0 with arms:=(ops.getD u.op.toNat op0).arms.set u.how.toNat ⟨((ops.getD u.op.toNat op0).arms.getD u.how.toNat ⟨⟨#[]⟩,0⟩).pat,to_⟩ })
def jJ (ls:List (List UInt8 × Int)):List UseM→List OpM→List OpM × Option UseM
 | [],ops=>(ops,none)
 | u :: r,ops=>match lbF u.name ls with
  | none=>(ops,some u)
  | some t=>jJ ls r (eX ops u t)
def cI:ProgM:=⟨⟨#[]⟩,0,0,[]⟩
def kU (m:PM):ProgM × (Int × Int) × Int :=
 if m.st.bad≠0 then (cI,(m.st.sl,m.st.sc),m.st.bad)
 else if m.head=false then (cI,(1,1),3)
 else match jJ m.labels m.uses m.ops with
  | (ops,none)=>(⟨m.name,m.dl,m.jm,ops⟩,(0,0),0)
  | (ops,some u)=>(cI,(u.line,u.col),13)
def dH (s:List UInt8):ProgM × (Int × Int) × Int:=kU (mGo (bI s) (bI s).length 0 m0)
end Go.Proofs.YtaioaojfdngfdaaGreatDoor
namespace Go.Proofs.YtaioaojfdngfdaaGreatDoor
structure DM where
 name:ByteArray
 dl:Int
 jm:Int
 ops:List OpM
 labels:List (List UInt8 × Int)
 uses:List UseM
 head:Bool
 opn:Bool
 tm:Bool
 ef:Bool
def findD (k:List UInt8):List (List UInt8 × Int)→Int
 | []=>-1
 | (n,v) :: r=>if n=k then v else findD k r
def mS (t:List UInt8):List (List UInt8 × List UInt8)→List UInt8 × Bool
 | []=>([],false)
 | (k,s) :: r=>if k=t then (s,true) else mS t r
def fQ:List (List UInt8 × List UInt8):=[(aH,[110,100,106]),(dO,[113]),(bS,[101]),(kOn,[112,108]),(aQ,[108]),(dK,[108]),(dJ,[108]),(cF,[116]),(dQ,[]),(dP,[]),(bG,[110])]
def bZ (t:List UInt8):List UInt8 × Bool:=mS t fQ
def aF (k:UInt8) (t:List UInt8):Int × Nat :=
 if t=cK∧(k=100∨k=101) then (9223372036854775807,0)
 else if (bK t (if k=106 then 1000 else 1000000000000)).2=0∧k=100∧(bK t (if k=106 then 1000 else 1000000000000)).1=0 then (0,12)
 else bK t (if k=106 then 1000 else 1000000000000)
def aO (k:UInt8) (w:WordM):Nat :=
 if w.quoted≠(decide (k=113) || decide (k=112)) then 2
 else if (k=110∨k=108)∧eE w.text=false then 10
 else if k=113∧w.text.length=0 then 9
 else if (k=113∧256 < w.text.length)∨(k=112∧64 < w.text.length) then 4
 else if k=112 then (bV w.text).2
 else if k=100∨k=101∨k=116∨k=106 then (aF k w.text).2
 else 0
def lastD (d:DM):OpM:=d.ops.getD (d.ops.length - 1) op0
def cH (d:DM) (w:WordM):Nat :=
 if w.quoted=true∨(bZ w.text).2=false∨decide (w.text=aH)=d.head then 11
 else if bN w.text=true then
  (if d.opn=false then 8 else if w.text=kOn∧7 < (lastD d).arms.length then 4 else if (w.text=aQ∧d.tm=true)∨(w.text=dK∧d.ef=true) then 6 else 0)
 else if w.text≠aH∧w.text≠bG∧199 < d.ops.length then 4 else 0
def kT (t:List UInt8):List (List UInt8)→Nat→Nat
 | [],_=>0
 | k :: r,i=>if k=t then i + 1 else kT t r (i + 1)
def eI (t:List UInt8):Nat:=kT t [dO,bS,dJ,cF,dQ,dP] 0
def eU (l:List WordM):OpM :=
 ⟨(eI (aC l 0).text:Nat),if eI (aC l 0).text=1 then bs (aC l 1).text else ⟨#[]⟩,if eI (aC l 0).text=2 then (aF 101 (aC l 1).text).1 else if eI (aC l 0).text=4 then (aF 116 (aC l 1).text).1 else 0,0,[],
  if eI (aC l 0).text=2 then -1 else 0,if eI (aC l 0).text=2 then -1 else 0⟩
def dOp (d:DM) (l:List WordM):DM:=if 0 < eI (aC l 0).text then { d with ops:=d.ops++[eU l],opn:=decide (eI (aC l 0).text=2),tm:=false,ef:=false } else d
def tX (d:DM) (l:List WordM) (line how:Int):DM:={ d with uses:=d.uses++[⟨(aC l (l.length - 1)).text,line,((aC l (l.length - 1)).at_:Nat) + 1,(d.ops.length:Nat) - 1,how⟩] }
def cD (d:DM) (l:List WordM) (line:Int):DM :=
 if (aC l 0).text=aH then { d with head:=true,name:=bs (aC l 1).text,dl:=(aF 100 (aC l 2).text).1,jm:=(aF 106 (aC l 3).text).1 }
 else if (aC l 0).text=bG then { d with labels:=d.labels++[((aC l 1).text,((d.ops.length:Nat):Int))],opn:=false }
 else if (aC l 0).text=kOn then tX { d with ops:=d.ops.set (d.ops.length - 1) (bQ (lastD d) (aC l 1).text) } l line ((lastD d).arms.length:Nat)
 else if (aC l 0).text=aQ then tX { d with tm:=true } l line (-2)
 else if (aC l 0).text=dK then tX { d with ef:=true } l line (-3)
 else if (aC l 0).text=dJ then tX d l line (-1)
 else d
def takeD (d:DM) (l:List WordM) (line:Int):DM:=cD (dOp d l) l line
def cB (d:DM) (l:List WordM) (width:Nat):List UInt8→Nat→Nat × Nat
 | [],i=>if i + 1 < l.length then ((aC l (i + 1)).at_,2) else (0,0)
 | c :: r,i=>if l.length≤i + 1 then (width,3) else if aO c (aC l (i + 1))≠0 then ((aC l (i + 1)).at_,aO c (aC l (i + 1)))
  else if (aC l 0).text=bG∧0≤findD (aC l 1).text d.labels then ((aC l 1).at_,6) else cB d l width r (i + 1)
def eO (d:DM) (s:List UInt8):Nat × Nat :=
 if (aL s).2.2≠0 then ((aL s).2.1,(aL s).2.2)
 else if cH d (aC (aL s).1 0)≠0 then (0,cH d (aC (aL s).1 0))
 else cB d (aL s).1 s.length (bZ (aC (aL s).1 0).text).1 0
def dGo (l:List (List UInt8)):Nat→Nat→DM→DM × Option (Nat × Nat × Nat)
 | 0,_,d=>(d,none)
 | f + 1,i,d=>if idleB (l.getD i [])=true then dGo l f (i + 1) d
  else if (eO d (l.getD i [])).2≠0 then (d,some (i,eO d (l.getD i [])))
  else dGo l f (i + 1) (takeD d (aL (l.getD i [])).1 ((i:Nat) + 1))
def d0:DM:=⟨⟨#[]⟩,0,0,[],[],[],false,false,false,false⟩
def iH (ls:List (List UInt8 × Int)):List UseM→List OpM→List OpM × Option UseM
 | [],ops=>(ops,none)
 | u :: r,ops=>if findD u.name ls < 0 then (ops,some u) else iH ls r (eX ops u (findD u.name ls))
def kH (x:DM × Option (Nat × Nat × Nat)):ProgM × (Int × Int) × Int :=
 match x.2 with
 | some (i,c,e)=>(cI,((i:Nat) + 1,(c:Nat) + 1),e)
 | none=>if x.1.head=false then (cI,(1,1),3)
  else match iH x.1.labels x.1.uses x.1.ops with
   | (ops,none)=>(⟨x.1.name,x.1.dl,x.1.jm,ops⟩,(0,0),0)
   | (ops,some u)=>(cI,(u.line,u.col),13)
def eT (s:List UInt8):ProgM × (Int × Int) × Int:=kH (dGo (bI s) (bI s).length 0 d0)
end Go.Proofs.YtaioaojfdngfdaaGreatDoor
