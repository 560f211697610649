/- Parts of a chain of lemmas: PatP, ProgP, ShwP, ReadP. Conditions: those of each theorem. -/
import Derived.Test.YtaioaojfdngfdaaGreatDoorPg01
import Derived.Lib.ItoaNum
set_option linter.unusedVariables false
set_option linter.unusedSimpArgs false
namespace Go.Proofs.YtaioaojfdngfdaaGreatDoor
def aR:List UInt8→Nat × UInt8 × Nat
 | []=>(0,0,3)
 | c :: r=>if c=37 then (match r with | []=>(1,0,3) | b :: _=>(2,b,0)) else if c=93∨c=45 then (0,0,2) else (1,c,0)
def bH (l:List UInt8):Nat × Nat :=
 if (aR l).2.2≠0 then ((aR l).1,(aR l).2.2)
 else match l.drop (aR l).1 with
  | []=>((aR l).1,0)
  | c :: r=>if c=45 then (if (aR r).2.2≠0 then ((aR l).1 + 1 + (aR r).1,(aR r).2.2)
   else if (aR r).2.1.toNat < (aR l).2.1.toNat then ((aR l).1 + (aR r).1,12) else ((aR l).1 + 1 + (aR r).1,0)) else ((aR l).1,0)
def gB:Nat→List UInt8→Nat × Nat
 | 0,_=>(0,0)
 | f + 1,l=>if (bH l).2≠0 then bH l
  else match l.drop (bH l).1 with
   | []=>((bH l).1 + (gB f []).1,(gB f []).2)
   | c :: r=>if c=93 then ((bH l).1 + 1,0) else ((bH l).1 + (gB f (c :: r)).1,(gB f (c :: r)).2)
def bF (l:List UInt8):Nat × Nat:=gB (l.length + 1) l
def b7:List UInt8→Nat × Nat
 | []=>(0,3)
 | c :: r=>if c=91 then (match r with | []=>(1 + (bF []).1,(bF []).2) | b :: q=>if b=94 then (2 + (bF q).1,(bF q).2) else (1 + (bF (b :: q)).1,(bF (b :: q)).2)) else (0,2)
def bM:List UInt8→Bool × Nat × Nat
 | []=>(false,0,0)
 | c :: r=>if c=42 then (true,1,0) else if c=63 then (false,1,0) else if c=91 then (false,b7 (c :: r)) else if c=93 then (false,0,2)
  else if c=37 then (if r=[] then (false,1,3) else (false,2,0)) else (false,1,0)
def dB:Nat→Nat→List UInt8→List Bool × Nat × Nat
 | 0,_,_=>([],0,0)
 | f + 1,k,l=>if l=[] then ([],0,0) else if k=60 then ([],0,4)
  else if (bM l).2.2≠0 then ([],(bM l).2.1,(bM l).2.2)
  else if (dB f (k + 1) (l.drop (bM l).2.1)).2.2≠0 then ([],(bM l).2.1 + (dB f (k + 1) (l.drop (bM l).2.1)).2.1,(dB f (k + 1) (l.drop (bM l).2.1)).2.2)
  else ((bM l).1 :: (dB f (k + 1) (l.drop (bM l).2.1)).1,0,0)
def aM (k:Nat) (l:List UInt8):List Bool × Nat × Nat:=dB (l.length + 1) k l
def bV (l:List UInt8):Nat × Nat:=if (aM 0 l).2.2≠0 then (aM 0 l).2 else if (aM 0 l).1.all id=true then (0,9) else (0,0)
theorem pU {l:List UInt8} (h:(aR l).2.2=0):1≤(aR l).1:=by
 cases l with
 | nil=>simp [aR] at h
 | cons c r =>
  by_cases h1:c=37
  ·subst h1
   cases r with
   | nil=>simp [aR] at h
   | cons b q=>simp [aR]
  ·by_cases h2:c=93∨c=45
   ·simp [aR,h1,h2] at h
   ·simp [aR,h1,h2]
theorem i7 (l:List UInt8):(aR l).1≤l.length:=by
 unfold aR
 split
 ·simp
 ·split
  ·split<;>simp
  ·split<;>simp
theorem gX {α:Type} {l r:List α} {n:Nat} {c:α} (h:l.drop n=c :: r):n + 1 + r.length=l.length:=by
 have h1:=congrArg List.length h
 simp at h1
 omega
theorem iC (l:List UInt8):(bH l).1≤l.length:=by
 have h1:=i7 l
 unfold bH
 split
 ·exact h1
 ·split
  ·exact h1
  ·rename_i c r h
   have h2:=gX h
   have h3:=i7 r
   split
   ·split
    ·simp;omega
    ·split<;>simp<;>omega
   ·exact h1
theorem hJ {l:List UInt8} (h:(bH l).2=0):1≤(bH l).1:=by
 unfold bH at h ⊢
 split at h
 ·rename_i h1;exact absurd h h1
 ·rename_i h1
  have h2:(aR l).2.2=0:=by simpa using h1
  have h3:=pU h2
  rw [if_neg h1]
  split
  ·exact h3
  ·split
   ·split
    ·simp;omega
    ·split
     ·rename_i hd _ _ _ _ 
      simp_all
     ·simp;omega
   ·exact h3
theorem uX:∀ (f:Nat) (l:List UInt8),l.length + 1≤f→gB f l=gB (l.length + 1) l:=by
 have key:∀ (n:Nat) (l:List UInt8),l.length≤n→∀ f g,l.length + 1≤f→l.length + 1≤g→gB f l=gB g l:=by
  intro n
  induction n with
  | zero =>
   intro l hl f g hf hg
   obtain rfl:l=[]:=List.eq_nil_of_length_eq_zero (by omega)
   obtain ⟨f',rfl⟩:∃ f',f=f' + 1:=⟨f - 1,by simp at hf;omega⟩
   obtain ⟨g',rfl⟩:∃ g',g=g' + 1:=⟨g - 1,by simp at hg;omega⟩
   simp [gB,bH,aR]
  | succ n ih =>
   intro l hl f g hf hg
   obtain ⟨f',rfl⟩:∃ f',f=f' + 1:=⟨f - 1,by omega⟩
   obtain ⟨g',rfl⟩:∃ g',g=g' + 1:=⟨g - 1,by omega⟩
   unfold gB
   by_cases hp:(bH l).2≠0
   ·rw [if_pos hp,if_pos hp]
   ·rw [if_neg hp,if_neg hp]
    have hp0:(bH l).2=0:=by simpa using hp
    have h1:=hJ hp0
    have h2:=iC l
    split
    ·rename_i hd
     have:=ih [] (by simp) f' g' (by simp;omega) (by simp;omega)
     rw [this]
    ·rename_i c r hd
     have hlen:=gX hd
     have:=ih (c :: r) (by simp;omega) f' g' (by simp;omega) (by simp;omega)
     rw [this]
 intro f l h
 exact key l.length l (Nat.le_refl _) _ _ h (Nat.le_refl _)
theorem kN {l:List UInt8} (h:(bH l).2≠0):bF l=bH l:=by unfold bF gB;rw [if_pos h]
theorem jE {l r:List UInt8} (h:(bH l).2=0) (hd:l.drop (bH l).1=93 :: r):bF l=((bH l).1 + 1,0):=by
 unfold bF gB
 rw [if_neg (by simp [h]),hd]
 simp
theorem jF {l:List UInt8} (h:(bH l).2=0) (hd:∀ r,l.drop (bH l).1≠93 :: r):bF l=((bH l).1 + (bF (l.drop (bH l).1)).1,(bF (l.drop (bH l).1)).2):=by
 have h1:=hJ h
 have h2:=iC l
 have hl:l.length + 1=(l.length) + 1:=rfl
 conv=>lhs;unfold bF gB
 rw [if_neg (by simp [h])]
 have hf:gB l.length (l.drop (bH l).1)=bF (l.drop (bH l).1):=by
  unfold bF
  exact uX _ _ (by simp;omega)
 rw [← hf]
 cases hq:l.drop (bH l).1 with
 | nil=>rfl
 | cons c r =>
  have hc:c≠93:=by
   intro e
   subst e
   exact hd r hq
  simp [hc]
theorem mB (l:List UInt8):(bF l).1≤l.length:=by
 have key:∀ (n:Nat) (l:List UInt8),l.length≤n→(bF l).1≤l.length:=by
  intro n
  induction n with
  | zero =>
   intro l hl
   obtain rfl:l=[]:=List.eq_nil_of_length_eq_zero (by omega)
   decide
  | succ n ih =>
   intro l hl
   have h2:=iC l
   by_cases hp:(bH l).2=0
   ·have h1:=hJ hp
    by_cases hd:∃ r,l.drop (bH l).1=93 :: r
    ·obtain ⟨r,hr⟩:=hd
     rw [jE hp hr]
     have:=gX hr
     simp;omega
    ·rw [jF hp (fun r hr=>hd ⟨r,hr⟩)]
     have:=ih (l.drop (bH l).1) (by simp;omega)
     simp at this ⊢;omega
   ·rw [kN hp];exact h2
 exact key _ l (Nat.le_refl _)
theorem nP (l:List UInt8):(b7 l).1≤l.length:=by
 unfold b7
 split
 ·simp
 ·split
  ·split
   ·have:=mB [];simp at this ⊢;omega
   ·rename_i b q
    split
    ·have:=mB q;simp;omega
    ·have:=mB (b :: q);simp at this ⊢;omega
  ·simp
theorem xI {l:List UInt8} (h:(b7 l).2=0):1≤(b7 l).1:=by
 unfold b7 at h ⊢
 split at h
 ·simp at h
 ·split at h
  ·rename_i hc
   rw [if_pos hc]
   split
   ·simp
   ·split<;>simp<;>omega
  ·simp at h
theorem lR (l:List UInt8):(bM l).2.1≤l.length:=by
 unfold bM
 split
 ·simp
 ·rename_i c r
  have:=nP (c :: r)
  split
  ·simp
  ·split
   ·simp
   ·split
    ·exact this
    ·split
     ·simp
     ·split
      ·split
       ·simp
       ·rename_i h
        have:r.length≠0:=fun e=>h (List.eq_nil_of_length_eq_zero e)
        simp;omega
      ·simp
theorem kA {l:List UInt8} (hl:l≠[]) (h:(bM l).2.2=0):1≤(bM l).2.1:=by
 cases l with
 | nil=>exact absurd rfl hl
 | cons c r =>
  unfold bM at h ⊢
  by_cases h1:c=42
  ·simp [h1]
  ·by_cases h2:c=63
   ·simp [h2]
   ·by_cases h3:c=91
    ·subst h3
     simp at h ⊢
     exact xI h
    ·by_cases h4:c=93
     ·subst h4;simp at h
     ·by_cases h5:c=37
      ·subst h5
       by_cases h6:r=[]
       ·subst h6;simp at h
       ·simp [h6]
      ·simp [h1,h2,h3,h4,h5]
theorem sL:∀ (f k:Nat) (l:List UInt8),l.length + 1≤f→dB f k l=aM k l:=by
 have key:∀ (n:Nat) (l:List UInt8),l.length≤n→∀ k f g,l.length + 1≤f→l.length + 1≤g→dB f k l=dB g k l:=by
  intro n
  induction n with
  | zero =>
   intro l hl k f g hf hg
   obtain rfl:l=[]:=List.eq_nil_of_length_eq_zero (by omega)
   obtain ⟨f',rfl⟩:∃ f',f=f' + 1:=⟨f - 1,by simp at hf;omega⟩
   obtain ⟨g',rfl⟩:∃ g',g=g' + 1:=⟨g - 1,by simp at hg;omega⟩
   simp [dB]
  | succ n ih =>
   intro l hl k f g hf hg
   obtain ⟨f',rfl⟩:∃ f',f=f' + 1:=⟨f - 1,by omega⟩
   obtain ⟨g',rfl⟩:∃ g',g=g' + 1:=⟨g - 1,by omega⟩
   unfold dB
   by_cases hn:l=[]
   ·rw [if_pos hn,if_pos hn]
   ·rw [if_neg hn,if_neg hn]
    by_cases hk:k=60
    ·rw [if_pos hk,if_pos hk]
    ·rw [if_neg hk,if_neg hk]
     by_cases he:(bM l).2.2≠0
     ·rw [if_pos he,if_pos he]
     ·rw [if_neg he,if_neg he]
      have h1:=kA hn (by simpa using he)
      have h2:=lR l
      have:=ih (l.drop (bM l).2.1) (by simp;omega) (k + 1) f' g' (by simp;omega) (by simp;omega)
      rw [this]
 intro f k l h
 exact key l.length l (Nat.le_refl _) k _ _ h (Nat.le_refl _)
theorem mQ (k:Nat):aM k []=([],0,0):=by simp [aM,dB]
theorem lK {l:List UInt8} (h:l≠[]):aM 60 l=([],0,4):=by unfold aM dB;rw [if_neg h,if_pos rfl]
theorem mR {l:List UInt8} {k:Nat} (h:l≠[]) (hk:k≠60) (he:(bM l).2.2≠0):aM k l=([],(bM l).2):=by unfold aM dB;rw [if_neg h,if_neg hk,if_pos he]
theorem rE {l:List UInt8} {k:Nat} (h:l≠[]) (hk:k≠60) (he:(bM l).2.2=0) :
 aM k l=if (aM (k + 1) (l.drop (bM l).2.1)).2.2≠0 then ([],(bM l).2.1 + (aM (k + 1) (l.drop (bM l).2.1)).2.1,(aM (k + 1) (l.drop (bM l).2.1)).2.2) else ((bM l).1 :: (aM (k + 1) (l.drop (bM l).2.1)).1,0,0):=by
 have h1:=kA h he
 have h2:=lR l
 conv=>lhs;unfold aM dB
 rw [if_neg h,if_neg hk,if_neg (by simp [he]),sL l.length (k + 1) _ (by simp;omega)]
end Go.Proofs.YtaioaojfdngfdaaGreatDoor
namespace Go.Proofs.YtaioaojfdngfdaaGreatDoor
structure ArmM where
 pat:ByteArray
 «to» : Int
structure OpM where
 kind:Int
 text:ByteArray
 n:Int
 «to» : Int
 arms:List ArmM
 onT:Int
 onE:Int
structure ProgM where
 name:ByteArray
 deadline:Int
 jumps:Int
 ops:List OpM
def okC (c:UInt8):Bool:=(decide (97≤c.toNat) && decide (c.toNat≤122)) || (decide (48≤c.toNat) && decide (c.toNat≤57))
def eE (l:List UInt8):Bool:=decide (l≠[]) && decide (l.length≤16) && decide (97≤(l.getD 0 0).toNat) && l.all okC
def nameB (s:ByteArray):Bool:=eE s.data.toList
def kX (k:Nat) (t:Int):Bool:=decide (0≤t) && decide (t≤k)
def jP (o:OpM):Bool:=(decide (o.kind=1) || decide (o.text.size=0)) && (decide (o.kind=2) || decide (o.kind=4) || decide (o.n=0)) && (decide (o.kind=3) || decide (o.to=0)) &&
 (decide (o.kind=2) || (decide (o.arms.length=0) && decide (o.onT=0) && decide (o.onE=0)))
def patE (s:ByteArray):Int:=((bV s.data.toList).2:Nat)
def pM (k:Nat) (a:ArmM):Int:=if 64 < a.pat.size then 4 else if patE a.pat≠0 then patE a.pat else if kX k a.to=true then 0 else 13
def fB:List Int→Int
 | []=>0
 | e :: r=>if e≠0 then e else fB r
def tickB (least n:Int):Bool:=decide (least≤n) && decide (n≤1000000000000)
def nevB (n:Int):Bool:=decide (n=9223372036854775807)
def toB (k:Nat) (t:Int):Bool:=decide (t = -1) || kX k t
def m5 (k:Nat) (o:OpM):Int:=if (nevB o.n || tickB 0 o.n)=false then 12 else if 8 < o.arms.length then 4 else if fB (o.arms.map (pM k))≠0 then fB (o.arms.map (pM k))
 else if (toB k o.onT && toB k o.onE)=true then 0 else 13
def opE (k:Nat) (o:OpM):Int:=if o.kind < 1∨6 < o.kind then 11 else if jP o=false then 2 else if o.kind=1 then (if o.text.size=0 then 9 else if 256 < o.text.size then 4 else 0)
 else if o.kind=2 then m5 k o else if o.kind=3 then (if kX k o.to=true then 0 else 13) else if o.kind=4 then (if tickB 0 o.n=true then 0 else 12) else 0
def kD:Nat→List Int→Int × Int
 | _,[]=>(0,0)
 | i,e :: r=>if e≠0 then (i,e) else kD (i + 1) r
def qM (p:ProgM):Int:=if nameB p.name=false then 10 else if ((nevB p.deadline || tickB 1 p.deadline) && decide (0≤p.jumps) && decide (p.jumps≤1000))=false then 12 else if 200 < p.ops.length then 4 else 0
def m8 (p:ProgM):Int × Int:=if qM p≠0 then (-1,qM p) else kD 0 (p.ops.map (opE p.ops.length))
def v8 (p:ProgM):Bool:=decide ((m8 p).2=0)
end Go.Proofs.YtaioaojfdngfdaaGreatDoor
namespace Go.Proofs.YtaioaojfdngfdaaGreatDoor
def hexD (d:Nat):UInt8:=if d < 10 then UInt8.ofNat (48 + d) else UInt8.ofNat (87 + d)
def fH (b:UInt8):List UInt8:=if b=34∨b=92 then [92,b] else if b=10 then [92,110] else if b=13 then [92,114] else if b=9 then [92,116] else if b < 32∨126 < b then [92,120,hexD (b.toNat / 16),hexD (b.toNat % 16)] else [b]
theorem sign_len (b:UInt8):1≤(fH b).length∧(fH b).length≤4:=by
 unfold fH
 split
 ·simp
 split
 ·simp
 split
 ·simp
 split
 ·simp
 split<;>simp
end Go.Proofs.YtaioaojfdngfdaaGreatDoor
namespace Go.Proofs.YtaioaojfdngfdaaGreatDoor
def atB (L:List UInt8) (i:Nat):UInt8:=L.getD i 0
def dF (b:UInt8):Int:=if 48≤b.toNat∧b.toNat≤57 then (b.toNat:Int) - 48 else if 97≤b.toNat∧b.toNat≤102 then (b.toNat:Int) - 87 else -1
def kG (e:UInt8):Option UInt8:=if e=34 then some 34 else if e=92 then some 92 else if e=110 then some 10 else if e=114 then some 13 else if e=116 then some 9 else none
def bD (L:List UInt8) (i:Nat):UInt8 × Nat × Bool :=
 if L.length≤i then (0,0,false)
 else if (atB L i).toNat < 32∨126 < (atB L i).toNat∨atB L i=34 then (0,0,false)
 else if atB L i≠92 then (atB L i,1,true)
 else if L.length≤i + 1 then (0,1,false)
 else match kG (atB L (i + 1)) with
  | some b=>(b,2,true)
  | none=>if atB L (i + 1)≠120 then (0,1,false)
   else if L.length≤i + 2 then (0,2,false)
   else if dF (atB L (i + 2)) < 0 then (0,2,false)
   else if L.length≤i + 3 then (0,3,false)
   else if dF (atB L (i + 3)) < 0 then (0,3,false)
   else (UInt8.ofNat (16 * (dF (atB L (i + 2))).toNat + (dF (atB L (i + 3))).toNat),4,true)
def bU:Nat→List UInt8→Nat→List UInt8→List UInt8 × Nat × Nat
 | 0,L,i,out=>([],i,2)
 | f + 1,L,i,out=>if i < L.length∧atB L i=34 then (out,i + 1,0)
  else if (bD L i).2.2=true then bU f L (i + (bD L i).2.1) (out++[(bD L i).1])
  else ([],i + (bD L i).2.1,if i + (bD L i).2.1=L.length then 3 else 2)
def bR (L:List UInt8):List UInt8 × Nat × Nat:=if 0 < L.length∧atB L 0=34 then bU (L.length + 1) L 1 [] else ([],0,if L.length=0 then 3 else 2)
theorem tM (L:List UInt8) (i j:Nat):atB (L.drop i) j=atB L (i + j):=by
 unfold atB
 simp [List.getD,List.getElem?_drop]
theorem uS (L:List UInt8) (i:Nat) (h:i≤L.length):bD (L.drop i) 0=bD L i:=by
 unfold bD
 simp only [tM,List.length_drop,Nat.zero_add,Nat.add_zero]
 have e0:(L.length - i≤0)↔(L.length≤i):=by omega
 have e1:(L.length - i≤1)↔(L.length≤i + 1):=by omega
 have e2:(L.length - i≤2)↔(L.length≤i + 2):=by omega
 have e3:(L.length - i≤3)↔(L.length≤i + 3):=by omega
 simp only [e0,e1,e2,e3]
theorem lO (L:List UInt8) (i:Nat) (h:i≤L.length):i + (bD L i).2.1≤L.length:=by
 unfold bD
 split
 ·simp;omega
 split
 ·simp;omega
 split
 ·simp;omega
 split
 ·simp;omega
 split
 ·simp;omega
 split
 ·simp;omega
 split
 ·simp;omega
 split
 ·simp;omega
 split
 ·simp;omega
 split
 ·simp;omega
 ·simp;omega
theorem mC (L:List UInt8) (i:Nat) (h:(bD L i).2.2=true):1≤(bD L i).2.1∧i < L.length:=by
 unfold bD at h ⊢
 split at h
 ·simp at h
 rename_i h0
 rw [if_neg h0]
 split at h
 ·simp at h
 rename_i h1
 rw [if_neg h1]
 split at h
 ·rename_i h2;rw [if_pos h2];simp;omega
 rename_i h2
 rw [if_neg h2]
 split at h
 ·simp at h
 rename_i h3
 rw [if_neg h3]
 split at h
 ·simp;omega
 split at h
 ·simp at h
 rename_i h4
 rw [if_neg h4]
 split at h
 ·simp at h
 rename_i h5
 rw [if_neg h5]
 split at h
 ·simp at h
 rename_i h6
 rw [if_neg h6]
 split at h
 ·simp at h
 rename_i h7
 rw [if_neg h7]
 split at h
 ·simp at h
 rename_i h8
 rw [if_neg h8]
 simp;omega
theorem sign_two (b e:UInt8):fH b=[92,e]↔kG e=some b:=by
 unfold fH kG
 constructor
 ·intro h
  split at h
  ·rename_i h1
   simp at h
   subst h
   rcases h1 with h1 | h1<;>subst h1<;>rfl
  split at h
  ·rename_i h1 h2
   simp at h;subst h;subst h2;rfl
  split at h
  ·rename_i h1 h2 h3
   simp at h;subst h;subst h3;rfl
  split at h
  ·rename_i h1 h2 h3 h4
   simp at h;subst h;subst h4;rfl
  split at h
  ·simp at h
  ·simp at h
 ·intro h
  split at h
  ·rename_i h1;subst h1;simp at h;subst h;rfl
  split at h
  ·rename_i h1 h2;subst h2;simp at h;subst h;rfl
  split at h
  ·rename_i h1 h2 h3;subst h3;simp at h;subst h;rfl
  split at h
  ·rename_i h1 h2 h3 h4;subst h4;simp at h;subst h;rfl
  split at h
  ·rename_i h1 h2 h3 h4 h5;subst h5;simp at h;subst h;rfl
  ·simp at h
theorem uK (f:Nat):∀ (L:List UInt8) (i:Nat) (out:List UInt8),i≤L.length→out.length≤i→(bU f L i out).1.length≤L.length∧(bU f L i out).2.1≤L.length:=by
 induction f with
 | zero=>intro L i out h1 h2;unfold bU;simp;omega
 | succ f ih =>
  intro L i out h1 h2
  unfold bU
  split
  ·simp;omega
  split
  ·rename_i h3 h4
   have h5:=mC L i h4
   have h6:=lO L i h1
   exact ih L _ _ h6 (by simp;omega)
  ·have h6:=lO L i h1
   simp;omega
theorem nR (L:List UInt8):(bR L).1.length≤L.length∧(bR L).2.1≤L.length:=by
 unfold bR
 split
 ·rename_i h;exact uK _ _ _ _ (by omega) (by simp)
 ·simp
end Go.Proofs.YtaioaojfdngfdaaGreatDoor
