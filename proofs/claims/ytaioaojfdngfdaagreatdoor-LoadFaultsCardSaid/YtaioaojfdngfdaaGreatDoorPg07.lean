/- A label's, an arm's and the head's line, read by the program, is what the document reads: plain. No program. Conditions: those of each theorem. -/
import Derived.Test.YtaioaojfdngfdaaGreatDoorPg06
set_option linter.unusedVariables false
set_option linter.unusedSimpArgs false
namespace Go.Proofs.YtaioaojfdngfdaaGreatDoor
set_option linter.unusedSectionVars false
section
variable {m:PM} {d:DM} {l:List WordM} {width:Nat}
theorem Rel.has (hr:Rel m d) (k:List UInt8):(0≤findD k d.labels)↔(lbF k m.labels).isSome=true:=by
 rw [hr.lb k]
 cases h:lbF k m.labels with
 | none=>simp
 | some v=>have:=hr.lbp k v h;simp [this]
theorem yC (hr:Rel m d) (h0:m.st.bad=0) (hn:m.st.nx=1) (hw:m.ws=l) (hwd:m.width=(width:Nat)) (ht:(aC l 0).text=bG):Out (dA (cL m bG)) (takeD d l m.line) m.line (cB d l width [110] 0):=by
 have a:=iD (s:=m.st) (line:=m.line) (ws:=l) (width:=width) (i:=0) 110 (Or.inl rfl) h0 hn
 have e1:(rF (dM m)).st=if (lbF (b9 m.line width l m.st).1.text m.labels).isSome=true then bE m.line (b9 m.line width l m.st).2 (b9 m.line width l m.st).1.at_ 6 else (b9 m.line width l m.st).2:=by
  unfold rF dN
  rw [← hwd,← hw]
  rfl
 have e2:rF (dM m)={ m with opn:=false,labels:=((b9 m.line width l m.st).1.text,((m.ops.length:Nat):Int)) :: m.labels,st:=(rF (dM m)).st }:=by
  rw [← hwd,← hw]
  rfl
 rw [xU,cX]
 rw [e1] at e2
 rw [e2]
 clear e1 e2
 unfold Arg at a
 generalize b9 m.line width l m.st=r at a ⊢
 generalize fM l width 110 0=o at a ⊢
 cases o with
 | some x =>
  simp only at a ⊢
  have hb:=Bad.ne (line:=m.line) (x:=x) a
  have e:(if (lbF r.1.text m.labels).isSome=true then bE m.line r.2 r.1.at_ 6 else r.2)=r.2:=by
   split
   ·exact failS_ne hb _ _ _
   ·rfl
  rw [e]
  refine out_bad ?_
  rw [bY hb]
  exact a
 | none =>
  simp only at a ⊢
  subst a
  by_cases hh:(lbF (aC l 1).text m.labels).isSome=true
  ·rw [if_pos (show (aC l 0).text=bG∧0≤findD (aC l 1).text d.labels from ⟨ht,(hr.has _).2 hh⟩)]
   refine out_bad ?_
   simp only
   rw [if_pos hh,eJ rfl]
   have hb:(6:Int)≠0:=by decide
   rw [bY hb]
   exact ⟨rfl,rfl,rfl,Nat.succ_ne_zero _⟩
  ·rw [if_neg (show ¬ ((aC l 0).text=bG∧0≤findD (aC l 1).text d.labels) from fun h=>hh ((hr.has _).1 h.2))]
   simp only
   rw [if_neg hh]
   refine dX rfl rfl hw rfl (fun hx=>?_)
   have e:takeD d l m.line={ d with opn:=false,labels:=d.labels++[((aC l 1).text,((d.ops.length:Nat):Int))] }:=by
    unfold takeD dOp cD
    rw [ht]
    rfl
   rw [e]
   refine ⟨hr.name,hr.dl,hr.jm,hr.ops,hr.uses,hr.head,rfl,fun h=>absurd h (by simp),fun h=>absurd h (by simp),fun k=>?_,fun k v h=>?_,fun p hp=>?_⟩
   ·show findD k (d.labels++_)=_
    rw [oM _ _ _ _ hr.lbd,hr.ops]
    simp only [lbF]
    have h1:=hr.has k
    have h2:=hr.lb k
    by_cases hk:(aC l 1).text=k
    ·subst hk
     rw [if_neg (fun h=>hh (h1.1 h)),if_pos rfl,if_pos rfl]
     rfl
    ·rw [if_neg hk,if_neg hk,← h2]
     split
     ·rfl
     ·rename_i hx
      have h3:lbF k m.labels=none:=by
       cases hc:lbF k m.labels with
       | none=>rfl
       | some v=>exact absurd (h1.2 (by rw [hc];rfl)) hx
      rw [h2,h3];rfl
   ·simp only [lbF] at h
    split at h
    ·injection h with h;omega
    ·exact hr.lbp k v h
   ·rcases List.mem_append.1 hp with hp | hp
    ·exact hr.lbd p hp
    ·simp at hp;subst hp;simp
theorem arm_shut (hr:Rel m d) (h0:m.st.bad=0) (t:List UInt8) (h:d.opn=false) (d':DM):Out (dA (dE m t)) d' m.line (0,8):=by
 have e:(dE m t).st=⟨m.st.nx,m.line,1,8⟩:=by unfold dE iE;rw [if_pos (by rw [hr.opn,h])];simp only;rw [eJ h0];rfl
 rw [bY (by rw [e];show (8:Int)≠0;decide)]
 exact out_bad (by rw [e];exact ⟨rfl,rfl,rfl,Nat.succ_ne_zero _⟩)
theorem lQ (hr:Rel m d):eZ m=lastD d:=by unfold eZ lastD;rw [hr.ops]
theorem on_long (hr:Rel m d) (h0:m.st.bad=0) (h:d.opn=true) (h8:7 < (lastD d).arms.length) (d':DM):Out (dA (dE m kOn)) d' m.line (0,4):=by
 have e:(dE m kOn).st=⟨m.st.nx,m.line,1,4⟩:=by unfold dE iE;rw [if_neg (by rw [hr.opn,h];simp),if_pos rfl,if_pos (by rw [lQ hr];omega)];simp only;rw [eJ h0];rfl
 rw [bY (by rw [e];show (4:Int)≠0;decide)]
 exact out_bad (by rw [e];exact ⟨rfl,rfl,rfl,Nat.succ_ne_zero _⟩)
theorem on_out (hr:Rel m d) (h0:m.st.bad=0) (hn:m.st.nx=1) (hw:m.ws=l) (hwd:m.width=(width:Nat)) (ht:(aC l 0).text=kOn) (ho:d.opn=true) (h8:¬ 7 < (lastD d).arms.length):Out (dA (dE m kOn)) (takeD d l m.line) m.line (cB d l width [112,108] 0):=by
 have a:=pat_arg (s:=m.st) (line:=m.line) (ws:=l) (width:=width) (i:=0) h0 hn
 have e1:dE m kOn=mOn m:=by unfold dE;rw [if_neg (by rw [hr.opn,ho];simp),if_pos rfl,if_neg (by rw [lQ hr];omega)]
 rw [e1,cX]
 unfold mOn mPat
 rw [hw,hwd]
 unfold Arg at a
 generalize cP m.line width l m.st=r at a ⊢
 generalize fM l width 112 0=o at a ⊢
 cases o with
 | some x =>
  simp only at a ⊢
  have hb:=Bad.ne (line:=m.line) (x:=x) a
  have e:(cQ (eH m (bQ (eZ m) r.1) r.2) (eZ m).arms.length).st=r.2:=iO (m:=eH m (bQ (eZ m) r.1) r.2) hb _
  rw [bY (by rw [e];exact hb)]
  exact out_bad (by rw [e];exact a)
 | none =>
  simp only at a ⊢
  subst a
  rw [ht,if_neg (fun h=>absurd h.1 (by decide)),cX]
  have b:=iD (s:=⟨2,m.st.sl,m.st.sc,0⟩) (line:=m.line) (ws:=l) (width:=width) (i:=1) 108 (Or.inr rfl) rfl rfl
  have hle:l.length≤2→fM l width 108 1=some (width,3):=fun h=>by unfold fM;rw [if_pos h]
  unfold cQ dN eH
  simp only
  rw [hw,hwd]
  unfold Arg at b
  generalize b9 m.line width l ⟨2,m.st.sl,m.st.sc,0⟩=r at b ⊢
  generalize fM l width 108 1=o at b hle ⊢
  cases o with
  | some x =>
   simp only at b ⊢
   have hb:=Bad.ne (line:=m.line) (x:=x) b
   rw [bY hb]
   exact out_bad b
  | none =>
   simp only at b ⊢
   subst b
   rw [ht,if_neg (fun h=>absurd h.1 (by decide))]
   refine dX rfl rfl rfl rfl (fun hx=>?_)
   have e:takeD d l m.line={ d with ops:=d.ops.set (d.ops.length - 1) (bQ (lastD d) (aC l 1).text),uses:=d.uses++[⟨(aC l (l.length - 1)).text,m.line,((aC l (l.length - 1)).at_:Nat) + 1,((d.ops.set (d.ops.length - 1) (bQ (lastD d) (aC l 1).text)).length:Nat) - 1,((lastD d).arms.length:Nat)⟩] }:=by
    unfold takeD dOp cD
    rw [ht]
    rfl
   rw [e,j9 l 2 (fun h=>by have:=hle h;cases this) hx]
   refine ⟨hr.name,hr.dl,hr.jm,?_,?_,hr.head,hr.opn,hr.t0,hr.t1,hr.lb,hr.lbp,hr.lbd⟩
   ·show List.set _ _ _=List.set _ _ _
    rw [lQ hr,hr.ops]
   ·show m.uses++_=d.uses++_
    rw [hr.uses,hr.ops,lQ hr,List.length_set]
    first | done | rfl
theorem tw_dup (s:St) (b:Bool) (line:Int) (h0:s.bad=0) (hb:b=true):(if b=true then bE line s 0 6 else s)=⟨s.nx,line,1,6⟩:=by rw [if_pos hb,eJ h0];rfl
theorem rZ (hr:Rel m d) (h0:m.st.bad=0) (ho:d.opn=true) (hb:d.tm=true) (d':DM):Out (dA (dE m aQ)) d' m.line (0,6):=by
 have e1:(xY m).st=⟨m.st.nx,m.line,1,6⟩:=tw_dup _ _ _ h0 (by rw [hr.t0 ho,hb])
 have e:(dE m aQ).st=⟨m.st.nx,m.line,1,6⟩:=by
  unfold dE
  rw [if_neg (by rw [hr.opn,ho];simp),if_neg (by decide),if_neg (by decide),iO (by rw [e1];show (6:Int)≠0;decide),e1]
 rw [bY (by rw [e];show (6:Int)≠0;decide)]
 exact out_bad (by rw [e];exact ⟨rfl,rfl,rfl,Nat.succ_ne_zero _⟩)
theorem eof_dup (hr:Rel m d) (h0:m.st.bad=0) (ho:d.opn=true) (hb:d.ef=true) (d':DM):Out (dA (dE m dK)) d' m.line (0,6):=by
 have e1:(xX m).st=⟨m.st.nx,m.line,1,6⟩:=tw_dup _ _ _ h0 (by rw [hr.t1 ho,hb])
 have e:(dE m dK).st=⟨m.st.nx,m.line,1,6⟩:=by
  unfold dE
  rw [if_neg (by rw [hr.opn,ho];simp),if_neg (by decide),if_pos rfl,iO (by rw [e1];show (6:Int)≠0;decide),e1]
 rw [bY (by rw [e];show (6:Int)≠0;decide)]
 exact out_bad (by rw [e];exact ⟨rfl,rfl,rfl,Nat.succ_ne_zero _⟩)
theorem rY (hr:Rel m d) (h0:m.st.bad=0) (hn:m.st.nx=1) (hw:m.ws=l) (hwd:m.width=(width:Nat)) (ht:(aC l 0).text=aQ) (ho:d.opn=true) (hb:d.tm=false):Out (dA (dE m aQ)) (takeD d l m.line) m.line (cB d l width [108] 0):=by
 have a:=iD (s:=m.st) (line:=m.line) (ws:=l) (width:=width) (i:=0) 108 (Or.inr rfl) h0 hn
 have hle:l.length≤1→fM l width 108 0=some (width,3):=fun h=>by unfold fM;rw [if_pos h]
 have e1:dE m aQ=cQ { m with t0:=true } (-2):=by
  unfold dE xY
  rw [if_neg (by rw [hr.opn,ho];simp),if_neg (by decide),if_neg (by decide),if_neg (by rw [hr.t0 ho,hb];simp)]
 rw [e1,cX]
 unfold cQ dN
 simp only
 rw [hw,hwd]
 unfold Arg at a
 generalize b9 m.line width l m.st=r at a ⊢
 generalize fM l width 108 0=o at a hle ⊢
 cases o with
 | some x =>
  simp only at a ⊢
  refine out_bad ?_
  rw [bY (Bad.ne (line:=m.line) (x:=x) a)]
  exact a
 | none =>
  simp only at a ⊢
  subst a
  rw [ht,if_neg (fun h=>absurd h.1 (by decide))]
  refine dX rfl rfl rfl rfl (fun hx=>?_)
  have e:takeD d l m.line={ d with tm:=true,uses:=d.uses++[⟨(aC l (l.length - 1)).text,m.line,((aC l (l.length - 1)).at_:Nat) + 1,(d.ops.length:Nat) - 1,-2⟩] }:=by
   unfold takeD dOp cD
   rw [ht]
   rfl
  rw [e,j9 l 1 (fun h=>by have:=hle h;cases this) hx]
  refine ⟨hr.name,hr.dl,hr.jm,hr.ops,?_,hr.head,hr.opn,fun _=>rfl,hr.t1,hr.lb,hr.lbp,hr.lbd⟩
  show m.uses++_=d.uses++_
  rw [hr.uses,hr.ops]
theorem eof_out (hr:Rel m d) (h0:m.st.bad=0) (hn:m.st.nx=1) (hw:m.ws=l) (hwd:m.width=(width:Nat)) (ht:(aC l 0).text=dK) (ho:d.opn=true) (hb:d.ef=false):Out (dA (dE m dK)) (takeD d l m.line) m.line (cB d l width [108] 0):=by
 have a:=iD (s:=m.st) (line:=m.line) (ws:=l) (width:=width) (i:=0) 108 (Or.inr rfl) h0 hn
 have hle:l.length≤1→fM l width 108 0=some (width,3):=fun h=>by unfold fM;rw [if_pos h]
 have e1:dE m dK=cQ { m with t1:=true } (-3):=by
  unfold dE xX
  rw [if_neg (by rw [hr.opn,ho];simp),if_neg (by decide),if_pos rfl,if_neg (by rw [hr.t1 ho,hb];simp)]
 rw [e1,cX]
 unfold cQ dN
 simp only
 rw [hw,hwd]
 unfold Arg at a
 generalize b9 m.line width l m.st=r at a ⊢
 generalize fM l width 108 0=o at a hle ⊢
 cases o with
 | some x =>
  simp only at a ⊢
  refine out_bad ?_
  rw [bY (Bad.ne (line:=m.line) (x:=x) a)]
  exact a
 | none =>
  simp only at a ⊢
  subst a
  rw [ht,if_neg (fun h=>absurd h.1 (by decide))]
  refine dX rfl rfl rfl rfl (fun hx=>?_)
  have e:takeD d l m.line={ d with ef:=true,uses:=d.uses++[⟨(aC l (l.length - 1)).text,m.line,((aC l (l.length - 1)).at_:Nat) + 1,(d.ops.length:Nat) - 1,-3⟩] }:=by
   unfold takeD dOp cD
   rw [ht]
   rfl
  rw [e,j9 l 1 (fun h=>by have:=hle h;cases this) hx]
  refine ⟨hr.name,hr.dl,hr.jm,hr.ops,?_,hr.head,hr.opn,hr.t0,fun _=>rfl,hr.lb,hr.lbp,hr.lbd⟩
  show m.uses++_=d.uses++_
  rw [hr.uses,hr.ops]
theorem begin_eq (m:PM) (r1:WordM × St) (r2 r3:Int × St) (h1:r1=b9 m.line m.width m.ws m.st) (h2:r2=bT m.line m.width m.ws r1.2 1 true) (h3:r3=iQ m.line m.width m.ws r2.2 m.jm) :
 gW m={ m with head:=true,name:=bs r1.1.text,dl:=r2.1,jm:=r3.1,st:=r3.2 }:=by
 subst h1
 have e2:mDl (uW m)={ m with head:=true,name:=bs (b9 m.line m.width m.ws m.st).1.text,dl:=r2.1,st:=r2.2 }:=by rw [h2];rfl
 unfold gW
 rw [e2,h3]
 unfold rG iQ
 simp only
 split<;>rfl
theorem qH {s:St} (h:s.bad≠0) (line width:Int) (ws:List WordM) (j:Int):iQ line width ws s j=(j,s):=by unfold iQ;rw [lB h];simp
theorem tZ (hr:Rel m d) (h0:m.st.bad=0) (hn:m.st.nx=1) (hw:m.ws=l) (hwd:m.width=(width:Nat)) (ht:(aC l 0).text=aH):Out (dA (gW m)) (takeD d l m.line) m.line (cB d l width [110,100,106] 0):=by
 obtain ⟨r1,h1⟩:∃ r,r=b9 m.line m.width m.ws m.st:=⟨_,rfl⟩
 obtain ⟨r2,h2⟩:∃ r,r=bT m.line m.width m.ws r1.2 1 true:=⟨_,rfl⟩
 obtain ⟨r3,h3⟩:∃ r,r=iQ m.line m.width m.ws r2.2 m.jm:=⟨_,rfl⟩
 rw [begin_eq m r1 r2 r3 h1 h2 h3]
 rw [hw,hwd] at h1 h2 h3
 have a:=iD (s:=m.st) (line:=m.line) (ws:=l) (width:=width) (i:=0) 110 (Or.inl rfl) h0 hn
 rw [← h1] at a
 have bad:∀ x,Bad r3.2 m.line x→Out (dA { m with head:=true,name:=bs r1.1.text,dl:=r2.1,jm:=r3.1,st:=r3.2 }) (takeD d l m.line) m.line x:=by
  intro x hx
  refine out_bad ?_
  rw [bY (Bad.ne (line:=m.line) (x:=x) hx)]
  exact hx
 rw [cX]
 unfold Arg at a
 clear h1
 generalize fM l width 110 0=o at a ⊢
 cases o with
 | some x =>
  simp only at a ⊢
  refine bad x ?_
  rw [l6 a.ne] at h2
  rw [h2] at h3
  rw [qH a.ne] at h3
  rw [h3]
  exact a
 | none =>
  simp only at a ⊢
  subst a
  rw [ht,if_neg (fun h=>absurd h.1 (by decide)),cX]
  have b:=l7 (s:=⟨2,m.st.sl,m.st.sc,0⟩) (line:=m.line) (ws:=l) (width:=width) (i:=1) 100 1 true (Or.inl ⟨rfl,rfl,rfl⟩) rfl rfl
  simp only at h2
  rw [← h2] at b
  clear h2
  unfold Arg at b
  generalize fM l width 100 1=o at b ⊢
  cases o with
  | some x =>
   simp only at b ⊢
   refine bad x ?_
   rw [qH b.ne] at h3
   rw [h3]
   exact b
  | none =>
   simp only at b ⊢
   subst b
   rw [ht,if_neg (fun h=>absurd h.1 (by decide)),cX]
   have c:=yD (s:=⟨3,m.st.sl,m.st.sc,0⟩) (line:=m.line) (ws:=l) (width:=width) (i:=2) m.jm rfl rfl
   simp only at h3
   rw [← h3] at c
   clear h3
   unfold Arg at c
   generalize fM l width 106 2=o at c ⊢
   cases o with
   | some x =>
    simp only at c ⊢
    exact bad x c
   | none =>
    simp only at c ⊢
    subst c
    rw [ht,if_neg (fun h=>absurd h.1 (by decide))]
    refine dX rfl rfl hw rfl (fun hx=>?_)
    have e:takeD d l m.line={ d with head:=true,name:=bs (aC l 1).text,dl:=(aF 100 (aC l 2).text).1,jm:=(aF 106 (aC l 3).text).1 }:=by
     unfold takeD dOp cD
     rw [ht]
     rfl
    rw [e]
    exact ⟨rfl,rfl,rfl,hr.ops,hr.uses,rfl,hr.opn,hr.t0,hr.t1,hr.lb,hr.lbp,hr.lbd⟩
theorem eM (t:List UInt8):(bZ t).2=(decide (t=aH) || (bN t || dY t)):=by
 have h:∀ k,k ∈ [aH,dO,bS,kOn,aQ,dK,dJ,cF,dQ,dP,bG]→t=k→(bZ t).2=(decide (t=aH) || (bN t || dY t)):=by
  intro k hk e
  subst e
  simp only [List.mem_cons,List.not_mem_nil,or_false] at hk
  rcases hk with rfl | rfl | rfl | rfl | rfl | rfl | rfl | rfl | rfl | rfl | rfl<;>rfl
 by_cases hm:t ∈ [aH,dO,bS,kOn,aQ,dK,dJ,cF,dQ,dP,bG]
 ·exact h t hm rfl
 ·simp only [List.mem_cons,List.not_mem_nil,or_false,not_or] at hm
  obtain ⟨n1,n2,n3,n4,n5,n6,n7,n8,n9,n10,n11⟩:=hm
  unfold bZ fQ bN dY
  simp only [mS]
  rw [if_neg (Ne.symm n1),if_neg (Ne.symm n2),if_neg (Ne.symm n3),if_neg (Ne.symm n4),if_neg (Ne.symm n5),if_neg (Ne.symm n6),if_neg (Ne.symm n7),if_neg (Ne.symm n8),if_neg (Ne.symm n9),if_neg (Ne.symm n10),if_neg (Ne.symm n11)]
  simp [n1,n2,n3,n4,n5,n6,n7,n8,n9,n10,n11]
theorem nQ (s:List UInt8) (he:(aL s).2.2=0):eO d s=if cH d (aC (aL s).1 0)≠0 then (0,cH d (aC (aL s).1 0)) else cB d (aL s).1 s.length (bZ (aC (aL s).1 0).text).1 0:=by
 unfold eO
 rw [if_neg (by omega)]
theorem sY (hr:Rel m d) (h0:m.st.bad=0) (i:Nat) (s:List UInt8) (hi:idleB s=false):Out (iV m i s) (takeD d (aL s).1 ((i:Nat) + 1)) ((i:Nat) + 1) (eO d s):=by
 unfold iV
 rw [if_neg (by rw [hi];simp)]
 have hrl:Rel (gA m i s) d:=⟨hr.name,hr.dl,hr.jm,hr.ops,hr.uses,hr.head,hr.opn,hr.t0,hr.t1,hr.lb,hr.lbp,hr.lbd⟩
 have hb:(gA m i s).st.bad=0:=h0
 by_cases he:(aL s).2.2=0
 case neg =>
  rw [if_pos he]
  have e:eO d s=((aL s).2.1,(aL s).2.2):=by unfold eO;rw [if_pos he]
  rw [e]
  refine out_bad ?_
  unfold iE
  simp only
  rw [eJ hb]
  exact ⟨rfl,rfl,rfl,he⟩
 rw [if_neg (by omega),nQ s he]
 have hne:=l4 he hi
 have hln:(gA m i s).line=((i:Nat):Int) + 1:=rfl
 generalize hl:(aL s).1=l at *
 have hws:(gA m i s).ws=l:=hl
 have hwd:(gA m i s).width=(s.length:Nat):=rfl
 have hnx:(gA m i s).st.nx=0:=rfl
 generalize gA m i s=M at *
 generalize s.length=width at *
 rw [← hln]
 have hrn:Rel (iT M) d:=⟨hrl.name,hrl.dl,hrl.jm,hrl.ops,hrl.uses,hrl.head,hrl.opn,hrl.t0,hrl.t1,hrl.lb,hrl.lbp,hrl.lbd⟩
 have hbn:(iT M).st.bad=0:=hb
 have hnn:(iT M).st.nx=1:=by show M.st.nx + 1=1;rw [hnx]
 have hwn:(iT M).ws=l:=hws
 have hdn:(iT M).width=(width:Nat):=hwd
 have hlnn:(iT M).line=M.line:=rfl
 have hsay:qX M=aC l 0:=by unfold qX;rw [hws,hnx]
 have hkn:jM M=false↔((aC l 0).quoted=true∨(bZ (aC l 0).text).2=false∨decide ((aC l 0).text=aH)=d.head):=by
  unfold jM
  rw [hsay,hrl.head,eM]
  cases (aC l 0).quoted
  ·by_cases hsc:(aC l 0).text=aH
   ·rw [if_pos hsc]
    cases d.head<;>simp [hsc]
   ·rw [if_neg hsc]
    cases hx:(bN (aC l 0).text || dY (aC l 0).text)<;>cases d.head<;>simp [hsc,hx] at *
    all_goals simp [hx]
  ·simp
 unfold lP
 rw [hsay]
 by_cases hk:jM M=false
 ·rw [if_pos hk]
  have hp:cH d (aC l 0)=11:=by unfold cH;rw [if_pos (hkn.1 hk)]
  rw [hp,if_pos (show (11:Nat)≠0 by decide)]
  refine out_bad ?_
  unfold iE
  simp only
  rw [eJ hbn]
  exact ⟨rfl,rfl,rfl,Nat.succ_ne_zero _⟩
 ·rw [if_neg hk]
  have hpl:cH d (aC l 0)=if bN (aC l 0).text=true then
   (if d.opn=false then 8 else if (aC l 0).text=kOn∧7 < (lastD d).arms.length then 4 else if ((aC l 0).text=aQ∧d.tm=true)∨((aC l 0).text=dK∧d.ef=true) then 6 else 0)
   else if (aC l 0).text≠aH∧(aC l 0).text≠bG∧199 < d.ops.length then 4 else 0:=by
   unfold cH
   rw [if_neg (fun h=>hk (hkn.2 h))]
  have hw11:(aC l 0).text=aH∨bN (aC l 0).text=true∨dY (aC l 0).text=true:=by
   have h2:(bZ (aC l 0).text).2=true:=by
    cases h3:(bZ (aC l 0).text).2 with
    | true=>rfl
    | false=>exact absurd (hkn.2 (Or.inr (Or.inl h3))) hk
   rw [eM] at h2
   simpa using h2
  clear hkn hk
  rw [hpl]
  clear hpl
  generalize hN:iT M=N at *
  rw [← hlnn]
  rcases hw11 with ht | ht | ht
  ·rw [ht]
   unfold dI
   rw [if_pos (show aH=aH from rfl),if_neg (show ¬ bN aH=true by decide),if_neg (show ¬ (aH≠aH∧aH≠bG∧199 < d.ops.length) from fun h=>h.1 rfl),if_neg (show ¬ ((0:Nat)≠0) by decide)]
   exact tZ hrn hbn hnn hwn hdn ht
  ·unfold dI
   rw [if_neg (show ¬ (aC l 0).text=aH from fun h=>by rw [h] at ht;exact absurd ht (by decide)),if_pos ht,if_pos ht]
   by_cases ho:d.opn=false
   ·rw [if_pos ho,if_pos (show (8:Nat)≠0 by decide)]
    exact arm_shut hrn hbn _ ho _
   rw [if_neg ho]
   have ho2:d.opn=true:=by simpa using ho
   unfold bN at ht
   simp only [Bool.or_eq_true,decide_eq_true_eq] at ht
   rcases ht with ht | ht | ht
   ·rw [ht]
    by_cases h8:7 < (lastD d).arms.length
    ·rw [if_pos (show kOn=kOn∧7 < (lastD d).arms.length from ⟨rfl,h8⟩),if_pos (show (4:Nat)≠0 by decide)]
     exact on_long hrn hbn ho2 h8 _
    ·rw [if_neg (show ¬ (kOn=kOn∧7 < (lastD d).arms.length) from fun h=>h8 h.2),if_neg (show ¬ ((kOn=aQ∧d.tm=true)∨(kOn=dK∧d.ef=true)) from fun h=>by rcases h with h | h<;>exact absurd h.1 (by decide)),if_neg (show ¬ ((0:Nat)≠0) by decide)]
     exact on_out hrn hbn hnn hwn hdn ht ho2 h8
   ·rw [ht,if_neg (show ¬ (aQ=kOn∧7 < (lastD d).arms.length) from fun h=>absurd h.1 (by decide))]
    cases htm:d.tm with
    | true =>
     rw [if_pos (show (aQ=aQ∧true=true)∨(aQ=dK∧d.ef=true) from Or.inl ⟨rfl,rfl⟩),if_pos (show (6:Nat)≠0 by decide)]
     exact rZ hrn hbn ho2 htm _
    | false =>
     rw [if_neg (show ¬ ((aQ=aQ∧false=true)∨(aQ=dK∧d.ef=true)) from fun h=>by rcases h with h | h;exact absurd h.2 (by decide);exact absurd h.1 (by decide)),if_neg (show ¬ ((0:Nat)≠0) by decide)]
     exact rY hrn hbn hnn hwn hdn ht ho2 htm
   ·rw [ht,if_neg (show ¬ (dK=kOn∧7 < (lastD d).arms.length) from fun h=>absurd h.1 (by decide))]
    cases htm:d.ef with
    | true =>
     rw [if_pos (show (dK=aQ∧d.tm=true)∨(dK=dK∧true=true) from Or.inr ⟨rfl,rfl⟩),if_pos (show (6:Nat)≠0 by decide)]
     exact eof_dup hrn hbn ho2 htm _
    | false =>
     rw [if_neg (show ¬ ((dK=aQ∧d.tm=true)∨(dK=dK∧false=true)) from fun h=>by rcases h with h | h;exact absurd h.1 (by decide);exact absurd h.2 (by decide)),if_neg (show ¬ ((0:Nat)≠0) by decide)]
     exact eof_out hrn hbn hnn hwn hdn ht ho2 htm
  ·have hna:bN (aC l 0).text=false:=by
    unfold dY at ht
    simp only [Bool.or_eq_true,decide_eq_true_eq] at ht
    rcases ht with ht | ht | ht | ht | ht | ht | ht<;>rw [ht]<;>rfl
   have hns:(aC l 0).text≠aH:=by
    intro h
    rw [h] at ht
    exact absurd ht (by decide)
   unfold dI
   have hna2:¬ bN (aC l 0).text=true:=by rw [hna];simp
   rw [if_neg hns,if_neg hna2,if_neg hna2]
   by_cases hll:(aC l 0).text=bG
   ·rw [if_neg (show ¬ ((aC l 0).text≠aH∧(aC l 0).text≠bG∧199 < d.ops.length) from fun h=>h.2.1 hll),if_neg (show ¬ ((0:Nat)≠0) by decide),hll]
    exact yC hrn hbn hnn hwn hdn hll
   by_cases h2:199 < d.ops.length
   ·rw [if_pos (show (aC l 0).text≠aH∧(aC l 0).text≠bG∧199 < d.ops.length from ⟨hns,hll,h2⟩),if_pos (show (4:Nat)≠0 by decide)]
    have e:=ops_long (m:=N) hbn (by rw [hrn.ops];omega) _ ht hll
    refine out_bad ?_
    rw [bY (by rw [e];show (4:Int)≠0;decide),e]
    exact ⟨rfl,rfl,rfl,Nat.succ_ne_zero _⟩
   ·rw [if_neg (show ¬ ((aC l 0).text≠aH∧(aC l 0).text≠bG∧199 < d.ops.length) from fun h=>h2 h.2.2),if_neg (show ¬ ((0:Nat)≠0) by decide)]
    have h3:¬ 200≤N.ops.length:=by rw [hrn.ops];omega
    unfold dY at ht
    simp only [Bool.or_eq_true,decide_eq_true_eq] at ht
    rcases ht with ht | ht | ht | ht | ht | ht | ht
    ·rw [ht];exact send_out hrn hbn hnn hwn hdn ht h3
    ·rw [ht];exact vB hrn hbn hnn hwn hdn ht h3
    ·rw [ht];exact goto_out hrn hbn hnn hwn hdn ht h3
    ·rw [ht];exact xN hrn hbn hnn hwn hdn ht h3
    ·rw [ht];exact done_out hrn hbn hnn hwn ht h3
    ·rw [ht];exact fail_out hrn hbn hnn hwn ht h3
    ·exact absurd ht hll
end
theorem rI (l:List (List UInt8)):∀ (f i:Nat) (m:PM) (d:DM),Rel m d→m.st.bad=0→kU (mGo l f i m)=kH (dGo l f i d)
 | 0,i,m,d,hr,h0=>by
  unfold mGo dGo kU kH
  simp only
  rw [if_neg (by omega),hr.head]
  split
  ·rfl
  ·have e:∀ (us:List UseM) (ops:List OpM),jJ m.labels us ops=iH d.labels us ops:=by
    intro us
    induction us with
    | nil=>intro ops;rfl
    | cons u r ih =>
     intro ops
     unfold jJ iH
     have h1:=hr.has u.name
     have h2:=hr.lb u.name
     cases hc:lbF u.name m.labels with
     | none =>
      rw [hc] at h2
      rw [if_pos (by rw [h2];decide)]
     | some v =>
      have:=hr.lbp _ _ hc
      rw [hc] at h2
      rw [if_neg (by rw [h2];show ¬ v < 0;omega)]
      show jJ m.labels r (eX ops u v)=_
      rw [ih,h2]
      rfl
   rw [e,hr.ops,hr.uses,hr.name,hr.dl,hr.jm]
   all_goals (split<;>rename_i h<;>rw [h])
 | f + 1,i,m,d,hr,h0=>by
  unfold mGo dGo
  rw [if_neg (by omega)]
  by_cases hi:idleB (l.getD i [])=true
  ·rw [if_pos hi]
   have e:iV m i (l.getD i [])=m:=by unfold iV;rw [if_pos hi]
   rw [e]
   exact rI l f (i + 1) m d hr h0
  ·rw [if_neg hi]
   have h:=sY hr h0 i (l.getD i []) (by simpa using hi)
   generalize iV m i (l.getD i [])=m' at h ⊢
   generalize eO d (l.getD i [])=x at h ⊢
   unfold Out at h
   by_cases hx:x.2=0
   ·rw [if_pos hx] at h
    rw [if_neg (by omega)]
    exact rI l f (i + 1) m' _ h.2 h.1
   ·rw [if_neg hx] at h
    rw [if_pos hx]
    have hb:=h.ne
    have hg:∀ f i,mGo l f i m'=m':=by
     intro f i
     cases f with
     | zero=>rfl
     | succ f=>unfold mGo;rw [if_pos hb]
    rw [hg]
    unfold kU kH
    simp only
    rw [if_pos hb,h.1,h.2.1,h.2.2.1]
theorem kO (s:List UInt8):dH s=eT s :=
 rI _ _ _ _ _ ⟨rfl,rfl,rfl,rfl,rfl,rfl,rfl,fun h=>absurd h (by decide),fun h=>absurd h (by decide),fun _=>rfl,fun k v h=>(by cases h),fun p hp=>(by cases hp)⟩ rfl
end Go.Proofs.YtaioaojfdngfdaaGreatDoor
