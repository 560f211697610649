/- Parts of a chain of lemmas: Lines, Par5, Par6. Conditions: those of each theorem. -/
import Derived.Test.YtaioaojfdngfdaaGreatDoorPg24
import Derived.Test.YtaioaojfdngfdaaGreatDoorPg16
import Derived.Test.YtaioaojfdngfdaaGreatDoorPg27
import Derived.Test.YtaioaojfdngfdaaGreatDoorPg09
set_option linter.unusedVariables false
set_option linter.unusedSimpArgs false
set_option maxHeartbeats 6400000
namespace Go.Proofs.YtaioaojfdngfdaaGreatDoor
open Go.RowKit
theorem oH:∀ (L cur:List UInt8),Lib.indexByte L 10 = -1→aV L cur=[cur++L]
 | [],cur,_=>by simp [aV]
 | c :: r,cur,h=>by
  unfold Lib.indexByte at h
  by_cases hc:c=10
  ·rw [if_pos (by simp [hc])] at h;omega
  ·rw [if_neg (by simpa using hc)] at h
   have h2:Lib.indexByte r 10 = -1:=by
    split at h
    ·rename_i hh;exact beq_iff_eq.1 hh
    ·rename_i hh
     have:=Lib.indexByte_ge r 10
     omega
   unfold aV
   rw [if_neg hc,oH r _ h2,List.append_assoc]
   rfl
theorem qF:∀ (L cur:List UInt8) (i:Nat),Lib.indexByte L 10=i→aV L cur=(cur++L.take i) :: aV (L.drop (i + 1)) []
 | [],cur,i,h=>by unfold Lib.indexByte at h;omega
 | c :: r,cur,i,h=>by
  unfold Lib.indexByte at h
  by_cases hc:c=10
  ·rw [if_pos (by simp [hc])] at h
   obtain rfl:i=0:=by omega
   rw [show aV (c :: r) cur=if c=10 then cur :: aV r [] else aV r (cur++[c]) from rfl,if_pos hc]
   simp
  ·rw [if_neg (by simpa using hc)] at h
   split at h
   ·omega
   ·obtain ⟨j,rfl⟩:∃ j,i=j + 1:=⟨i - 1,by
     rename_i hh
     have:=Lib.indexByte_ge r 10
     have:Lib.indexByte r 10≠-1:=fun e=>hh (beq_iff_eq.2 e)
     omega⟩
    rw [show aV (c :: r) cur=if c=10 then cur :: aV r [] else aV r (cur++[c]) from rfl,if_neg hc,qF r _ j (by omega)]
    simp
theorem jK:∀ (k:Nat) (L:List UInt8),Lib.count L [10]=k→Lib.splitK [10] 0 k L=bI L
 | 0,L,h=>by
  unfold Lib.splitK bI
  have hm:Lib.index L [10] = -1:=by
   have hge:=Lib.index_ge L [10]
   by_cases he:Lib.index L [10] = -1
   ·exact he
   ·have:=Lib.count_hit (s:=L) (sub:=[10]) (i:=(Lib.index L [10]).toNat) (by simp) (by omega)
    omega
  rw [Lib.index_one] at hm
  rw [oH L [] hm]
  rfl
 | k + 1,L,h=>by
  have hge:=Lib.index_ge L [10]
  have hne:Lib.index L [10]≠-1:=fun e=>by rw [Lib.count_miss e] at h;omega
  obtain ⟨i,hi⟩:∃ i:Nat,Lib.index L [10]=i:=⟨(Lib.index L [10]).toNat,by omega⟩
  have hc:=Lib.count_hit (s:=L) (sub:=[10]) (by simp) hi
  unfold Lib.splitK bI
  rw [if_neg (by simpa using hne),hi]
  simp only [Int.toNat_natCast,Nat.add_zero,List.length_singleton]
  rw [jK k (L.drop (i + 1)) (by simp only [List.length_singleton] at hc;omega)]
  rw [Lib.index_one] at hi
  rw [qF L [] i hi]
  rfl
theorem nl_split (s:ByteArray):(Lib.splitB ⟨#[10]⟩ 0 (Lib.countB s ⟨#[10]⟩) s).map Value.string=flat encLn (bI s.data.toList):=by
 have h:=Lib.splitB_data ⟨#[10]⟩ 0 (Lib.countB s ⟨#[10]⟩) s
 rw [show (⟨#[10]⟩:ByteArray).data.toList=[10] from rfl,jK _ _ rfl] at h
 rw [← h]
 generalize Lib.splitB ⟨#[10]⟩ 0 (Lib.countB s ⟨#[10]⟩) s=X
 induction X with
 | nil=>rfl
 | cons a r ih=>rw [List.map_cons,ih];rfl
theorem nl_len (s:ByteArray):Lib.countB s ⟨#[10]⟩ + 1=(bI s.data.toList).length:=by
 rw [← Lib.splitB_all ⟨#[10]⟩ (Nat.le_refl 1) 0 _ s rfl,← jK _ _ (rfl:Lib.count s.data.toList [10]=_),← List.length_map (·.data.toList),Lib.splitB_data]
def LenV (w:World):Prop:=∃ m,w.cell? ⟨2,0,none⟩=some (.int .i64 m)
theorem LenV.below {w w':World} (h:LenV w) (hb:Below w.heap.size w w'):LenV w':=h.elim fun m h1=>⟨m,wI hb h1⟩
theorem wM (s:ByteArray) (w:World) (hs:s.size≤1000000000) (hl:LenV w):Calls Tryz.prog 36 #[.string s] w fun e w'=>e=.returned (.slice (some ⟨w.heap.size,0,none⟩) (bI s.data.toList).length (bI s.data.toList).length)∧Blk w' w.heap.size 9 (flat encLn (bI s.data.toList)).toArray∧Below w.heap.size w w':=by
 obtain ⟨m,hm⟩:=hl
 have HC:=hide (Tryz.strings_Split s ⟨#[10]⟩ m w (by omega) hm (Nat.le_refl 1))
 have HL:=hide (nl_len s)
 have HS:=hide (nl_split s)
 obtain ⟨n,hn⟩:∃ n,n=Lib.countB s ⟨#[10]⟩:=⟨_,rfl⟩
 rw [← hn] at HC HL HS
 clear hn hm
 go_enter Tryz.func36,Tryz.ntmps36
 go_wp2_with (go_at_call 67;refine HC.out.mono ?_;rintro e wq ⟨rfl,hwq⟩;rw [hwq];clear hwq)
 go_ret
 refine ⟨by rw [← HL.out];rfl,?_,(Below.refl _ w).alloc (Nat.le_refl _) _⟩
 rw [HS.out]
 exact Blk.new _ _ _
theorem FrOk.of {f f':Fr} (h:FrOk f) (e1:f'.ws=f.ws:=by rfl) (e2:f'.width=f.width:=by rfl):FrOk f':=⟨by rw [e1];exact h.len,by rw [e1];exact h.at_,by rw [e1];exact h.txt,by rw [e2];exact h.lo,by rw [e2];exact h.hi⟩
theorem qS (line width:Int) (ws:List WordM) (s:St) (q:Bool):(aJ line width ws s q).2.nx≤s.nx + 1:=by
 unfold aJ
 split
 ·exact Nat.le_succ _
 split
 ·exact Nat.le_succ _
 split<;>exact Nat.le_refl _
theorem gK (line:Int) (s:St) (c e:Int):(bE line s c e).nx=s.nx:=by unfold bE;split<;>rfl
theorem name_nx (line width:Int) (ws:List WordM) (s:St):(b9 line width ws s).2.nx≤s.nx + 1:=by
 have h:=qS line width ws s false
 unfold b9
 split
 ·rw [gK];exact h
 ·exact h
theorem num_nx (line:Int) (s:St) (x:WordM) (a b:Int):(kF line s x a b).2.nx=s.nx:=by
 unfold kF
 split
 ·exact gK _ _ _ _
 ·rfl
theorem ticks_nx (line width:Int) (ws:List WordM) (s:St) (a:Int) (b:Bool):(bT line width ws s a b).2.nx≤s.nx + 1:=by
 have h:=qS line width ws s false
 unfold bT
 split
 ·exact h
 split
 ·exact h
 ·rw [num_nx];exact h
theorem pat_nx (line width:Int) (ws:List WordM) (s:St):(cP line width ws s).2.nx≤s.nx + 1:=by
 have h:=qS line width ws s true
 unfold cP
 split
 ·exact h
 split
 ·rw [gK];exact h
 split
 ·rw [gK];exact h
 ·exact h
theorem ErrV.only {w w':World} {B:Nat} (h:ErrV w) (hB : 8 < B) (k:OnB B w w'):ErrV w':=by
 obtain ⟨ev,h1,h2⟩:=h
 exact ⟨ev,okeepB k (fun h3=>by have h4:B≤8:=h3;omega) h1,h2⟩
theorem Tryz.fieldW0 (s:ByteArray) (q:Bool) (i:Int) (w:World):(Instr.field 128 (.agg #[.string s,.bool q,.int .i64 i]) 0).run Tryz.prog w=.ok (.string s) w:=by kernel_rfl
set_option maxRecDepth 100000 in
theorem pbegin_c (B a:Nat) (p:Pp) (n:Nat) (w:World) (h:PAt w B a p) (hz:MSz p.pl n) (hnx:p.st.nx≤10) (hev:ErrV w) (hB : 8 < B):Calls Tryz.prog 71 #[.pointer (some ⟨a,0,none⟩)] w fun e w'=>e=.returned (.tuple #[])∧Did w w' B a (gW p.pl):=by
 have hBa:=h.base
 have hfr:=hz.fr
 obtain ⟨N,hN⟩:∃ N,N=b9 p.line p.width p.ws p.st:=⟨_,rfl⟩
 obtain ⟨T,hT⟩:∃ T,T=bT p.line p.width p.ws N.2 1 true:=⟨_,rfl⟩
 obtain ⟨W,hW⟩:∃ W,W=aJ p.line p.width p.ws T.2 false:=⟨_,rfl⟩
 obtain ⟨M,hM⟩:∃ M,M=kF p.line W.2 W.1.1 0 1000:=⟨_,rfl⟩
 have hnN:N.2.nx≤11:=by have:=name_nx p.line p.width p.ws p.st;rw [← hN] at this;omega
 have hnT:T.2.nx≤12:=by have:=ticks_nx p.line p.width p.ws N.2 1 true;rw [← hT] at this;omega
 have hsz:=g8 (f:=p.fr) hfr T.2 false
 rw [show aJ p.fr.line p.fr.width p.fr.ws T.2 false=W from hW.symm] at hsz
 have HE:=hide (show gW p.pl=if W.1.2=true then ({ p with head:=true,name:=bs N.1.text,dl:=T.1,jm:=M.1,st:=M.2 }:Pp).pl else ({ p with head:=true,name:=bs N.1.text,dl:=T.1,st:=W.2 }:Pp).pl by
  have e1:mDl (uW p.pl)=({ p with head:=true,name:=bs N.1.text,dl:=T.1,st:=T.2 }:Pp).pl:=by rw [hT,hN];rfl
  unfold gW
  rw [e1,hM,hW]
  rfl)
 have HNm:=hide (fun (X:World) (P:PAt X B a { p with head:=true })=>uU a ({ p with head:=true }:Pp).fr p.st X P.blk hfr.of P.wordsOf (by omega))
 have HTk:=hide (fun (X:World) (P:PAt X B a { p with head:=true,name:=bs N.1.text,st:=N.2 }) (hv:ErrV X)=>qU a ({ p with head:=true,name:=bs N.1.text,st:=N.2 }:Pp).fr N.2 1 true X P.blk hfr.of P.wordsOf (by omega) hv (by omega))
 have HWd:=hide (fun (X:World) (P:PAt X B a { p with head:=true,name:=bs N.1.text,dl:=T.1,st:=T.2 })=>nE a ({ p with head:=true,name:=bs N.1.text,dl:=T.1,st:=T.2 }:Pp).fr T.2 false X P.blk hfr.of P.wordsOf (by omega))
 have HNu:=hide (fun (X:World) (P:PAt X B a { p with head:=true,name:=bs N.1.text,dl:=T.1,st:=W.2 }) (hv:ErrV X)=>pnum_c a ({ p with head:=true,name:=bs N.1.text,dl:=T.1,st:=W.2 }:Pp).fr W.2 W.1.1.text W.1.1.quoted W.1.1.at_ 0 1000 X P.blk hsz.1 hsz.2.1 hv)
 rw [show b9 ({ p with head:=true }:Pp).fr.line ({ p with head:=true }:Pp).fr.width ({ p with head:=true }:Pp).fr.ws p.st=N from hN.symm] at HNm
 rw [show bT ({ p with head:=true,name:=bs N.1.text,st:=N.2 }:Pp).fr.line ({ p with head:=true,name:=bs N.1.text,st:=N.2 }:Pp).fr.width ({ p with head:=true,name:=bs N.1.text,st:=N.2 }:Pp).fr.ws N.2 1 true=T from hT.symm] at HTk
 rw [show aJ ({ p with head:=true,name:=bs N.1.text,dl:=T.1,st:=T.2 }:Pp).fr.line ({ p with head:=true,name:=bs N.1.text,dl:=T.1,st:=T.2 }:Pp).fr.width ({ p with head:=true,name:=bs N.1.text,dl:=T.1,st:=T.2 }:Pp).fr.ws T.2 false=W from hW.symm] at HWd
 rw [show kF ({ p with head:=true,name:=bs N.1.text,dl:=T.1,st:=W.2 }:Pp).fr.line W.2 ⟨W.1.1.text,W.1.1.quoted,W.1.1.at_⟩ 0 1000=M from hM.symm] at HNu
 have H:=hide h
 have HV:=hide (fun (X:World) (k:OnB B w X)=>hev.only hB k)
 clear hN hT hW hM h hz hev hnN hnT hsz hfr
 obtain ⟨⟨Nt,Nq,Na⟩,N2⟩:=N
 obtain ⟨T1,T2⟩:=T
 obtain ⟨⟨⟨xt,xq,xa⟩,ok⟩,W2⟩:=W
 obtain ⟨M1,M2⟩:=M
 simp only at HE HNm HTk HWd HNu
 go_enter Tryz.func71,Tryz.ntmps71
 have c6:=H.out.cells.2.2.2.2.2.2.1
 have f6:=H.out.frozen 6
 go_wp2_with fail
 generalize hV:World.setCell w _ _=V
 have hP1:PAt V B a { p with head:=true }:=by rw [← hV];exact (H.out.cell (p':={ p with head:=true }) 6 _ rfl).1
 have hO1:OnB B w V:=by rw [← hV];exact (H.out.cell (p':={ p with head:=true }) 6 _ rfl).2
 clear hV c6 f6
 refine (HNm.out V hP1).mono ?_
 rintro e w1 ⟨rfl,hb,ho⟩
 have HP2:=hide (hP1.st ho hb)
 have HO2:=hide (hO1.trans (hP1.only ho))
 clear hb ho hP1 hO1
 have c0:=HP2.out.cells.1
 have f0:=HP2.out.frozen 0
 have hfd:=Tryz.fieldW0 (bs Nt) Nq Na w1
 go_wp2_with fail
 generalize hV:World.setCell w1 _ _=V
 have hP3:PAt V B a { p with head:=true,name:=bs Nt,st:=N2 }:=by rw [← hV];exact (HP2.out.cell (p':={ p with head:=true,name:=bs Nt,st:=N2 }) 0 _ rfl).1
 have hO3:OnB B w V:=by rw [← hV];exact HO2.out.trans (HP2.out.cell (p':={ p with head:=true,name:=bs Nt,st:=N2 }) 0 _ rfl).2
 clear hV c0 f0 hfd
 refine (HTk.out V hP3 (HV.out V hO3)).mono ?_
 rintro e w2 ⟨rfl,hb,ho⟩
 have HP4:=hide (hP3.st ho hb)
 have HO4:=hide (hO3.trans (hP3.only ho))
 clear hb ho hP3 hO3
 have c1:=HP4.out.cells.2.1
 have f1:=HP4.out.frozen 1
 go_wp2_with fail
 generalize hV:World.setCell w2 _ _=V
 have hP5:PAt V B a { p with head:=true,name:=bs Nt,dl:=T1,st:=T2 }:=by rw [← hV];exact (HP4.out.cell (p':={ p with head:=true,name:=bs Nt,dl:=T1,st:=T2 }) 1 _ rfl).1
 have hO5:OnB B w V:=by rw [← hV];exact HO4.out.trans (HP4.out.cell (p':={ p with head:=true,name:=bs Nt,dl:=T1,st:=T2 }) 1 _ rfl).2
 clear hV c1 f1
 refine (HWd.out V hP5).mono ?_
 rintro e w3 ⟨rfl,hb,ho⟩
 have HP6:=hide (hP5.st ho hb)
 have HO6:=hide (hO5.trans (hP5.only ho))
 clear hb ho hP5 hO5
 cases ok with
 | false =>
  go_wp2_with fail
  go_end0
  refine ⟨rfl,⟨_,HP6.out.alloc _,?_⟩,HO6.out.alloc _⟩
  rw [HE.out];rfl
 | true =>
  go_wp2_with fail
  generalize hX:World.alloc w3 _=X
  have hP7:PAt X B a { p with head:=true,name:=bs Nt,dl:=T1,st:=W2 }:=by rw [← hX];exact HP6.out.alloc _
  have hO7:OnB B w X:=by rw [← hX];exact HO6.out.alloc _
  clear hX
  refine (HNu.out X hP7 (HV.out X hO7)).mono ?_
  rintro e w4 ⟨rfl,hb,ho⟩
  have HP8:=hide (hP7.st ho hb)
  have HO8:=hide (hO7.trans (hP7.only ho))
  clear hb ho hP7 hO7
  have c2:=HP8.out.cells.2.2.1
  have f2:=HP8.out.frozen 2
  go_wp2_with fail
  go_end0
  refine ⟨rfl,⟨_,(HP8.out.cell (p':={ p with head:=true,name:=bs Nt,dl:=T1,jm:=M1,st:=M2 }) 2 _ rfl).1,?_⟩,HO8.out.trans (HP8.out.cell (p':={ p with head:=true,name:=bs Nt,dl:=T1,jm:=M1,st:=M2 }) 2 _ rfl).2⟩
  rw [HE.out];rfl
theorem last_op {p:Pp} {i:Nat} (h:p.L.length=i + 1):eZ p.pl=(opAt p.L i).o:=by
 unfold eZ
 show (p.L.map (·.o)).getD ((p.L.map (·.o)).length - 1) op0=_
 rw [List.length_map,h,List.getD_eq_getElem?_getD,List.getElem?_map,show i + 1 - 1=i by omega,bO (by omega)]
 rfl
theorem jX (L:List OpV) (i:Nat) (v:OpV):(L.set i v).map (·.o)=(L.map (·.o)).set i v.o:=List.map_set
theorem sQ {L:List OpV} {i:Nat} {v:OpV} (h:i < L.length):opAt (L.set i v) i=v:=by
 have h1:=bO (l:=L.set i v) (k:=i) (by rw [List.length_set];exact h)
 rw [List.getElem?_set_self h] at h1
 injection h1 with h1
 exact h1.symm
theorem MSz.arm {p:Pp} {n i:Nat} {v:OpV} {s:St} (h:MSz p.pl n) (hn:n≤999000) (hv:v.o.arms.length≤n + 1) (hs:s.nx≤1000000):MSz ({ p with st:=s,L:=p.L.set i v }:Pp).pl (n + 1):=by
 refine ⟨?_,Nat.le_succ_of_le h.uses,Nat.le_succ_of_le h.labels,?_,h.len,h.at_,h.txt,h.lo,h.hi,hs,by omega⟩
 ·have:=h.ops
  show ((p.L.set i v).map (·.o)).length≤n + 1
  rw [List.length_map,List.length_set]
  have e:(p.L.map (·.o)).length≤n:=this
  rw [List.length_map] at e
  omega
 ·intro o ho
  have ho2:o ∈ (p.L.set i v).map (·.o):=ho
  rw [jX] at ho2
  rcases List.mem_or_eq_of_mem_set ho2 with h1 | h1
  ·exact Nat.le_succ_of_le (h.arms o h1)
  ·rw [h1];exact hv
theorem MSz.tw {p:Pp} {n:Nat} {s:St} {b c:Bool} (h:MSz p.pl n) (hs:s.nx≤1000000):MSz ({ p with st:=s,t0:=b,t1:=c }:Pp).pl n:=⟨h.ops,h.uses,h.labels,h.arms,h.len,h.at_,h.txt,h.lo,h.hi,hs,h.small⟩
set_option maxRecDepth 100000 in
theorem uO (B a:Nat) (p:Pp) (n:Nat) (t:List UInt8) (w:World) (h:PAt w B a p) (hz:MSz p.pl n) (hn:n≤999000) (hnx:p.st.nx≤10) (hsf:p.opn=true→p.L≠[]):Calls Tryz.prog 72 #[.pointer (some ⟨a,0,none⟩),.string (bs t)] w fun e w'=>e=.returned (.tuple #[])∧Did w w' B a (dE p.pl t):=by
 obtain ⟨ia,hia,hz0,hz1,hz2⟩:=info_parts Tryz.infoArm
 have hBa:=h.base
 have H:=hide h
 have HFl:=hide (fun (e:Int) (w:World) (h:PAt w B a p)=>eA a p.fr p.st 0 e w h.blk (by omega) (by omega))
 have c7:=h.cells.2.2.2.2.2.2.2.1
 obtain ⟨s,hs⟩:∃ s,s=bs t:=⟨_,rfl⟩
 have hsl:s.toList=t:=by rw [hs,ByteArray.toList_eq]
 rw [← hs]
 clear hs
 by_cases ho:p.opn=false
 case pos =>
  have HE:=hide (show dE p.pl t=({ p with st:=bE p.line p.st 0 8 }:Pp).pl by unfold dE;rw [if_pos (show p.pl.opn=false from ho)];rfl)
  rw [ho] at c7
  clear h hz hsf ho hsl
  go_enter Tryz.func72,Tryz.ntmps72
  go_wp2_with fail
  refine (HFl.out 8 w H.out).mono ?_
  rintro e w1 ⟨rfl,hb,hoo⟩
  go_wp2_with fail
  refine bodyPost_ret (v:=.tuple #[]) (by simp [results,Tryz.results72,go_sem]) rfl ?_
  exact ⟨rfl,⟨_,H.out.st hoo hb,by rw [HE.out];rfl⟩,H.out.only hoo⟩
 have ho2:p.opn=true:=by simpa using ho
 rw [ho2] at c7
 obtain ⟨i,hi⟩:∃ i,p.L.length=i + 1:=⟨p.L.length - 1,by have:=List.length_pos_iff.2 (hsf ho2);omega⟩
 obtain ⟨g,hoA,hgB,hgl⟩:=h.ops.at_ (i:=i) (by omega)
 have hops:=h.ops
 rw [hoA] at hops
 obtain ⟨⟨_,_,_,_,k4,_,_⟩,kf⟩:=hops.cells (i:=i) (by omega)
 have c3:=h.cells.2.2.2.1
 rw [hoA,hi] at c3
 have hlo:=last_op hi
 have hva:(opAt p.L i).o.arms.length≤n:=hz.arms _ (List.mem_map.2 ⟨_,cJ (by omega),rfl⟩)
 have hnn:i + 1≤n:=by have e:(p.L.map (·.o)).length≤n:=hz.ops;rw [List.length_map] at e;omega
 have hns:=hz.small
 have w1:IntKind.i64.wrap ((i:Int) + 1 - 1)=(i:Int):=by rw [show (i:Int) + 1 - 1=(i:Int) by omega];exact IntWalk.i64_in _ (by omega)
 have w2:IntKind.i64.wrap (i:Int)=(i:Int):=IntWalk.i64_in _ (by omega)
 have j1:(0:Int)≤(i:Int):=by omega
 have j2:(i:Int) < (i:Int) + 1:=by omega
 have HoA:=hide hoA
 have Hi:=hide hi
 have HSf:=hide (show g≠a∧i < p.L.length from ⟨fun e=>by obtain ⟨cs,hc⟩:=aZ hops.row rfl;exact Blk.ne_ hc h.blk (by decide) e,by omega⟩)
 have Hgl:=hide hgl
 have Hz:=hide hz
 have Hnn:=hide hnn
 clear hgl hops hsf ho hnn
 by_cases hOn:t=kOn
 case pos =>
  have q1:(s.toList == [111,110])=true:=by rw [hsl,hOn];rfl
  clear hsl
  by_cases h8:8≤(opAt p.L i).o.arms.length
  case pos =>
   have HE:=hide (show dE p.pl t=({ p with st:=bE p.line p.st 0 4 }:Pp).pl by unfold dE;rw [if_neg (show ¬ p.pl.opn=false by show ¬ p.opn=false;rw [ho2];simp),if_pos hOn,hlo,if_pos h8];rfl)
   have q2:decide ((8:Int)≤((opAt p.L i).o.arms.length:Int))=true:=by simp;omega
   clear h hz hOn h8 hlo hva ho2 hi hoA
   go_enter Tryz.func72,Tryz.ntmps72
   go_wp2_with fail
   refine (HFl.out 4 w H.out).mono ?_
   rintro e w1 ⟨rfl,hb,hoo⟩
   go_wp2_with fail
   refine bodyPost_ret (v:=.tuple #[]) (by simp [results,Tryz.results72,go_sem]) rfl ?_
   exact ⟨rfl,⟨_,H.out.st hoo hb,by rw [HE.out];rfl⟩,H.out.only hoo⟩
  case neg =>
   have q2:decide ((8:Int)≤((opAt p.L i).o.arms.length:Int))=false:=by simp;omega
   obtain ⟨P,hP⟩:∃ P,P=cP p.line p.width p.ws p.st:=⟨_,rfl⟩
   have HPt:=hide (xO a p.fr p.st)
   have HPe:=hide (show cP p.fr.line p.fr.width p.fr.ws p.st=P from hP.symm)
   have hPn:P.2.nx≤11:=by have:=pat_nx p.line p.width p.ws p.st;rw [← hP] at this;omega
   have HE:=hide (show ∀ A c,dE p.pl t=cQ ({ p with st:=P.2,L:=p.L.set i ⟨bQ (opAt p.L i).o P.1,A,c⟩ }:Pp).pl ((opAt p.L i).o.arms.length:Nat) from fun A c=>by
    unfold dE
    rw [if_neg (show ¬ p.pl.opn=false by show ¬ p.opn=false;rw [ho2];simp),if_pos hOn,hlo,if_neg h8]
    unfold mOn mPat
    rw [hlo,show cP p.pl.line p.pl.width p.pl.ws p.pl.st=P from hP.symm]
    congr 1
    unfold eH
    show _=PM.mk _ _ _ ((p.L.set i _).map (·.o)) _ _ _ _ _ _ _ _ _ _
    rw [jX,show p.pl.ops.length - 1=i by show (p.L.map (·.o)).length - 1=i;rw [List.length_map,hi];rfl]
    rfl)
   have HPc:=hide (fun (X:World) (Q:PAt X B a p)=>HPt.out X Q.blk hz.fr Q.wordsOf (by omega))
   rw [HPe.out] at HPc
   clear h hz hOn hlo ho2 hi hoA hP HPt HPe
   obtain ⟨pt,s1⟩:=P
   simp only at HPc HE hPn
   obtain ⟨v,hv⟩:∃ v,v=opAt p.L i:=⟨_,rfl⟩
   have Hv:=hide hv
   rw [← hv] at k4 HE q2 hva h8
   clear hv
   obtain ⟨vo,vA,vc⟩:=v
   simp only at k4 HE q2 hva h8
   go_enter Tryz.func72,Tryz.ntmps72
   go_upto_region 9 with fail
   obtain ⟨V0,hV0⟩:∃ V9,V9=w.drew:=⟨_,rfl⟩
   have HP0:=hide (H.out.drew)
   have HO0:=hide ((OnB.refl B w).drew)
   have K0:V0.cell? ⟨g,i * 7 + 4,none⟩=some (.slice vA vo.arms.length vc):=by rw [hV0];exact k4
   have hglV:g < V0.heap.size:=by rw [hV0];exact Hgl.out
   rw [← hV0] at HP0 HO0
   refine aS (l1:=?_) (l2:=?_) 12 (fun w'=>w'.cell? ⟨g,i * 7 + 4,none⟩=some (.slice vA vo.arms.length vc)) (by kernel_rfl) ?_ ?_ ?_ ?_ ?_ ?_ (fun hHeld=>?_)
   rotate_left 2
   ·simp
   ·kernel_rfl
   ·kernel_rfl
   ·simp only [List.take_succ_cons,List.take_zero];rfl
   ·simp only [List.drop_succ_cons,List.drop_zero];rfl
   ·rw [← hV0];exact K0
   rw [← hV0] at hHeld ⊢
   clear hV0
   refine tk 0 ?_ rfl ?_ ?_
   rotate_left
   ·(intro w9 hS9;(try simp only [ga]);go_simp<;>rfl)
   refine tk 1 ?_ rfl ?_ ?_
   rotate_left
   ·(intro w9 hS9;(try simp only [ga]);go_simp<;>rfl)
   refine tk 2 ?_ rfl ?_ ?_
   rotate_left
   ·(intro w9 hS9;(try simp only [ga]);go_simp<;>rfl)
   refine tk 3 ?_ rfl ?_ ?_
   rotate_left
   ·(intro w9 hS9;(try simp only [ga]);go_simp<;>rfl)
   refine tk 4 ?_ rfl ?_ ?_
   rotate_left
   ·(intro w9 hS9;(try simp only [ga]);go_simp<;>rfl)
   refine tk 5 ?_ rfl ?_ ?_
   rotate_left
   ·(intro w9 hS9;(try simp only [ga]);go_simp<;>rfl)
   try simp only [Act.put,gp]
   refine rdy 6 rfl (fun K hK=>?_)
   try simp only [ga]
   try go_simp
   go_at_call 114
   refine (HPc.out V0 HP0.out).mono ?_
   rintro e V1 ⟨rfl,hb1,ho1⟩
   have HP1:=hide (HP0.out.st ho1 hb1)
   have HO1:=hide (HO0.out.trans (HP0.out.only ho1))
   have HK1:=hide (show V1.cell? ⟨g,i * 7 + 4,none⟩=some (.slice vA vo.arms.length vc) from cM ho1 (fun e=>HSf.out.1 e) K0)
   clear hb1 ho1 hglV
   refine hK.out _ _ HK1.out (fun hHeld=>?_)
   clear hK K
   refine tk 7 ?_ rfl ?_ ?_
   rotate_left
   ·(intro w9 hS9;(try simp only [ga]);go_simp<;>rfl)
   try simp only [Act.put,gp]
   refine rdy 8 rfl (fun K hK=>?_)
   try simp only [ga]
   try go_simp
   obtain ⟨V2,hV2⟩:∃ V9,V9=V1.alloc (.cells (encArm (⟨bs pt,0⟩:ArmM)).toArray 94):=⟨_,rfl⟩
   have HP2:=hide (HP1.out.alloc (.cells (encArm (⟨bs pt,0⟩:ArmM)).toArray 94))
   have HO2:=hide (HO1.out.alloc (.cells (encArm (⟨bs pt,0⟩:ArmM)).toArray 94))
   have HI2:=hide (Blk.new V1 94 (encArm (⟨bs pt,0⟩:ArmM)).toArray)
   rw [← hV2] at HP2 HO2 HI2
   simp only [encArm] at hV2
   rw [← hV2]
   clear hV2
   have HCel:=hide (fun (X:World) (Q:PAt X B a { p with st:=s1 })=>(show X.cell? ⟨g,i * 7 + 4,none⟩=some (.slice vA vo.arms.length vc) by
    have q:=Q.ops
    rw [show ({ p with st:=s1 }:Pp).oA=some ⟨g,0,none⟩ from HoA.out] at q
    have q2:=(q.cells (i:=i) HSf.out.2).1.2.2.2.2.1
    rw [show opAt ({ p with st:=s1 }:Pp).L i=⟨vo,vA,vc⟩ from Hv.out.symm] at q2
    exact q2))
   refine hK.out _ _ (HCel.out V2 HP2.out) (fun hHeld=>?_)
   clear hK K
   try simp only [Act.put,gp]
   refine rdy 9 rfl (fun K hK=>?_)
   have hbs:B≤V2.heap.size:=by have:=HP2.out.lt;omega
   have harm:=HP2.out.ops.arms _ (cJ (l:=p.L) (k:=i) HSf.out.2)
   rw [← Hv.out] at harm
   unfold armsV at harm
   simp only at harm
   have Harm:=hide harm
   clear harm
   refine aT V2 (by rfl) (.tmp 43) (.tmp 47) _ (by rfl) B 94 ia _ 2 24 Tryz.underlying90 hia hz0 hz1 hz2 rfl (by omega) (.slice vA vo.arms.length vc) vo.arms.length (flat encArm vo.arms) (by rfl) Harm.out aA (some ⟨V1.heap.size,0,none⟩) 1 1 (encArm (⟨bs pt,0⟩:ArmM)) (by rfl) (aY HI2.out (fun h=>h)) rfl (oN _) (by simp only [maxLen];omega) (by omega) hbs ?_
   intro v3 V3 hown2 hgr how2
   obtain ⟨A4,c4,rfl,hc4⟩:=aW hown2
   have HG3:=hide hgr
   have HOw3:=hide hown2
   have HW3:=hide how2
   have HK3:=hide (show V3.cell? ⟨g,i * 7 + 4,none⟩=some (.slice vA vo.arms.length vc) from by
    refine cM (aG hgr) (fun e=>?_) (HCel.out V2 HP2.out)
    obtain ⟨cs,hc⟩:=aZ Harm.out e
    have q:=HP2.out.ops.row
    rw [show ({ p with st:=s1 }:Pp).oA=some ⟨g,0,none⟩ from HoA.out] at q
    obtain ⟨cs2,hc2⟩:=aZ q rfl
    exact Blk.ne_ hc hc2 (by decide) rfl)
   have HKf:=hide (show V3.frozen? ⟨g,i * 7 + 4,none⟩=false from by
    have q:=HP2.out.ops.row
    rw [show ({ p with st:=s1 }:Pp).oA=some ⟨g,0,none⟩ from HoA.out] at q
    have q3:=aI (T:=94) q (aG hgr) (fun e he=>aZ Harm.out he) (by decide)
    exact q3.frozenAt _)
   clear hgr hown2 how2
   refine hK.out _ _ HK3.out (fun hHeld=>?_)
   clear hK K
   refine tk 10 ?_ rfl ?_ ?_
   rotate_left
   ·(intro w9 hS9;(try simp only [ga]);go_simp<;>rfl)
   refine tk 11 ?_ rfl ?_ ?_
   rotate_left
   ·(intro w9 hS9;(try simp only [ga]);go_simp<;>rfl)
   try simp only [Act.put,gp]
   refine wpAnyH_done (by kernel_rfl) ?_ _
   try simp only [Exit.then]
   clear hHeld
   have kk:=HK3.out
   have kkf:=HKf.out
   have HF:=hide (HP2.out.armApp (p':={ p with st:=s1,L:=p.L.set i ⟨bQ vo pt,A4,c4⟩ }) (g:=g) (i:=i) (A':=A4) (c':=c4) (v:=⟨bQ vo pt,A4,c4⟩) (x:=⟨bs pt,0⟩) HoA.out HSf.out.2 (by
    rw [show opAt ({ p with st:=s1 }:Pp).L i=⟨vo,vA,vc⟩ from Hv.out.symm]
    rw [← aB vA vo.arms.length vc];exact HG3.out) (by
    rw [show opAt ({ p with st:=s1 }:Pp).L i=⟨vo,vA,vc⟩ from Hv.out.symm]
    exact HOw3.out) (by
    rw [show opAt ({ p with st:=s1 }:Pp).L i=⟨vo,vA,vc⟩ from Hv.out.symm]
    have q:=HW3.out
    rw [aB,aB] at q
    exact q) rfl (by rw [show opAt ({ p with st:=s1 }:Pp).L i=⟨vo,vA,vc⟩ from Hv.out.symm];rfl) rfl (by
    rw [show opAt ({ p with st:=s1 }:Pp).L i=⟨vo,vA,vc⟩ from Hv.out.symm]
    simp [encOp,bQ]) rfl)
   go_upto_region 10 with fail
   generalize hV5:World.setCell V3 _ _=V5
   have HP5:=hide (show PAt V5 B a { p with st:=s1,L:=p.L.set i ⟨bQ vo pt,A4,c4⟩ } by
    rw [← hV5]
    have q:=HF.out.1
    rw [show opAt ({ p with st:=s1 }:Pp).L i=⟨vo,vA,vc⟩ from Hv.out.symm] at q
    exact q)
   have HO5:=hide (show OnB B w V5 by
    rw [← hV5]
    have q:=HO2.out.trans HF.out.2
    rw [show opAt ({ p with st:=s1 }:Pp).L i=⟨vo,vA,vc⟩ from Hv.out.symm] at q
    exact q)
   clear hV5 kk kkf
   have k5:V5.cell? ⟨g,i * 7 + 4,none⟩=some (.slice A4 (vo.arms.length + 1) c4):=by
    have q:=HP5.out.ops
    rw [show ({ p with st:=s1,L:=p.L.set i ⟨bQ vo pt,A4,c4⟩ }:Pp).oA=some ⟨g,0,none⟩ from HoA.out] at q
    have q2:=(q.cells (i:=i) (by show i < (p.L.set i _).length;rw [List.length_set];exact HSf.out.2)).1.2.2.2.2.1
    rw [show opAt ({ p with st:=s1,L:=p.L.set i ⟨bQ vo pt,A4,c4⟩ }:Pp).L i=⟨bQ vo pt,A4,c4⟩ from sQ HSf.out.2] at q2
    rw [show (bQ vo pt).arms.length=vo.arms.length + 1 by unfold bQ;simp] at q2
    exact q2
   have w5:IntKind.i64.wrap ((vo.arms.length:Int) + 1 - 1)=(vo.arms.length:Int):=by rw [show (vo.arms.length:Int) + 1 - 1=(vo.arms.length:Int) by omega];exact IntWalk.i64_in _ (by omega)
   have w6:IntKind.i64.wrap (vo.arms.length:Int)=(vo.arms.length:Int):=IntWalk.i64_in _ (by omega)
   have hz5:=Hz.out.arm (i:=i) (v:=⟨bQ vo pt,A4,c4⟩) (s:=s1) hn (by show (vo.arms++[_]).length≤_;rw [List.length_append];simp;omega) (by omega)
   have Hz5:=hide hz5
   clear hz5
   go_wp2_with fail
   refine (hH B a _ (n + 1) ((vo.arms.length:Nat):Int) V5 HP5.out Hz5.out).mono ?_
   rintro e w6 ⟨rfl,⟨p6,hp6,hpl⟩,ho6⟩
   go_wp2_with fail
   refine bodyPost_ret (v:=.tuple #[]) (by simp [results,Tryz.results72,go_sem]) rfl ?_
   exact ⟨rfl,⟨p6,hp6,by rw [hpl,HE.out A4 c4]⟩,HO5.out.trans ho6⟩
 case neg =>
  have q1:(s.toList == [111,110])=false:=by rw [hsl];exact beq_eq_false_iff_ne.2 hOn
  have c8:=h.cells.2.2.2.2.2.2.2.2.1
  have c9:=h.cells.2.2.2.2.2.2.2.2.2
  have hnop:¬ p.pl.opn=false:=by show ¬ p.opn=false;rw [ho2];simp
  clear k4 hva hlo hz h hi hoA
  by_cases hE:t=dK
  case pos =>
   have q2:(s.toList == [101,111,102])=true:=by rw [hsl,hE];rfl
   have f9:=H.out.frozen 9
   clear hsl
   cases htw:p.t1 with
   | true =>
    rw [htw] at c9
    have HE:=hide (show dE p.pl t=cQ ({ p with t1:=true,st:=bE p.line p.st 0 6 }:Pp).pl (-3) by
     unfold dE
     rw [if_neg hnop,if_neg hOn,if_pos hE]
     congr 1
     unfold xX
     rw [if_pos (show p.pl.t1=true from htw)]
     rfl)
    have Hz2:=hide (show MSz ({ p with t1:=true,st:=bE p.line p.st 0 6 }:Pp).pl n from Hz.out.tw (by rw [gK];omega))
    clear hnop hOn hE htw ho2
    go_enter Tryz.func72,Tryz.ntmps72
    go_wp2_with fail
    refine (HFl.out 6 w H.out).mono ?_
    rintro e w1 ⟨rfl,hb,hoo⟩
    have HP1:=hide (H.out.st hoo hb)
    have HO1:=hide (H.out.only hoo)
    clear hb hoo c8 c9 f9
    have c9:=HP1.out.cells.2.2.2.2.2.2.2.2.2
    have f9:=HP1.out.frozen 9
    go_wp2_with fail
    generalize hV:World.setCell w1 _ _=V
    have hP2:PAt V B a { p with t1:=true,st:=bE p.line p.st 0 6 }:=by rw [← hV];exact (HP1.out.cell (p':={ p with t1:=true,st:=bE p.line p.st 0 6 }) 9 _ rfl).1
    have hO2:OnB B w V:=by rw [← hV];exact HO1.out.trans (HP1.out.cell (p':={ p with t1:=true,st:=bE p.line p.st 0 6 }) 9 _ rfl).2
    clear hV
    refine (hH B a _ n (-3) V hP2 Hz2.out).mono ?_
    rintro e w6 ⟨rfl,⟨p6,hp6,hpl⟩,ho6⟩
    go_wp2_with fail
    go_end0
    exact ⟨rfl,⟨p6,hp6,by rw [hpl,HE.out]⟩,hO2.trans ho6⟩
   | false =>
    rw [htw] at c9
    have HE:=hide (show dE p.pl t=cQ ({ p with t1:=true }:Pp).pl (-3) by
     unfold dE
     rw [if_neg hnop,if_neg hOn,if_pos hE]
     congr 1
     unfold xX
     rw [if_neg (show ¬ p.pl.t1=true by show ¬ p.t1=true;rw [htw];simp)]
     rfl)
    have Hz2:=hide (show MSz ({ p with t1:=true }:Pp).pl n from Hz.out.tw (by omega))
    clear hnop hOn hE htw ho2
    go_enter Tryz.func72,Tryz.ntmps72
    go_wp2_with fail
    generalize hV:World.setCell w _ _=V
    have hP2:PAt V B a { p with t1:=true }:=by rw [← hV];exact (H.out.cell (p':={ p with t1:=true }) 9 _ rfl).1
    have hO2:OnB B w V:=by rw [← hV];exact (H.out.cell (p':={ p with t1:=true }) 9 _ rfl).2
    clear hV
    refine (hH B a _ n (-3) V hP2 Hz2.out).mono ?_
    rintro e w6 ⟨rfl,⟨p6,hp6,hpl⟩,ho6⟩
    go_wp2_with fail
    go_end0
    exact ⟨rfl,⟨p6,hp6,by rw [hpl,HE.out]⟩,hO2.trans ho6⟩
  case neg =>
   have q2:(s.toList == [101,111,102])=false:=by rw [hsl];exact beq_eq_false_iff_ne.2 hE
   have f9:=H.out.frozen 8
   clear hsl
   cases htw:p.t0 with
   | true =>
    rw [htw] at c8
    have HE:=hide (show dE p.pl t=cQ ({ p with t0:=true,st:=bE p.line p.st 0 6 }:Pp).pl (-2) by
     unfold dE
     rw [if_neg hnop,if_neg hOn,if_neg hE]
     congr 1
     unfold xY
     rw [if_pos (show p.pl.t0=true from htw)]
     rfl)
    have Hz2:=hide (show MSz ({ p with t0:=true,st:=bE p.line p.st 0 6 }:Pp).pl n from Hz.out.tw (by rw [gK];omega))
    clear hnop hOn hE htw ho2
    go_enter Tryz.func72,Tryz.ntmps72
    go_wp2_with fail
    refine (HFl.out 6 w H.out).mono ?_
    rintro e w1 ⟨rfl,hb,hoo⟩
    have HP1:=hide (H.out.st hoo hb)
    have HO1:=hide (H.out.only hoo)
    clear hb hoo c8 c9 f9
    have c9:=HP1.out.cells.2.2.2.2.2.2.2.2.1
    have f9:=HP1.out.frozen 8
    go_wp2_with fail
    generalize hV:World.setCell w1 _ _=V
    have hP2:PAt V B a { p with t0:=true,st:=bE p.line p.st 0 6 }:=by rw [← hV];exact (HP1.out.cell (p':={ p with t0:=true,st:=bE p.line p.st 0 6 }) 8 _ rfl).1
    have hO2:OnB B w V:=by rw [← hV];exact HO1.out.trans (HP1.out.cell (p':={ p with t0:=true,st:=bE p.line p.st 0 6 }) 8 _ rfl).2
    clear hV
    refine (hH B a _ n (-2) V hP2 Hz2.out).mono ?_
    rintro e w6 ⟨rfl,⟨p6,hp6,hpl⟩,ho6⟩
    go_wp2_with fail
    go_end0
    exact ⟨rfl,⟨p6,hp6,by rw [hpl,HE.out]⟩,hO2.trans ho6⟩
   | false =>
    rw [htw] at c8
    have HE:=hide (show dE p.pl t=cQ ({ p with t0:=true }:Pp).pl (-2) by
     unfold dE
     rw [if_neg hnop,if_neg hOn,if_neg hE]
     congr 1
     unfold xY
     rw [if_neg (show ¬ p.pl.t0=true by show ¬ p.t0=true;rw [htw];simp)]
     rfl)
    have Hz2:=hide (show MSz ({ p with t0:=true }:Pp).pl n from Hz.out.tw (by omega))
    clear hnop hOn hE htw ho2
    go_enter Tryz.func72,Tryz.ntmps72
    go_wp2_with fail
    generalize hV:World.setCell w _ _=V
    have hP2:PAt V B a { p with t0:=true }:=by rw [← hV];exact (H.out.cell (p':={ p with t0:=true }) 8 _ rfl).1
    have hO2:OnB B w V:=by rw [← hV];exact (H.out.cell (p':={ p with t0:=true }) 8 _ rfl).2
    clear hV
    refine (hH B a _ n (-2) V hP2 Hz2.out).mono ?_
    rintro e w6 ⟨rfl,⟨p6,hp6,hpl⟩,ho6⟩
    go_wp2_with fail
    go_end0
    exact ⟨rfl,⟨p6,hp6,by rw [hpl,HE.out]⟩,hO2.trans ho6⟩
end Go.Proofs.YtaioaojfdngfdaaGreatDoor
