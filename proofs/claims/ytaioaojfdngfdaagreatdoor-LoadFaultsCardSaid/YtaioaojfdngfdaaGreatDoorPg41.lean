/- The script of a text, by the document. Conditions: those of each theorem. -/
import Derived.Test.YtaioaojfdngfdaaGreatDoorPg09
import Derived.Test.YtaioaojfdngfdaaGreatDoorPg39
import Derived.Test.YtaioaojfdngfdaaGreatDoorPg40
import Derived.Test.YtaioaojfdngfdaaGreatDoorPg24
import Derived.BigRegion
set_option linter.unusedVariables false
set_option linter.unusedSimpArgs false
set_option maxHeartbeats 51200000
namespace Go.Proofs.YtaioaojfdngfdaaGreatDoor
open Go.RowKit
set_option maxRecDepth 100000
def dp0:Dp:=⟨⟨#[]⟩,0,0,[],none,0,[],none,0,[],none,0,false,false,false,false⟩
theorem yR {w X:World} {x1 x2:Obj} (hX:((w.alloc x1).alloc x2).alloc (.cells (dvV dp0) 84)=X):DAt X w.heap.size (w.heap.size + 2) dp0∧OnB w.heap.size w X∧X.heap.size=w.heap.size + 3:=by
 subst hX
 refine ⟨⟨Blk.new' (by simp),by omega,⟨World.ownsRow_nil _ _ _ _,fun v hv=>(by cases hv),List.Pairwise.nil⟩,World.ownsRow_nil _ _ _ _,World.ownsRow_nil _ _ _ _⟩,(((OnB.refl _ w).alloc _).alloc _).alloc _,by simp⟩
theorem OpsOwn.copy {w w':World} {B g g3:Nat} {oc:Nat} {L:List OpV} {cs:Array Value} (h:OpsOwn w B (some ⟨g,0,none⟩) oc L) (k:Only (· = g3) w w') (hb:Blk w g3 92 cs) (hne:g≠g3):OpsOwn w' B (some ⟨g,0,none⟩) oc L :=
 ⟨dR h.row k (fun j hj=>by have:j=g:=(by injection hj with hj;exact hj.symm);subst this;exact hne),fun v hv=>aI (h.arms v hv) k (fun j hj=>by have hj':j=g3:=hj;subst hj';exact ⟨_,hb⟩) (by decide),h.apart⟩
theorem DAt.copy {w:World} {B a g g3 j:Nat} {d:Dp} {u:Value} {cs:Array Value} (h:DAt w B a d) (ho:d.oA=some ⟨g,0,none⟩) (hb:Blk w g3 92 cs) (hne:g≠g3) (hB:B≤g3):DAt (w.setCell ⟨g3,j,none⟩ u) B a d∧OnB B w (w.setCell ⟨g3,j,none⟩ u):=by
 have q:=h.ops
 rw [ho] at q
 refine h.turn (L':=d.L) (S:=(· = g3)) (T:=92) bP (fun k hk=>?_) (by decide) (by decide) (by decide) rfl (by rw [ho];exact q.copy bP hb hne) rfl rfl
 have hk':k=g3:=hk
 subst hk'
 exact ⟨hB,_,hb⟩
theorem opAt_put {L:List OpV} {i:Nat} {v:OpV} (h:i < L.length):opAt (L.set i v) i=v:=by
 have:=bO (l:=L.set i v) (k:=i) (by rw [List.length_set];exact h)
 rw [List.getElem?_set_self h] at this
 exact (Option.some.inj this).symm
theorem line_own {w:World} {bw gl c:Nat} {l:List (List UInt8)} (ho:w.ownsRow bw 9 1 (.slice (some ⟨gl,0,none⟩) l.length c) l.length (flat encLn l)) {q:Nat} (hq:q < l.length):w.cell? ⟨gl,q,none⟩=some (.string (bs (l.getD q []))):=by
 rw [ho.cellAt q (by omega)]
 have:∀ (l:List (List UInt8)) (q:Nat),q < l.length→(flat encLn l)[q]?=some (.string (bs (l.getD q []))):=by
  intro l
  induction l with
  | nil=>intro q hq;cases hq
  | cons a r ih =>
   intro q hq
   cases q with
   | zero=>rfl
   | succ q =>
    show (encLn a++flat encLn r)[q + 1]?=_
    rw [List.getElem?_append_right (by simp)]
    simpa using ih q (by simpa using hq)
 exact this l q hq
theorem form_col (d:DM) (l:List WordM) (width:Nat) (hl:∀ x ∈ l,x.at_≤width):∀ (F:List UInt8) (i:Nat),(cB d l width F i).1≤width:=by
 have ha:∀ k,(aC l k).at_≤width:=fun k=>by
  by_cases h:k < l.length
  ·exact hl _ (eC h)
  ·unfold aC
   rw [List.getD_eq_getElem?_getD,List.getElem?_eq_none (by omega)]
   exact Nat.zero_le _
 intro F
 induction F with
 | nil=>intro i;unfold cB;split;exact ha _;exact Nat.zero_le _
 | cons c r ih =>
  intro i
  unfold cB
  split
  ·exact Nat.le_refl _
  split
  ·exact ha _
  split
  ·exact ha _
  ·exact ih _
theorem xJ (d:DM) (x:List UInt8):(eO d x).1≤x.length + 1200:=by
 unfold eO
 split
 ·exact pQ x
 split
 ·exact Nat.zero_le _
 ·exact Nat.le_trans (form_col d _ _ (fun y hy=>((gY x).1 y hy).2) _ _) (Nat.le_add_right _ _)
theorem iP (L:List UInt8):0 < (bI L).length:=by
 unfold bI
 have:∀ (r cur:List UInt8),0 < (aV r cur).length:=by
  intro r
  induction r with
  | nil=>intro cur;unfold aV;simp
  | cons c r ih =>
   intro cur
   unfold aV
   split
   ·simp
   ·exact ih _
 exact this L []
theorem rC (s:ByteArray) (w:World) (hs:s.size≤900000):Calls Tryz.prog 14 #[.string s] w fun e w'=>(∃ oA oc L,e=.returned (.tuple #[.agg #[.string (eT s.data.toList).1.name,.int .i64 (eT s.data.toList).1.deadline,.int .i64 (eT s.data.toList).1.jumps,.slice oA L.length oc],.agg #[.int .i64 (eT s.data.toList).2.1.1,.int .i64 (eT s.data.toList).2.1.2],.int .i64 (eT s.data.toList).2.2])∧L.map (·.o)=(eT s.data.toList).1.ops∧OpsRd w' (· < w.heap.size) oA L)∧Only aA w w':=by
 have HLs:=hide (fun (X:World)=>nN s X (by omega))
 have hlp:=iP s.data.toList
 obtain ⟨ls,hls⟩:∃ ls,ls=bI s.data.toList:=⟨_,rfl⟩
 have hln:ls.length≤900001:=by
  have h1:=eP s.data.toList []
  rw [hls]
  unfold bI
  have h2:s.data.toList.length=s.size:=by simp
  omega
 rw [← hls] at HLs hlp
 obtain ⟨P,hP⟩:∃ P,P=eT s.data.toList:=⟨_,rfl⟩
 have HPs:=hide (show kH (dGo ls (ls.length - 0) 0 d0)=P by rw [hP,hls];rfl)
 rw [← hP]
 have HSz:=hide (show ∀ q,(ls.getD q []).length≤900000 from fun q=>(by
  have h1:=mH s.data.toList q
  have h2:s.data.toList.length=s.size:=by simp
  rw [← hls] at h1
  omega))
 obtain ⟨B,hB⟩:∃ B,B=w.heap.size:=⟨_,rfl⟩
 clear hls hP
 go_enter Tryz.func14,Tryz.ntmps14
 go_wp2_with fail
 generalize hX:World.alloc (World.alloc (World.alloc w _) _) _=X
 have hS:=yR (w:=w) (X:=X) (by exact hX)
 have hPr:Blk X w.heap.size 25 #[.string ⟨#[]⟩,.int .i64 0,.int .i64 0,.slice none 0 0]:=by rw [← hX];exact ((Blk.new _ _ _).alloc _).alloc _
 have hSp:Blk X (w.heap.size + 1) 27 #[.int .i64 0,.int .i64 0]:=by rw [← hX];exact (Blk.new' (by simp)).alloc _
 obtain ⟨hP0,hO0,hXs⟩:=hS
 rw [← hB] at hPr hSp hP0 hO0 hXs ⊢
 clear hX
 obtain ⟨a,ha⟩:∃ a,a=B + 1 + 1:=⟨_,rfl⟩
 rw [show B + 2=a from ha.symm] at hP0
 rw [← ha]
 refine (HLs.out X).mono ?_
 rintro e w1 ⟨⟨LA,lc,rfl,hlo⟩,hbel⟩
 have k1:Only aA X w1:=Only.of_below hbel _
 have HP1:=hide (hP0.same k1)
 have HPr1:=hide (hPr.only k1 (fun h=>h))
 have HSp1:=hide (hSp.only k1 (fun h=>h))
 obtain ⟨gl,rfl,_,_⟩:=eK hlo hlp
 have HLn:=hide hlo
 have HB:=hide hB
 have HBa:=hide (show a=B + 2 from ha)
 have HOw:=hide (show OnB B w w1 from hO0.trans (OnB.none k1))
 clear hlo hbel k1 hP0 hO0 hPr hSp hXs ha hB
 obtain ⟨n,hn⟩:∃ n,n=ls.length:=⟨_,rfl⟩
 have Hn:=hide hn
 rw [← hn] at hln HPs ⊢
 clear hn
 have HSt:=hide (show WF dp0.pl∧DSz dp0.pl 0 from ⟨wf0,⟨Nat.le_refl _,Nat.le_refl _,fun o h=>(by cases h),fun u h=>(by cases h)⟩⟩)
 have HPt:=hide (show kH (dGo ls (n - 0) 0 dp0.pl)=P from HPs.out)
 go_wp2_with fail
 go_loopw [7] (fun i wr=>∃ (q:Nat) (d:Dp),q≤n∧i=.int .i64 q∧Hid (DAt wr B a d)∧Hid (OnB B w1 wr)∧Hid (WF d.pl∧DSz d.pl q)∧Hid (kH (dGo ls (n - q) q d.pl)=P)) (fun i _=>n - (intOf i).toNat)
 case atStart=>exact ⟨0,_,Nat.zero_le _,rfl,HP1,hide (OnB.refl _ _),HSt,HPt⟩
 case round =>
  clear HSt HPt HP1
  obtain ⟨q,d,hqn,rfl,HD,HO,HS,HR⟩:=hrel
  by_cases hlt:q < n
  case neg =>
   have d1:decide ((q:Int) < (n:Int))=false:=by simp;omega
   have d2:decide (q < n)=false:=by simp;omega
   have HR2:=hide (show kH (d.pl,none)=P by
    have e:=HR.out
    rw [show n - q=0 by omega] at e
    exact e)
   cases hh:d.head with
   | false =>
    have HE:=hide (show P=(cI,(1,1),3) by
     rw [← HR2.out]
     unfold kH
     rw [if_pos (show d.pl.head=false from hh)])
    have d6:=HD.out.cells.2.2.2.2.2.2.1
    rw [hh] at d6
    have HQ4:=hide (HO.out.keep _ _ _ HPr1.out rfl)
    have HQ2:=hide (HO.out.keep _ _ _ HSp1.out rfl)
    have HRp:=hide (fS (a:=.string ⟨#[]⟩) (b:=.int .i64 0) (c:=.int .i64 0) (d:=.slice none 0 0) (x:=.int .i64 1) (y:=.int .i64 1) HQ4.out HQ2.out rfl rfl HD.out.ops)
    obtain ⟨⟨g0,g1,g2,g3⟩,h0,h1,h2,h3⟩:=HQ4.out.four
    have e0:wr.cell? ⟨B + 1,0,none⟩=some (.int .i64 0):=HQ2.out.cell 0
    have e1:wr.cell? ⟨B + 1,1,none⟩=some (.int .i64 0):=HQ2.out.cell 1
    have i0:=HQ2.out.frozen 0
    have i1:=HQ2.out.frozen 1
    clear hh hlt
    go_wp2_with fail
    generalize hV:World.setCell (World.setCell _ ⟨B + 1,0,none⟩ _) _ _=V
    obtain ⟨b4,b2,bo,bk⟩:=(by have q9:=HRp.out;rw [hV] at q9;exact q9:Blk V B 25 #[.string ⟨#[]⟩,.int .i64 0,.int .i64 0,.slice none 0 0]∧Blk V (B + 1) 27 #[.int .i64 1,.int .i64 1]∧OpsOwn V B d.oA d.oc d.L∧Only (fun k=>k=B∨k=B + 1) wr V)
    obtain ⟨⟨y0,y1,y2,y3⟩,_⟩:=b4.four
    have z0:V.cell? ⟨B + 1,0,none⟩=some (.int .i64 1):=b2.cell 0
    have z1:V.cell? ⟨B + 1,1,none⟩=some (.int .i64 1):=b2.cell 1
    clear hV g0 g1 g2 g3 h0 h1 h2 h3 e0 e1 i0 i1
    refine bodyPost_ret (v:=.tuple #[.agg #[.string ⟨#[]⟩,.int .i64 0,.int .i64 0,.slice none 0 0],.agg #[.int .i64 1,.int .i64 1],.int .i64 3]) (by simp [results,Tryz.results14,go_sem,y0,y1,y2,y3,z0,z1];try rfl) rfl ?_
    have hpe:=HE.out
    exact ⟨⟨none,0,[],by rw [hpe];rfl,by rw [hpe];rfl,⟨Or.inl rfl,fun v hv=>(by cases hv)⟩⟩,iR HB.out (HOw.out.trans HO.out) bk⟩
   | true =>
    obtain ⟨RR,hRR⟩:∃ RR,RR=iH d.labels d.uses (d.L.map (·.o)):=⟨_,rfl⟩
    have HPe:=hide (show P=match RR.2 with | none=>(⟨d.name,d.dl,d.jm,RR.1⟩,(0,0),0) | some u=>(cI,(u.line,u.col),13) by
     rw [← HR2.out]
     unfold kH
     rw [if_neg (show ¬ d.pl.head=false by show ¬ d.head=false;rw [hh];simp)]
     show (match iH d.labels d.uses (d.L.map (·.o)) with | (ops,none)=>_ | (ops,some u)=>_)=_
     rw [← hRR]
     obtain ⟨r1,r2⟩:=RR
     cases r2<;>rfl)
    have d6:=HD.out.cells.2.2.2.2.2.2.1
    rw [hh] at d6
    obtain ⟨m,hm⟩:∃ m,m=d.uses.length:=⟨_,rfl⟩
    have hmu:m≤1000000:=by have:=HS.out.2.uses;have e:d.pl.uses.length=d.uses.length:=rfl;omega
    have HM:=hide hm
    have HR0:=hide (show iH d.labels (d.uses.drop 0) (d.L.map (·.o))=RR from hRR.symm)
    have HU0:=hide (show ∀ u ∈ d.uses,UseOk (d.L.map (·.o)) u from HS.out.1.use)
    have hlab:d.labels.length≤1000000:=by have:=HS.out.2.labels;have e:d.pl.labels.length=d.labels.length:=rfl;omega
    have HTx:=hide (show ∀ u ∈ d.uses,u.name.length≤1000000000 from HS.out.2.txt)
    have HLv:=hide (show ∀ k,¬ findD k d.labels < 0→0≤findD k d.labels∧findD k d.labels≤200 from fun k h=>by
     have q9:=lT (k:=k) (n:=(d.L.length:Nat)) d.labels (by have e:=HS.out.1.lb;rw [show d.pl.ops.length=d.L.length from List.length_map _] at e;exact e) h
     have q8:=HS.out.1.len
     rw [show d.pl.ops.length=d.L.length from List.length_map _] at q8
     exact ⟨q9.1,by omega⟩)
    clear hRR hh hlt hm
    go_wp2_with fail
    go_loopw [10] (fun i wr=>∃ (k:Nat) (Lq:List OpV),k≤m∧i=.int .i64 k∧Hid (DAt wr B a { d with L:=Lq })∧Hid (OnB B w1 wr)∧Hid (iH d.labels (d.uses.drop k) (Lq.map (·.o))=RR)∧Hid (∀ u ∈ d.uses,UseOk (Lq.map (·.o)) u)) (fun i _=>m - (intOf i).toNat)
    case atStart=>exact ⟨0,d.L,Nat.zero_le _,rfl,HD,HO,HR0,HU0⟩
    case round =>
     clear HR0 HU0 d6
     obtain ⟨k,Lq,hkm,rfl,HDk,HOk,HRk,HUk⟩:=hrel
     have d5:=HDk.out.cells.2.2.2.2.2.1
     rw [show ({ d with L:=Lq }:Dp).uses.length=m from HM.out.symm] at d5
     by_cases hlt:k < m
     case neg =>
      have d1:decide ((k:Int) < (m:Int))=false:=by simp;omega
      have d2:decide (k < m)=false:=by simp;omega
      have HE:=hide (show P=(⟨d.name,d.dl,d.jm,Lq.map (·.o)⟩,(0,0),0) by
       have e:d.uses.drop k=[]:=List.drop_eq_nil_of_le (by have:=HM.out;omega)
       have q9:=HRk.out
       rw [e] at q9
       rw [HPe.out,← q9]
       rfl)
      have HQ4:=hide (HOk.out.keep _ _ _ HPr1.out rfl)
      have HQ2:=hide (HOk.out.keep _ _ _ HSp1.out rfl)
      have HRp:=hide (fS (a:=.string d.name) (b:=.int .i64 d.dl) (c:=.int .i64 d.jm) (d:=.slice d.oA Lq.length d.oc) (x:=.int .i64 0) (y:=.int .i64 0) HQ4.out HQ2.out rfl rfl HDk.out.ops)
      obtain ⟨⟨g0,g1,g2,g3⟩,h0,h1,h2,h3⟩:=HQ4.out.four
      have e0:wr.cell? ⟨B + 1,0,none⟩=some (.int .i64 0):=HQ2.out.cell 0
      have e1:wr.cell? ⟨B + 1,1,none⟩=some (.int .i64 0):=HQ2.out.cell 1
      have i0:=HQ2.out.frozen 0
      have i1:=HQ2.out.frozen 1
      have s0:=HDk.out.cells.1
      have s1:=HDk.out.cells.2.1
      have s2:=HDk.out.cells.2.2.1
      have s3:=HDk.out.cells.2.2.2.1
      clear hlt
      go_wp2_with fail
      generalize hV:World.setCell (World.setCell _ ⟨B + 1,0,none⟩ _) _ _=V
      obtain ⟨b4,b2,bo,bk⟩:=(by have q9:=HRp.out;rw [hV] at q9;exact q9:Blk V B 25 #[.string d.name,.int .i64 d.dl,.int .i64 d.jm,.slice d.oA Lq.length d.oc]∧Blk V (B + 1) 27 #[.int .i64 0,.int .i64 0]∧OpsOwn V B d.oA d.oc Lq∧Only (fun k=>k=B∨k=B + 1) wr V)
      obtain ⟨⟨y0,y1,y2,y3⟩,_⟩:=b4.four
      have z0:V.cell? ⟨B + 1,0,none⟩=some (.int .i64 0):=b2.cell 0
      have z1:V.cell? ⟨B + 1,1,none⟩=some (.int .i64 0):=b2.cell 1
      clear hV g0 g1 g2 g3 h0 h1 h2 h3 e0 e1 i0 i1 s0 s1 s2 s3
      refine bodyPost_ret (v:=.tuple #[.agg #[.string d.name,.int .i64 d.dl,.int .i64 d.jm,.slice d.oA Lq.length d.oc],.agg #[.int .i64 0,.int .i64 0],.int .i64 0]) (by simp [results,Tryz.results14,go_sem,y0,y1,y2,y3,z0,z1];try rfl) rfl ?_
      have hpe:=HE.out
      exact ⟨⟨d.oA,d.oc,Lq,by rw [hpe],by rw [hpe],(by have q9:=sO bo;rw [HB.out] at q9;exact q9)⟩,iR HB.out (HOw.out.trans HOk.out) bk⟩
     case pos =>
      have d1:decide ((k:Int) < (m:Int))=true:=by simp;omega
      have d2:decide (k < m)=true:=by simp;omega
      have j1:(0:Int)≤(k:Int):=by omega
      have j2:(k:Int) < (m:Int):=by omega
      have w1':IntKind.i64.wrap ((k:Int) + 1)=(k:Int) + 1:=IntWalk.i64_in _ (by omega)
      have hku:k < d.uses.length:=by have:=HM.out;omega
      obtain ⟨bu,ob,hA,hb,k0,k1,k2,k3,k4⟩:=HDk.out.useCells (k:=k) hku
      have HA:=hide hA
      rw [hA] at d5
      have hTu:=HTx.out _ (lD hku)
      have HOu:=hide (HUk.out _ (lD hku))
      have HStp:=hide (fun (hl:¬ findD (eR d.uses k).name d.labels < 0)=>yP (ls:=d.labels) (ops:=Lq.map (·.o)) hku hl)
      have HMis:=hide (fun (hl:findD (eR d.uses k).name d.labels < 0)=>yQ (ls:=d.labels) (ops:=Lq.map (·.o)) hku hl)
      obtain ⟨U,hU⟩:∃ U,U=eR d.uses k:=⟨_,rfl⟩
      rw [← hU] at hTu HOu HStp HMis
      rw [show eR ({ d with L:=Lq }:Dp).uses k=U from hU.symm] at k0 k1 k2 k3 k4
      obtain ⟨un,ul,uc,uo,uh⟩:=U
      simp only at k0 k1 k2 k3 k4 hTu HStp HMis
      clear hU hA hlt
      go_upto_region 15 with fail
      generalize hX:World.alloc wr _=X
      have hI:Blk X wr.heap.size 88 #[.string (bs un),.int .i64 ul,.int .i64 uc,.int .i64 uo,.int .i64 uh]:=by rw [← hX];exact Blk.new _ _ _
      have HD1:=hide (show DAt X B a { d with L:=Lq } by rw [← hX];exact HDk.out.alloc _)
      have HO1:=hide (show OnB B w1 X by rw [← hX];exact HOk.out.alloc _)
      have hal:=HDk.out.lt
      obtain ⟨g0,hg0⟩:∃ g0,g0=wr.heap.size:=⟨_,rfl⟩
      rw [← hg0] at hI hal ⊢
      have HNe:=hide (show B + 2 < g0 by have:=HBa.out;omega)
      have HI:=hide hI
      clear hX k0 k1 k2 k3 k4 hg0 hal hb HDk HOk hI
      have d4:=HD1.out.cells.2.2.2.2.1
      have e0:X.cell? ⟨g0,0,none⟩=some (.string (bs un)):=HI.out.cell 0
      have HFd:=hide (fun (n:Nat)=>qB (M:=fun _=>False) d.lA d.lc d.labels un (X.drewN n) (Rd.of_own (HD1.out.same (aN _ n)).labels (fun _ h=>h.elim)) hlab)
      obtain ⟨FD,hFD⟩:∃ FD,FD=findD un d.labels:=⟨_,rfl⟩
      have HLu:=hide (HLv.out un)
      rw [← hFD] at HFd HStp HMis HLu
      clear hFD
      by_cases h0:FD < 0
      case pos =>
       have q5:decide (FD < 0)=true:=decide_eq_true h0
       have HMi2:=hide (HMis.out h0)
       have HE:=hide (show P=(cI,(ul,uc),13) by rw [HPe.out,← HRk.out,HMi2.out])
       clear h0
       go_quiet ((go_at_call 44;exact Calls.quiet_of (HFd.out _)))
       go_upto_region 17 with fail
       generalize hY:World.drewN X _=Y
       have HI2:=hide (show Blk Y g0 88 #[.string (bs un),.int .i64 ul,.int .i64 uc,.int .i64 uo,.int .i64 uh] by rw [← hY];exact HI.out.drewN _)
       have HD2:=hide (show DAt Y B a { d with L:=Lq } by rw [← hY];exact HD1.out.same (aN _ _))
       have HO2:=hide (show OnB B w1 Y by rw [← hY];exact HO1.out.drewN _)
       clear hY HI HD1 HO1 e0 d4
       obtain ⟨V0,hV0⟩:∃ V9,V9=Y.drew:=⟨_,rfl⟩
       have HI9:=hide (HI2.out.drew)
       have HP9:=hide (HD2.out.drew)
       have HO9:=hide (HO2.out.drew)
       rw [← hV0] at HI9 HP9 HO9
       have HQ4:=hide (HO9.out.keep _ _ _ HPr1.out rfl)
       have HQ2:=hide (HO9.out.keep _ _ _ HSp1.out rfl)
       have HNa:=hide (show ¬ g0=B by have:=HNe.out;omega)
       have HNb:=hide (show ¬ (g0=B∨g0=B + 1) by have:=HNe.out;omega)
       refine wp_region_held (S:=fun w'=>w'.cell? ⟨g0,1,none⟩=some (.int .i64 ul)∧w'.cell? ⟨g0,2,none⟩=some (.int .i64 uc)) (by kernel_rfl) ?_
       change wpAnyH _ _ _ _ _ _ _ _ Y.drew
       have hHeld:(fun w'=>w'.cell? ⟨g0,1,none⟩=some (.int .i64 ul)∧w'.cell? ⟨g0,2,none⟩=some (.int .i64 uc)) Y.drew:=(by rw [← hV0];exact ⟨HI9.out.cell 1,HI9.out.cell 2⟩)
       rw [← hV0] at hHeld ⊢
       simp only [List.size_toArray,List.length_cons,List.length_nil,Nat.zero_add,Nat.reduceAdd]
       clear hV0
       refine tk 0 ?_ rfl ?_ ?_
       rotate_left
       ·(intro w9 hS9;(try simp only [ga]);go_simp<;>rfl)
       refine tk 1 ?_ rfl ?_ ?_
       rotate_left
       ·(intro w9 hS9;(try simp only [ga]);go_simp<;>rfl)
       refine tk 2 ?_ rfl ?_ ?_
       rotate_left
       ·(intro w9 hS9;(try simp only [ga]);go_simp<;>rfl)
       try simp only [Act.put,gp]
       have HR9:=hide (fS (a:=.string ⟨#[]⟩) (b:=.int .i64 0) (c:=.int .i64 0) (d:=.slice none 0 0) (x:=.int .i64 ul) (y:=.int .i64 uc) HQ4.out HQ2.out rfl rfl HP9.out.ops)
       obtain ⟨⟨g0',g1,g2,g3⟩,h0',h1,h2,h3⟩:=HQ4.out.four
       have e0:V0.cell? ⟨B + 1,0,none⟩=some (.int .i64 0):=HQ2.out.cell 0
       have e1:V0.cell? ⟨B + 1,1,none⟩=some (.int .i64 0):=HQ2.out.cell 1
       have i0:=HQ2.out.frozen 0
       have i1:=HQ2.out.frozen 1
       refine rdy 3 rfl (fun K hK=>?_)
       try simp only [ga]
       try go_simp
       refine hK.out _ _ (by rw [dW];exact ⟨cM (aP _ 0 V0 B) HNa.out (HI9.out.cell 1),cM (aP _ 0 V0 B) HNa.out (HI9.out.cell 2)⟩) (fun hHeld=>?_)
       clear hK K
       try simp only [Act.put,gp]
       refine rdy 4 rfl (fun K hK=>?_)
       try simp only [ga]
       try go_simp
       refine hK.out _ _ ⟨cM HR9.out.2.2.2 HNb.out (HI9.out.cell 1),cM HR9.out.2.2.2 HNb.out (HI9.out.cell 2)⟩ (fun hHeld=>?_)
       clear hK K
       refine tk 5 ?_ rfl ?_ ?_
       rotate_left
       ·(intro w9 hS9;(try simp only [ga]);go_simp<;>rfl)
       try simp only [Act.put,gp]
       refine wpAnyH_done (by kernel_rfl) ?_ _
       try simp only [Exit.then]
       clear hHeld
       go_wp2_with fail
       generalize hV:World.setCell (World.setCell _ ⟨B + 1,0,none⟩ _) _ _=V
       obtain ⟨b4,b2,bo,bk⟩:=(by have q9:=HR9.out;rw [hV] at q9;exact q9:Blk V B 25 #[.string ⟨#[]⟩,.int .i64 0,.int .i64 0,.slice none 0 0]∧Blk V (B + 1) 27 #[.int .i64 ul,.int .i64 uc]∧OpsOwn V B d.oA d.oc Lq∧Only (fun k=>k=B∨k=B + 1) V0 V)
       obtain ⟨⟨y0,y1,y2,y3⟩,_⟩:=b4.four
       have z0:V.cell? ⟨B + 1,0,none⟩=some (.int .i64 ul):=b2.cell 0
       have z1:V.cell? ⟨B + 1,1,none⟩=some (.int .i64 uc):=b2.cell 1
       clear hV g0' g1 g2 g3 h0' h1 h2 h3 e0 e1 i0 i1
       refine bodyPost_ret (v:=.tuple #[.agg #[.string ⟨#[]⟩,.int .i64 0,.int .i64 0,.slice none 0 0],.agg #[.int .i64 ul,.int .i64 uc],.int .i64 13]) (by simp [results,Tryz.results14,go_sem,y0,y1,y2,y3,z0,z1];try rfl) rfl ?_
       have hpe:=HE.out
       exact ⟨⟨none,0,[],by rw [hpe];rfl,by rw [hpe];rfl,⟨Or.inl rfl,fun v hv=>(by cases hv)⟩⟩,iR HB.out (HOw.out.trans HO9.out) bk⟩
      case neg =>
       have q5:decide (FD < 0)=false:=decide_eq_false h0
       have HSt2:=hide (HStp.out h0)
       have ht:=HLu.out (by omega)
       clear h0
       obtain ⟨i,hui,hiL,hop,hhow⟩:=use_at HOu.out
       simp only at hui hhow
       subst hui
       obtain ⟨g,hoA,hgB,hgl⟩:=HD1.out.ops.at_ (i:=i) hiL
       have HoA:=hide hoA
       clear hgB hgl hoA
       go_quiet ((go_at_call 44;exact Calls.quiet_of (HFd.out _)))
       generalize hY:World.drewN X _=Y
       have HI2:=hide (show Blk Y g0 88 #[.string (bs un),.int .i64 ul,.int .i64 uc,.int .i64 i,.int .i64 uh] by rw [← hY];exact HI.out.drewN _)
       have HD2:=hide (show DAt Y B a { d with L:=Lq } by rw [← hY];exact HD1.out.same (aN _ _))
       have HO2:=hide (show OnB B w1 Y by rw [← hY];exact HO1.out.drewN _)
       clear hY HI HD1 HO1 e0 d4
       go_upto_region 18 with fail
       have j3:(0:Int)≤(i:Int):=by omega
       have j4:(i:Int) < (Lq.length:Int):=by omega
       have HDz:=hide (HD2.out.alloc (.cells #[.int .i64 0,.string ⟨#[]⟩,.int .i64 0,.int .i64 0,.slice none 0 0,.int .i64 0,.int .i64 0] 92))
       have HIz:=hide (HI2.out.alloc (.cells #[.int .i64 0,.string ⟨#[]⟩,.int .i64 0,.int .i64 0,.slice none 0 0,.int .i64 0,.int .i64 0] 92))
       have i3:=HIz.out.cell 3
       have d3:=HDz.out.cells.2.2.2.1
       rw [show ({ d with L:=Lq }:Dp).oA=some ⟨g,0,none⟩ from HoA.out] at d3
       have hops:=HDz.out.ops
       rw [show ({ d with L:=Lq }:Dp).oA=some ⟨g,0,none⟩ from HoA.out] at hops
       have hcl:=hops.cells (i:=i) hiL
       simp only at hcl i3 d3
       obtain ⟨⟨o0,o1,o2,o3,o4,o5,o6⟩,ofr⟩:=hcl
       have i3y:=HI2.out.cell 3
       have d3y:=HD2.out.cells.2.2.2.1
       rw [show ({ d with L:=Lq }:Dp).oA=some ⟨g,0,none⟩ from HoA.out] at d3y
       have hops2:=HD2.out.ops
       rw [show ({ d with L:=Lq }:Dp).oA=some ⟨g,0,none⟩ from HoA.out] at hops2
       have hcl2:=hops2.cells (i:=i) hiL
       simp only at hcl2 i3y d3y
       obtain ⟨⟨o0y,o1y,o2y,o3y,o4y,o5y,o6y⟩,ofr2⟩:=hcl2
       clear hops ofr hops2 ofr2
       go_region
       generalize hZ:World.drew (World.alloc Y _)=Z
       have hC:Blk Z Y.heap.size 92 #[.int .i64 (opAt Lq i).o.kind,.string (opAt Lq i).o.text,.int .i64 (opAt Lq i).o.n,.int .i64 (opAt Lq i).o.to,.slice (opAt Lq i).A (opAt Lq i).o.arms.length (opAt Lq i).c,.int .i64 (opAt Lq i).o.onT,.int .i64 (opAt Lq i).o.onE]:=by rw [← hZ];exact (Blk.new _ _ _).drew
       have HDZ:=hide (show DAt Z B a { d with L:=Lq } by rw [← hZ];exact (HD2.out.alloc _).drew)
       have HOZ:=hide (show OnB B w1 Z by rw [← hZ];exact (HO2.out.alloc _).drew)
       have HIZ:=hide (show Blk Z g0 88 #[.string (bs un),.int .i64 ul,.int .i64 uc,.int .i64 i,.int .i64 uh] by rw [← hZ];exact (HI2.out.alloc _).drew)
       have hB3:B≤Y.heap.size:=by have:=HD2.out.lt;have:=HBa.out;omega
       have hn3:g≠Y.heap.size:=by
        obtain ⟨g',e1,_,e2⟩:=HD2.out.ops.at_ (i:=i) hiL
        have e3:=HoA.out.symm.trans e1
        injection e3 with e3
        injection e3 with e3
        omega
       have hn0:g0≠Y.heap.size:=by have:=HI2.out.lt;omega
       obtain ⟨g3,hg3⟩:∃ g3,g3=Y.heap.size:=⟨_,rfl⟩
       rw [← hg3] at hC hB3 hn3 hn0 ⊢
       have HC:=hide hC
       have HQ:=hide (And.intro hB3 (And.intro hn3 hn0))
       clear hg3 hZ hC hB3 hn3 hn0 i3 d3 i3y d3y o0 o1 o2 o3 o4 o5 o6 o0y o1y o2y o3y o4y o5y o6y HI2 HD2 HO2 HDz HIz hop
       have HNxt:=hide (fun (v:OpV) (hv:v.o=if uh = -1 then { (opAt Lq i).o with «to»:=FD } else if uh = -2 then { (opAt Lq i).o with onT:=FD } else if uh = -3 then { (opAt Lq i).o with onE:=FD }
        else { (opAt Lq i).o with arms:=(opAt Lq i).o.arms.set uh.toNat ⟨((opAt Lq i).o.arms.getD uh.toNat ⟨⟨#[]⟩,0⟩).pat,FD⟩ })=>(show iH d.labels (d.uses.drop (k + 1)) ((Lq.set i v).map (·.o))=RR∧(∀ u ∈ d.uses,UseOk ((Lq.set i v).map (·.o)) u) by
        have e:=nI (L:=Lq) (u:=⟨un,ul,uc,i,uh⟩) (i:=i) (t:=FD) (v:=v) rfl hiL hv
        rw [← e]
        exact ⟨by rw [← HSt2.out];exact HRk.out,fun u hu=>l9 (HUk.out u hu)⟩))
       have i4:Z.cell? ⟨g0,4,none⟩=some (.int .i64 uh):=HIZ.out.cell 4
       rcases hhow with ⟨rfl,-⟩ | ⟨-,rfl | rfl | ⟨r,rfl,hr⟩⟩
       ·have N:=HNxt.out ⟨{ (opAt Lq i).o with «to»:=FD },(opAt Lq i).A,(opAt Lq i).c⟩ rfl
        have HN1:=hide N.1
        have HN2:=hide N.2
        have cj:=HC.out.cell 3
        have fj:=HC.out.frozen 3
        clear N
        go_upto_region 27 with fail
        generalize hV:World.setCell Z _ _=V
        have HCV:=hide (show Blk V g3 92 #[.int .i64 (opAt Lq i).o.kind,.string (opAt Lq i).o.text,.int .i64 (opAt Lq i).o.n,.int .i64 FD,.slice (opAt Lq i).A (opAt Lq i).o.arms.length (opAt Lq i).c,.int .i64 (opAt Lq i).o.onT,.int .i64 (opAt Lq i).o.onE] by rw [← hV];exact HC.out.set_ 3 _)
        have q9:=HDZ.out.copy (g3:=g3) (j:=3) (u:=.int .i64 FD) HoA.out HC.out HQ.out.2.1 HQ.out.1
        rw [hV] at q9
        have HDV:=hide q9.1
        have HOV:=hide (HOZ.out.trans q9.2)
        have HIV:=hide (show Blk V g0 88 _ from by rw [← hV];exact HIZ.out.far HQ.out.2.2 _)
        have HF:=hide (HDV.out.putOp (g:=g) (i:=i) (k:=(opAt Lq i).o.kind) (t:=(opAt Lq i).o.text) (n:=(opAt Lq i).o.n) (tt:=FD) (x:=(opAt Lq i).o.onT) (y:=(opAt Lq i).o.onE) HoA.out hiL)
        clear q9 hV cj fj i4
        have i3:=HIV.out.cell 3
        have d3:=HDV.out.cells.2.2.2.1
        rw [show ({ d with L:=Lq }:Dp).oA=some ⟨g,0,none⟩ from HoA.out] at d3
        obtain ⟨v0,v1,v2,v3,v4,v5,v6⟩:=HCV.out.seven
        have hops:=HDV.out.ops
        rw [show ({ d with L:=Lq }:Dp).oA=some ⟨g,0,none⟩ from HoA.out] at hops
        have hcl:=hops.cells (i:=i) hiL
        simp only at hcl i3 d3
        obtain ⟨⟨o0,o1,o2,o3,o4,o5,o6⟩,ofr⟩:=hcl
        have of0:=ofr (i * 7)
        have of1:=ofr (i * 7 + 1)
        have of2:=ofr (i * 7 + 2)
        have of3:=ofr (i * 7 + 3)
        have of4:=ofr (i * 7 + 4)
        have of5:=ofr (i * 7 + 5)
        have of6:=ofr (i * 7 + 6)
        clear hops ofr
        go_region
        generalize hW:World.setCell (World.setCell (World.setCell (World.setCell (World.setCell (World.setCell (World.setCell _ _ _) _ _) _ _) _ _) _ _) _ _) _ _=W
        have HF9:=hide (by have q8:=HF.out;(try simp only at q8);rw [hW] at q8;exact q8)
        clear hW HF
        go_wp2_with fail
        go_roundw
        ·exact ⟨k + 1,Lq.set i ⟨{ (opAt Lq i).o with «to»:=FD },(opAt Lq i).A,(opAt Lq i).c⟩,by omega,by simp,hide HF9.out.1.drew,hide (HOV.out.trans HF9.out.2).drew,HN1,HN2⟩
        ·simp only [intOf];omega
       ·have N:=HNxt.out ⟨{ (opAt Lq i).o with onT:=FD },(opAt Lq i).A,(opAt Lq i).c⟩ rfl
        have HN1:=hide N.1
        have HN2:=hide N.2
        have cj:=HC.out.cell 5
        have fj:=HC.out.frozen 5
        clear N
        go_upto_region 27 with fail
        generalize hV:World.setCell Z _ _=V
        have HCV:=hide (show Blk V g3 92 #[.int .i64 (opAt Lq i).o.kind,.string (opAt Lq i).o.text,.int .i64 (opAt Lq i).o.n,.int .i64 (opAt Lq i).o.to,.slice (opAt Lq i).A (opAt Lq i).o.arms.length (opAt Lq i).c,.int .i64 FD,.int .i64 (opAt Lq i).o.onE] by rw [← hV];exact HC.out.set_ 5 _)
        have q9:=HDZ.out.copy (g3:=g3) (j:=5) (u:=.int .i64 FD) HoA.out HC.out HQ.out.2.1 HQ.out.1
        rw [hV] at q9
        have HDV:=hide q9.1
        have HOV:=hide (HOZ.out.trans q9.2)
        have HIV:=hide (show Blk V g0 88 _ from by rw [← hV];exact HIZ.out.far HQ.out.2.2 _)
        have HF:=hide (HDV.out.putOp (g:=g) (i:=i) (k:=(opAt Lq i).o.kind) (t:=(opAt Lq i).o.text) (n:=(opAt Lq i).o.n) (tt:=(opAt Lq i).o.to) (x:=FD) (y:=(opAt Lq i).o.onE) HoA.out hiL)
        clear q9 hV cj fj i4
        have i3:=HIV.out.cell 3
        have d3:=HDV.out.cells.2.2.2.1
        rw [show ({ d with L:=Lq }:Dp).oA=some ⟨g,0,none⟩ from HoA.out] at d3
        obtain ⟨v0,v1,v2,v3,v4,v5,v6⟩:=HCV.out.seven
        have hops:=HDV.out.ops
        rw [show ({ d with L:=Lq }:Dp).oA=some ⟨g,0,none⟩ from HoA.out] at hops
        have hcl:=hops.cells (i:=i) hiL
        simp only at hcl i3 d3
        obtain ⟨⟨o0,o1,o2,o3,o4,o5,o6⟩,ofr⟩:=hcl
        have of0:=ofr (i * 7)
        have of1:=ofr (i * 7 + 1)
        have of2:=ofr (i * 7 + 2)
        have of3:=ofr (i * 7 + 3)
        have of4:=ofr (i * 7 + 4)
        have of5:=ofr (i * 7 + 5)
        have of6:=ofr (i * 7 + 6)
        clear hops ofr
        go_region
        generalize hW:World.setCell (World.setCell (World.setCell (World.setCell (World.setCell (World.setCell (World.setCell _ _ _) _ _) _ _) _ _) _ _) _ _) _ _=W
        have HF9:=hide (by have q8:=HF.out;(try simp only at q8);rw [hW] at q8;exact q8)
        clear hW HF
        go_wp2_with fail
        go_roundw
        ·exact ⟨k + 1,Lq.set i ⟨{ (opAt Lq i).o with onT:=FD },(opAt Lq i).A,(opAt Lq i).c⟩,by omega,by simp,hide HF9.out.1.drew,hide (HOV.out.trans HF9.out.2).drew,HN1,HN2⟩
        ·simp only [intOf];omega
       ·have N:=HNxt.out ⟨{ (opAt Lq i).o with onE:=FD },(opAt Lq i).A,(opAt Lq i).c⟩ rfl
        have HN1:=hide N.1
        have HN2:=hide N.2
        have cj:=HC.out.cell 6
        have fj:=HC.out.frozen 6
        clear N
        go_upto_region 27 with fail
        generalize hV:World.setCell Z _ _=V
        have HCV:=hide (show Blk V g3 92 #[.int .i64 (opAt Lq i).o.kind,.string (opAt Lq i).o.text,.int .i64 (opAt Lq i).o.n,.int .i64 (opAt Lq i).o.to,.slice (opAt Lq i).A (opAt Lq i).o.arms.length (opAt Lq i).c,.int .i64 (opAt Lq i).o.onT,.int .i64 FD] by rw [← hV];exact HC.out.set_ 6 _)
        have q9:=HDZ.out.copy (g3:=g3) (j:=6) (u:=.int .i64 FD) HoA.out HC.out HQ.out.2.1 HQ.out.1
        rw [hV] at q9
        have HDV:=hide q9.1
        have HOV:=hide (HOZ.out.trans q9.2)
        have HIV:=hide (show Blk V g0 88 _ from by rw [← hV];exact HIZ.out.far HQ.out.2.2 _)
        have HF:=hide (HDV.out.putOp (g:=g) (i:=i) (k:=(opAt Lq i).o.kind) (t:=(opAt Lq i).o.text) (n:=(opAt Lq i).o.n) (tt:=(opAt Lq i).o.to) (x:=(opAt Lq i).o.onT) (y:=FD) HoA.out hiL)
        clear q9 hV cj fj i4
        have i3:=HIV.out.cell 3
        have d3:=HDV.out.cells.2.2.2.1
        rw [show ({ d with L:=Lq }:Dp).oA=some ⟨g,0,none⟩ from HoA.out] at d3
        obtain ⟨v0,v1,v2,v3,v4,v5,v6⟩:=HCV.out.seven
        have hops:=HDV.out.ops
        rw [show ({ d with L:=Lq }:Dp).oA=some ⟨g,0,none⟩ from HoA.out] at hops
        have hcl:=hops.cells (i:=i) hiL
        simp only at hcl i3 d3
        obtain ⟨⟨o0,o1,o2,o3,o4,o5,o6⟩,ofr⟩:=hcl
        have of0:=ofr (i * 7)
        have of1:=ofr (i * 7 + 1)
        have of2:=ofr (i * 7 + 2)
        have of3:=ofr (i * 7 + 3)
        have of4:=ofr (i * 7 + 4)
        have of5:=ofr (i * 7 + 5)
        have of6:=ofr (i * 7 + 6)
        clear hops ofr
        go_region
        generalize hW:World.setCell (World.setCell (World.setCell (World.setCell (World.setCell (World.setCell (World.setCell _ _ _) _ _) _ _) _ _) _ _) _ _) _ _=W
        have HF9:=hide (by have q8:=HF.out;(try simp only at q8);rw [hW] at q8;exact q8)
        clear hW HF
        go_wp2_with fail
        go_roundw
        ·exact ⟨k + 1,Lq.set i ⟨{ (opAt Lq i).o with onE:=FD },(opAt Lq i).A,(opAt Lq i).c⟩,by omega,by simp,hide HF9.out.1.drew,hide (HOV.out.trans HF9.out.2).drew,HN1,HN2⟩
        ·simp only [intOf];omega
       ·have N:=HNxt.out ⟨{ (opAt Lq i).o with arms:=(opAt Lq i).o.arms.set r ⟨(fL (opAt Lq i).o.arms r).pat,FD⟩ },(opAt Lq i).A,(opAt Lq i).c⟩ (by
         rw [if_neg (by omega),if_neg (by omega),if_neg (by omega),Int.toNat_natCast]
         rfl)
        have HN1:=hide N.1
        have HN2:=hide N.2
        have harm:=HDZ.out.ops.arms _ (cJ (l:=Lq) (k:=i) hiL)
        unfold armsV at harm
        obtain ⟨ga,hga,hgaB,hgal⟩:=eK harm (by omega)
        rw [hga] at harm
        have c4:=HC.out.cell 4
        rw [hga] at c4
        have hcell:=harm.cellAt (r * 2 + 1) (by omega)
        obtain ⟨cv,hcv⟩:∃ cv,(flat encArm (opAt Lq i).o.arms)[r * 2 + 1]?=some cv:=⟨_,List.getElem?_eq_getElem (by rw [harm.1];omega)⟩
        rw [hcv] at hcell
        have hfr:=harm.frozenAt (r * 2 + 1)
        obtain ⟨cw,hcw⟩:=aZ harm (g:=ga) rfl
        have HG:=hide hcw
        have HF0:=hide (HDZ.out.armSet (d':={ d with L:=Lq.set i ⟨{ (opAt Lq i).o with arms:=(opAt Lq i).o.arms.set r ⟨(fL (opAt Lq i).o.arms r).pat,FD⟩ },(opAt Lq i).A,(opAt Lq i).c⟩ }) (g:=ga) (i:=i) (k:=r) (t:=FD) (v:=⟨{ (opAt Lq i).o with arms:=(opAt Lq i).o.arms.set r ⟨(fL (opAt Lq i).o.arms r).pat,FD⟩ },(opAt Lq i).A,(opAt Lq i).c⟩) hiL hga hr rfl rfl rfl (by simp [encOp]) rfl)
        have r1:((r:Int) == -1)=false:=by simp
        have r2:((r:Int) == -2)=false:=by simp
        have r3:((r:Int) == -3)=false:=by simp
        have j5:(0:Int)≤(r:Int):=by omega
        have j6:(r:Int) < ((opAt Lq i).o.arms.length:Int):=by omega
        clear N hcv hga harm hcw
        try simp only at c4
        go_upto_region 27 with fail
        generalize hV:World.setCell Z _ _=V
        have HCV:=hide (show Blk V g3 92 _ from by rw [← hV];exact HC.out.far (Blk.ne_ HC.out HG.out (by decide)) _)
        have q9:=HF0.out
        rw [hV] at q9
        have HDV:=hide q9.1
        have HOV:=hide (HOZ.out.trans q9.2)
        have HIV:=hide (show Blk V g0 88 _ from by rw [← hV];exact HIZ.out.far (Blk.ne_ HIZ.out HG.out (by decide)) _)
        have HF:=hide (by
         have q8:=HDV.out.putOp (g:=g) (i:=i) (k:=(opAt Lq i).o.kind) (t:=(opAt Lq i).o.text) (n:=(opAt Lq i).o.n) (tt:=(opAt Lq i).o.to) (x:=(opAt Lq i).o.onT) (y:=(opAt Lq i).o.onE) HoA.out (by show i < (Lq.set i _).length;rw [List.length_set];exact hiL)
         simp only [opAt_put hiL,List.set_set,List.length_set] at q8
         exact q8)
        clear q9 hV c4 hcell hfr i4 r1 r2 r3 j5 j6
        have i3:=HIV.out.cell 3
        have d3:=HDV.out.cells.2.2.2.1
        rw [show ({ d with L:=Lq.set i ⟨{ (opAt Lq i).o with arms:=(opAt Lq i).o.arms.set r ⟨(fL (opAt Lq i).o.arms r).pat,FD⟩ },(opAt Lq i).A,(opAt Lq i).c⟩ }:Dp).oA=some ⟨g,0,none⟩ from HoA.out] at d3
        obtain ⟨v0,v1,v2,v3,v4,v5,v6⟩:=HCV.out.seven
        have hops:=HDV.out.ops
        rw [show ({ d with L:=Lq.set i ⟨{ (opAt Lq i).o with arms:=(opAt Lq i).o.arms.set r ⟨(fL (opAt Lq i).o.arms r).pat,FD⟩ },(opAt Lq i).A,(opAt Lq i).c⟩ }:Dp).oA=some ⟨g,0,none⟩ from HoA.out] at hops
        have hcl:=hops.cells (i:=i) (by rw [List.length_set];exact hiL)
        simp only [List.length_set] at hcl i3 d3
        obtain ⟨⟨o0,o1,o2,o3,o4,o5,o6⟩,ofr⟩:=hcl
        have of0:=ofr (i * 7)
        have of1:=ofr (i * 7 + 1)
        have of2:=ofr (i * 7 + 2)
        have of3:=ofr (i * 7 + 3)
        have of4:=ofr (i * 7 + 4)
        have of5:=ofr (i * 7 + 5)
        have of6:=ofr (i * 7 + 6)
        clear hops ofr
        go_region
        generalize hW:World.setCell (World.setCell (World.setCell (World.setCell (World.setCell (World.setCell (World.setCell _ _ _) _ _) _ _) _ _) _ _) _ _) _ _=W
        have HF9:=hide (by have q8:=HF.out;(try simp only [List.length_set] at q8);rw [hW] at q8;exact q8)
        clear hW HF
        go_wp2_with fail
        go_roundw
        ·exact ⟨k + 1,Lq.set i ⟨{ (opAt Lq i).o with arms:=(opAt Lq i).o.arms.set r ⟨(fL (opAt Lq i).o.arms r).pat,FD⟩ },(opAt Lq i).A,(opAt Lq i).c⟩,by omega,by simp,hide HF9.out.1.drew,hide (HOV.out.trans HF9.out.2).drew,HN1,HN2⟩
        ·simp only [intOf];omega
  case pos =>
   have d1:decide ((q:Int) < (n:Int))=true:=by simp;omega
   have d2:decide (q < n)=true:=by simp;omega
   have j1:(0:Int)≤(q:Int):=by omega
   have j2:(q:Int) < (n:Int):=by omega
   have w1':IntKind.i64.wrap ((q:Int) + 1)=(q:Int) + 1:=IntWalk.i64_in _ (by omega)
   obtain ⟨x,hx⟩:∃ x,x=ls.getD q []:=⟨_,rfl⟩
   have hqls:q < ls.length:=by have:=Hn.out;omega
   have HKl:=hide (fun (Y:World) (k:OnB B w1 Y)=>line_own (k.own HLn.out rfl) hqls)
   rw [← hx] at HKl
   have hxl:x.length≤900000:=by rw [hx];exact HSz.out q
   have HU:=hide (show dGo ls (n - q) q d.pl=if idleB x=true then dGo ls (n - (q + 1)) (q + 1) d.pl else if (eO d.pl x).2≠0 then (d.pl,some (q,eO d.pl x)) else dGo ls (n - (q + 1)) (q + 1) (takeD d.pl (aL x).1 ((q:Nat) + 1)) by
    rw [show n - q=(n - (q + 1)) + 1 by omega]
    conv=>lhs;unfold dGo
    rw [← hx])
   obtain ⟨t,ht⟩:∃ t,t=bs x:=⟨_,rfl⟩
   have htd:t.data.toList=x:=by rw [ht]
   have Ht:=hide ht
   have k0:=HKl.out wr HO.out
   rw [← ht] at k0
   have HId:=hide (fun X=>pZ t X)
   rw [htd] at HId
   clear hx ht hlt
   cases hid:idleB x with
   | true =>
    rw [hid] at HId
    have HR2:=hide (show kH (dGo ls (n - (q + 1)) (q + 1) d.pl)=P by rw [← HR.out,HU.out,if_pos hid])
    clear hid
    go_wp2_with fail
    refine (HId.out _).mono ?_
    rintro e wz ⟨rfl,rfl⟩
    go_wp2_with fail
    go_roundw
    ·exact ⟨q + 1,d,by omega,by simp,HD,HO,hide ⟨HS.out.1,⟨Nat.le_succ_of_le HS.out.2.uses,Nat.le_succ_of_le HS.out.2.labels,fun o ho=>Nat.le_succ_of_le (HS.out.2.arms o ho),HS.out.2.txt⟩⟩,HR2⟩
    ·simp only [intOf];omega
   | false =>
    rw [hid] at HId
    have hlens:d.L.length≤1000000:=by have:=HS.out.1.len;have e:d.pl.ops.length=d.L.length:=List.length_map _;omega
    have HRc:=hide (fun (Y:World) (Q:DAt Y B a d)=>uC B a d x ((q:Int) + 1) Y Q hid (by omega) (fun ho hl=>(HS.out.1.opn ho).1 (by show d.L.map _=[];rw [hl];rfl)) hlens (by have:=HS.out.2.uses;have e:d.pl.uses.length=d.uses.length:=rfl;omega) (by have:=HS.out.2.labels;have e:d.pl.labels.length=d.labels.length:=rfl;omega) (fun v hv=>by have:=HS.out.2.arms v.o (List.mem_map.2 ⟨v,hv,rfl⟩);omega))
    rw [← Ht.out] at HRc
    obtain ⟨RE,hRE⟩:∃ RE,RE=eO d.pl x:=⟨_,rfl⟩
    have HREe:=hide hRE
    rw [← hRE] at HRc HU
    obtain ⟨DN,hDN⟩:∃ DN,DN=if RE.2=0 then takeD d.pl (aL x).1 ((q:Int) + 1) else d.pl:=⟨_,rfl⟩
    have HDN:=hide hDN
    rw [← hDN] at HRc
    have HU2:=hide (HU.out.trans (if_neg (by rw [hid];simp)))
    clear hid hRE hDN hlens HU
    obtain ⟨Rc,Re⟩:=RE
    simp only at HRc HU2 HDN
    go_wp2_with fail
    refine (HId.out _).mono ?_
    rintro e wz ⟨rfl,rfl⟩
    go_wp2_with fail
    refine (HRc.out _ HD.out).mono ?_
    rintro e w5 ⟨rfl,⟨d2,hd2,hpl⟩,ho5⟩
    have HD2:=hide hd2
    have HO2:=hide (HO.out.trans ho5)
    clear hd2 ho5 k0
    by_cases hRe:Re=0
    case pos =>
     have q0:(((Re:Nat):Int) != 0)=false:=by rw [hRe];rfl
     have hpl2:d2.pl=takeD d.pl (aL x).1 ((q:Nat) + 1):=by rw [hpl,HDN.out,if_pos hRe]
     have HS2:=hide (show WF d2.pl∧DSz d2.pl (q + 1) from by
      rw [hpl2]
      refine ⟨qW HS.out.1 x _ (by rw [← HREe.out];exact hRe),take_sz HS.out.2 _ (fun y hy=>by have:=((gY x).1 y hy).1;omega) _⟩)
     have HR2:=hide (show kH (dGo ls (n - (q + 1)) (q + 1) d2.pl)=P by rw [← HR.out,HU2.out,if_neg (by omega),hpl2])
     clear hpl hpl2 hRe
     go_wp2_with fail
     go_roundw
     ·exact ⟨q + 1,d2,by omega,by simp,HD2,HO2,HS2,HR2⟩
     ·simp only [intOf];omega
    case neg =>
     have q0:(((Re:Nat):Int) != 0)=true:=bne_iff_ne.2 (by omega)
     have HE:=hide (show P=(cI,((q:Int) + 1,(Rc:Int) + 1),((Re:Nat):Int)) by rw [← HR.out,HU2.out,if_pos hRe];rfl)
     have hrc:Rc≤1000000000:=by have e:=xJ d.pl x;rw [← HREe.out] at e;simp only at e;omega
     have w3:IntKind.i64.wrap ((Rc:Int) + 1)=(Rc:Int) + 1:=IntWalk.i64_in _ (by omega)
     have HQ4:=hide (HO2.out.keep _ _ _ HPr1.out rfl)
     have HQ2:=hide (HO2.out.keep _ _ _ HSp1.out rfl)
     have HRp:=hide (fS (a:=.string ⟨#[]⟩) (b:=.int .i64 0) (c:=.int .i64 0) (d:=.slice none 0 0) (x:=.int .i64 ((q:Int) + 1)) (y:=.int .i64 ((Rc:Int) + 1)) HQ4.out HQ2.out rfl rfl HD2.out.ops)
     obtain ⟨⟨g0,g1,g2,g3⟩,h0,h1,h2,h3⟩:=HQ4.out.four
     have e0:w5.cell? ⟨B + 1,0,none⟩=some (.int .i64 0):=HQ2.out.cell 0
     have e1:w5.cell? ⟨B + 1,1,none⟩=some (.int .i64 0):=HQ2.out.cell 1
     have i0:=HQ2.out.frozen 0
     have i1:=HQ2.out.frozen 1
     clear hpl hRe
     go_wp2_with fail
     generalize hV:World.setCell (World.setCell _ ⟨B + 1,0,none⟩ _) _ _=V
     obtain ⟨b4,b2,bo,bk⟩:=(by have q9:=HRp.out;rw [hV] at q9;exact q9:Blk V B 25 #[.string ⟨#[]⟩,.int .i64 0,.int .i64 0,.slice none 0 0]∧Blk V (B + 1) 27 #[.int .i64 ((q:Int) + 1),.int .i64 ((Rc:Int) + 1)]∧OpsOwn V B d2.oA d2.oc d2.L∧Only (fun k=>k=B∨k=B + 1) w5 V)
     obtain ⟨⟨y0,y1,y2,y3⟩,_⟩:=b4.four
     have z0:V.cell? ⟨B + 1,0,none⟩=some (.int .i64 ((q:Int) + 1)):=b2.cell 0
     have z1:V.cell? ⟨B + 1,1,none⟩=some (.int .i64 ((Rc:Int) + 1)):=b2.cell 1
     clear hV g0 g1 g2 g3 h0 h1 h2 h3 e0 e1 i0 i1
     refine bodyPost_ret (v:=.tuple #[.agg #[.string ⟨#[]⟩,.int .i64 0,.int .i64 0,.slice none 0 0],.agg #[.int .i64 ((q:Int) + 1),.int .i64 ((Rc:Int) + 1)],.int .i64 (Re:Nat)]) (by simp [results,Tryz.results14,go_sem,y0,y1,y2,y3,z0,z1];try rfl) rfl ?_
     have hpe:=HE.out
     exact ⟨⟨none,0,[],by rw [hpe];rfl,by rw [hpe];rfl,⟨Or.inl rfl,fun v hv=>(by cases hv)⟩⟩,iR HB.out (HOw.out.trans HO2.out) bk⟩
end Go.Proofs.YtaioaojfdngfdaaGreatDoor
