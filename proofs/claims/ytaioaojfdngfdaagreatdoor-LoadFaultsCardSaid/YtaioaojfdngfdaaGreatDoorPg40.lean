/- The script of a text, by the program. Conditions: those of each theorem. -/
import Derived.Test.YtaioaojfdngfdaaGreatDoorPg09
import Derived.Test.YtaioaojfdngfdaaGreatDoorPg32
import Derived.Test.YtaioaojfdngfdaaGreatDoorPg38
set_option linter.unusedVariables false
set_option linter.unusedSimpArgs false
set_option maxHeartbeats 12800000
namespace Go.Proofs.YtaioaojfdngfdaaGreatDoor
open Go.RowKit
set_option maxRecDepth 100000
theorem own_base {w:World} {base base' size n:Nat} {e:TypeId} {v:Value} {xs:List Value} (h:w.ownsRow base e size v n xs) (hb:base'≤base):w.ownsRow base' e size v n xs:=by
 obtain ⟨h1,h2⟩:=h
 refine ⟨h1,?_⟩
 rcases h2 with h2 | ⟨g,cap,cur,hv,hg,r⟩
 ·exact Or.inl h2
 ·exact Or.inr ⟨g,cap,cur,hv,Nat.le_trans hb hg,r⟩
def pp0 (mb:Nat):Pp:=⟨⟨#[]⟩,0,0,[],none,0,[],mb,[],none,0,false,false,false,false,0,none,[],0,0,⟨0,0,0,0⟩⟩
theorem sK {w X:World} {x1 x2:Obj} (hX:(((w.alloc x1).alloc x2).alloc (.map #[] 0)).alloc (.cells (pvV (pp0 (w.heap.size + 2)).fr (pp0 (w.heap.size + 2)).st) 76)=X):PAt X w.heap.size (w.heap.size + 3) (pp0 (w.heap.size + 2))∧OnB w.heap.size w X∧X.heap.size=w.heap.size + 4:=by
 subst hX
 have hlb:=(lb_made ((w.alloc x1).alloc x2))
 rw [show ((w.alloc x1).alloc x2).heap.size=w.heap.size + 2 by simp] at hlb
 refine ⟨⟨Blk.new' (by simp),by omega,⟨World.ownsRow_nil _ _ _ _,fun v hv=>(by cases hv),List.Pairwise.nil⟩,World.ownsRow_nil _ _ _ _,hlb.only ((Only.refl aA _).alloc _) (fun h=>h),by show w.heap.size≤w.heap.size + 2;omega,World.ownsRow_nil _ _ _ _⟩,((((OnB.refl _ w).alloc _).alloc _).alloc _).alloc _,by simp⟩
theorem PAt.newLine {w:World} {B a:Nat} {p:Pp} {A1:Option Addr} {c1:Nat} {W:List WordM} {ln wd:Int} (h:PAt w B a p) (ho:w.ownsRow B 128 3 (.slice A1 W.length c1) W.length (flat encW W)) :
 PAt ((((w.setCell ⟨a,10,none⟩ (.int .i64 ln)).setCell ⟨a,11,none⟩ (.slice A1 W.length c1)).setCell ⟨a,12,none⟩ (.int .i64 wd)).setCell ⟨a,13,none⟩ (.int .i64 0)) B a { p with line:=ln,wA:=A1,ws:=W,wc:=c1,width:=wd,st:=⟨0,p.st.sl,p.st.sc,p.st.bad⟩ } ∧
 OnB B w ((((w.setCell ⟨a,10,none⟩ (.int .i64 ln)).setCell ⟨a,11,none⟩ (.slice A1 W.length c1)).setCell ⟨a,12,none⟩ (.int .i64 wd)).setCell ⟨a,13,none⟩ (.int .i64 0)):=by
 have k:Only (· = a) w ((((w.setCell ⟨a,10,none⟩ (.int .i64 ln)).setCell ⟨a,11,none⟩ (.slice A1 W.length c1)).setCell ⟨a,12,none⟩ (.int .i64 wd)).setCell ⟨a,13,none⟩ (.int .i64 0)):=cG (cG (cG (cG (Only.refl _ w) _ _) _ _) _ _) _ _
 have hS:∀ g,g=a→∃ cs,Blk w g 76 cs:=fun g hg=>by subst hg;exact ⟨_,h.blk⟩
 refine ⟨⟨?_,h.base,h.ops.type k hS (by decide) (by decide),aI h.uses k hS (by decide),h.lb.only k (fun e=>h.lb.ne h.blk e.symm),h.lbB,aI ho k hS (by decide)⟩,h.only k⟩
 exact (((Blk.set_ h.blk 10 _).set_ 11 _).set_ 12 _).set_ 13 _
theorem line_at {w:World} {g:Nat} {l:List (List UInt8)} {T:TypeId} (h:Blk w g T (flat encLn l).toArray) {q:Nat} (hq:q < l.length):w.cell? ⟨g,q,none⟩=some (.string (bs (l.getD q []))):=by
 rw [h.cell,List.getElem?_toArray]
 have:∀ (l:List (List UInt8)) (q:Nat),q < l.length→(flat encLn l)[q]?=some (.string (bs (l.getD q []))):=by
  intro l
  induction l with
  | nil=>intro q hq;cases hq
  | cons a r ih =>
   intro q hq
   cases q with
   | zero=>rfl
   | succ q =>
    show (encLn a++flat encLn r)[q + 1]?=_
    rw [List.getElem?_append_right (by simp)]
    simpa using ih q (by simpa using hq)
 exact this l q hq
theorem fS {w:World} {B base:Nat} {oA:Option Addr} {oc:Nat} {L:List OpV} {c4 c2:Array Value} {a b c d x y:Value} (h4:Blk w B 25 c4) (h2:Blk w (B + 1) 27 c2) (e4:c4.size=4) (e2:c2.size=2) (ho:OpsOwn w base oA oc L) :
 Blk (((((((w.setCell ⟨B,0,none⟩ a).setCell ⟨B,1,none⟩ b).setCell ⟨B,2,none⟩ c).setCell ⟨B,3,none⟩ d).setCell ⟨B + 1,0,none⟩ x).setCell ⟨B + 1,1,none⟩ y)) B 25 #[a,b,c,d] ∧
 Blk (((((((w.setCell ⟨B,0,none⟩ a).setCell ⟨B,1,none⟩ b).setCell ⟨B,2,none⟩ c).setCell ⟨B,3,none⟩ d).setCell ⟨B + 1,0,none⟩ x).setCell ⟨B + 1,1,none⟩ y)) (B + 1) 27 #[x,y] ∧
 OpsOwn (((((((w.setCell ⟨B,0,none⟩ a).setCell ⟨B,1,none⟩ b).setCell ⟨B,2,none⟩ c).setCell ⟨B,3,none⟩ d).setCell ⟨B + 1,0,none⟩ x).setCell ⟨B + 1,1,none⟩ y)) base oA oc L ∧
 Only (fun k=>k=B∨k=B + 1) w (((((((w.setCell ⟨B,0,none⟩ a).setCell ⟨B,1,none⟩ b).setCell ⟨B,2,none⟩ c).setCell ⟨B,3,none⟩ d).setCell ⟨B + 1,0,none⟩ x).setCell ⟨B + 1,1,none⟩ y)):=by
 rw [dW]
 have k1:=aP [a,b,c,d] 0 w B
 have b1:=h4.put [a,b,c,d] (by rw [e4];rfl)
 have s1:=h2.only k1 (fun e=>by have e':B + 1=B:=e;omega)
 have o1:=ho.type k1 (fun g hg=>by have hg':g=B:=hg;subst hg';exact ⟨_,h4⟩) (by decide) (by decide)
 generalize aE w B 0 [a,b,c,d]=V at *
 have e:(V.setCell ⟨B + 1,0,none⟩ x).setCell ⟨B + 1,1,none⟩ y=aE V (B + 1) 0 [x,y]:=rfl
 rw [e]
 have k2:=aP [x,y] 0 V (B + 1)
 refine ⟨Blk.only b1 k2 (fun e=>by have e':B=B + 1:=e;omega),s1.put [x,y] (by rw [e2];rfl),o1.type k2 (fun g hg=>by have hg':g=B + 1:=hg;subst hg';exact ⟨_,s1⟩) (by decide) (by decide),?_⟩
 exact (k1.mono (T:=fun k=>k=B∨k=B + 1) (fun k _ h=>Or.inl h)).trans (k2.mono (fun k _ h=>Or.inr h))
theorem sO {w:World} {B:Nat} {oA:Option Addr} {oc:Nat} {L:List OpV} (h:OpsOwn w B oA oc L):OpsRd w (· < B) oA L :=
 ⟨Rd.of_own h.row (fun k hk=>hk),fun v hv=>Rd.of_own (h.arms v hv) (fun k hk=>hk)⟩
theorem iR {w V0 V:World} {B:Nat} (hB:B=w.heap.size) (h:OnB B w V0) (k:Only (fun k=>k=B∨k=B + 1) V0 V):Only aA w V:=by
 subst hB
 have h2:=h.on.trans (k.mono (T:=(w.heap.size≤·)) (fun i _ hi=>by rcases hi with rfl | rfl;exact Nat.le_refl _;exact Nat.le_succ _))
 exact ⟨h2.os,h2.output,h2.size,fun i hi _=>h2.block i hi (fun e=>by have e':w.heap.size≤i:=e;omega)⟩
theorem Tryz.makeLb (w:World):(Instr.makeMap 71 none).run Tryz.prog w=.ok (.map (some w.heap.size)) (w.alloc (.map #[] 0)):=by kernel_rfl
theorem pparse_c (s:ByteArray) (w:World) (hs:s.size≤900000) (hl:LenV w) (hev:ErrV w) (hE : 8 < w.heap.size):Calls Tryz.prog 13 #[.string s] w fun e w'=>(∃ oA oc L,e=.returned (.tuple #[.agg #[.string (dH s.data.toList).1.name,.int .i64 (dH s.data.toList).1.deadline,.int .i64 (dH s.data.toList).1.jumps,.slice oA L.length oc],.agg #[.int .i64 (dH s.data.toList).2.1.1,.int .i64 (dH s.data.toList).2.1.2],.int .i64 (dH s.data.toList).2.2])∧L.map (·.o)=(dH s.data.toList).1.ops∧OpsRd w' (· < w.heap.size) oA L)∧Only aA w w':=by
 obtain ⟨ls,hls⟩:∃ ls,ls=bI s.data.toList:=⟨_,rfl⟩
 have hln:ls.length≤900001:=by
  have h1:=eP s.data.toList []
  rw [hls]
  unfold bI
  have h2:s.data.toList.length=s.size:=by simp
  omega
 have HLs:=hide (fun (X:World) (hX:LenV X)=>wM s X (by omega) hX)
 rw [← hls] at HLs
 obtain ⟨P,hP⟩:∃ P,P=dH s.data.toList:=⟨_,rfl⟩
 have HPs:=hide (show kU (mGo ls (ls.length - 0) 0 m0)=P by rw [hP,hls];rfl)
 rw [← hP]
 have HSz:=hide (show ∀ q,(ls.getD q []).length≤900000 from fun q=>(by
  have h1:=mH s.data.toList q
  have h2:s.data.toList.length=s.size:=by simp
  rw [← hls] at h1
  omega))
 obtain ⟨B,hB⟩:∃ B,B=w.heap.size:=⟨_,rfl⟩
 have HV:=hide hev
 have HL:=hide hl
 clear hls hP hev hl
 go_enter Tryz.func13,Tryz.ntmps13
 have hmk:=Tryz.makeLb
 go_wp2_with fail
 generalize hX:World.alloc (World.alloc (World.alloc (World.alloc w _) _) _) _=X
 have hS:=sK (w:=w) (X:=X) (by exact hX)
 have hPr:Blk X w.heap.size 25 #[.string ⟨#[]⟩,.int .i64 0,.int .i64 0,.slice none 0 0]:=by rw [← hX];exact (((Blk.new _ _ _).alloc _).alloc _).alloc _
 have hSp:Blk X (w.heap.size + 1) 27 #[.int .i64 0,.int .i64 0]:=by rw [← hX];exact ((Blk.new' (by simp)).alloc _).alloc _
 obtain ⟨hP0,hO0,hXs⟩:=hS
 have hLX:LenV X:=by rw [← hX];exact HL.out.below ((((Below.refl _ w).alloc (Nat.le_refl _) _).alloc (by simp) _).alloc (by simp;omega) _ |>.alloc (by simp;omega) _)
 rw [← hB] at hPr hSp hP0 hO0 hXs hE ⊢
 clear hX hmk
 obtain ⟨a,ha⟩:∃ a,a=B + 1 + 1 + 1:=⟨_,rfl⟩
 rw [show B + 3=a from ha.symm] at hP0
 rw [← ha]
 refine (HLs.out X hLX).mono ?_
 rintro e w1 ⟨rfl,hbl,hbel⟩
 have k1:Only aA X w1:=Only.of_below hbel _
 have HP1:=hide (hP0.same k1)
 have HO1:=hide (hO0.trans (OnB.none k1))
 have HPr1:=hide (hPr.only k1 (fun h=>h))
 have HSp1:=hide (hSp.only k1 (fun h=>h))
 obtain ⟨gl,hgl⟩:∃ gl,gl=X.heap.size:=⟨_,rfl⟩
 rw [← hgl] at hbl ⊢
 have HLn:=hide hbl
 have HB:=hide hB
 have HBa:=hide (show a=B + 3 from ha)
 have HOw:=hide (show OnB B w w1 from hO0.trans (OnB.none k1))
 clear hbl hbel k1 hP0 hO0 hPr hSp hXs hLX hgl ha hB
 obtain ⟨n,hn⟩:∃ n,n=ls.length:=⟨_,rfl⟩
 have Hn:=hide hn
 rw [← hn] at hln HPs ⊢
 clear hn
 have HSt:=hide (show LSz (pp0 (B + 2)).pl 0∧Safe (pp0 (B + 2)).pl∧(pp0 (B + 2)).st.bad=0 from ⟨⟨Nat.le_refl _,Nat.le_refl _,Nat.le_refl _,fun o h=>(by cases h),fun u h=>(by cases h)⟩,safe0,rfl⟩)
 have HPt:=hide (show kU (mGo ls (n - 0) 0 (pp0 (B + 2)).pl)=P from HPs.out)
 go_wp2_with fail
 go_loopw [17] (fun i wr=>∃ (q:Nat) (p:Pp),q≤n∧i=.int .i64 q∧Hid (PAt wr B a p)∧Hid (OnB B w1 wr)∧Hid (LSz p.pl q∧Safe p.pl∧p.st.bad=0)∧Hid (kU (mGo ls (n - q) q p.pl)=P)) (fun i _=>n - (intOf i).toNat)
 case atStart=>exact ⟨0,_,Nat.zero_le _,rfl,HP1,hide (OnB.refl _ _),HSt,HPt⟩
 case round =>
  clear HSt HPt HP1
  obtain ⟨q,p,hqn,rfl,HP,HO,HS,HR⟩:=hrel
  by_cases hlt:q < n
  case neg =>
   have d1:decide ((q:Int) < (n:Int))=false:=by simp;omega
   have d2:decide (q < n)=false:=by simp;omega
   have HR2:=hide (show kU p.pl=P by
    have e:=HR.out
    rw [show n - q=0 by omega] at e
    exact e)
   cases hh:p.head with
   | false =>
    have HE7:=hide (show P=(cI,(1,1),3) by
     rw [← HR2.out]
     unfold kU
     rw [if_neg (show ¬ p.pl.st.bad≠0 from fun h=>h HS.out.2.2),if_pos (show p.pl.head=false from hh)])
    have d6:=HP.out.cells.2.2.2.2.2.2.1
    rw [hh] at d6
    have HQ4:=hide (HO.out.keep _ _ _ HPr1.out rfl)
    have HQ2:=hide (HO.out.keep _ _ _ HSp1.out rfl)
    have HR:=hide (fS (a:=.string ⟨#[]⟩) (b:=.int .i64 0) (c:=.int .i64 0) (d:=.slice none 0 0) (x:=.int .i64 1) (y:=.int .i64 1) HQ4.out HQ2.out rfl rfl HP.out.ops)
    obtain ⟨⟨g0,g1,g2,g3⟩,h0,h1,h2,h3⟩:=HQ4.out.four
    have e0:wr.cell? ⟨B + 1,0,none⟩=some (.int .i64 0):=HQ2.out.cell 0
    have e1:wr.cell? ⟨B + 1,1,none⟩=some (.int .i64 0):=HQ2.out.cell 1
    have i0:=HQ2.out.frozen 0
    have i1:=HQ2.out.frozen 1
    clear hh hlt
    go_wp2_with fail
    generalize hV:World.setCell (World.setCell _ ⟨B + 1,0,none⟩ _) _ _=V
    obtain ⟨b4,b2,bo,bk⟩:=(by have q:=HR.out;rw [hV] at q;exact q:Blk V B 25 #[.string ⟨#[]⟩,.int .i64 0,.int .i64 0,.slice none 0 0]∧Blk V (B + 1) 27 #[.int .i64 1,.int .i64 1]∧OpsOwn V B p.oA p.oc p.L∧Only (fun k=>k=B∨k=B + 1) wr V)
    obtain ⟨⟨y0,y1,y2,y3⟩,_⟩:=b4.four
    have z0:V.cell? ⟨B + 1,0,none⟩=some (.int .i64 1):=b2.cell 0
    have z1:V.cell? ⟨B + 1,1,none⟩=some (.int .i64 1):=b2.cell 1
    clear hV g0 g1 g2 g3 h0 h1 h2 h3 e0 e1 i0 i1
    refine bodyPost_ret (v:=.tuple #[.agg #[.string ⟨#[]⟩,.int .i64 0,.int .i64 0,.slice none 0 0],.agg #[.int .i64 1,.int .i64 1],.int .i64 3]) (by simp [results,Tryz.results13,go_sem,y0,y1,y2,y3,z0,z1];try rfl) rfl ?_
    have hpe:=HE7.out
    exact ⟨⟨none,0,[],by rw [hpe];rfl,by rw [hpe];rfl,⟨Or.inl rfl,fun v hv=>(by cases hv)⟩⟩,iR HB.out (HOw.out.trans HO.out) bk⟩
   | true =>
    obtain ⟨RR,hRR⟩:∃ RR,RR=jJ p.labels p.uses (p.L.map (·.o)):=⟨_,rfl⟩
    have HPe:=hide (show P=match RR.2 with | none=>(⟨p.name,p.dl,p.jm,RR.1⟩,(0,0),0) | some u=>(cI,(u.line,u.col),13) by
     rw [← HR2.out]
     unfold kU
     rw [if_neg (show ¬ p.pl.st.bad≠0 from fun h=>h HS.out.2.2),if_neg (show ¬ p.pl.head=false by show ¬ p.head=false;rw [hh];simp),show jJ p.pl.labels p.pl.uses p.pl.ops=RR from hRR.symm]
     obtain ⟨r1,r2⟩:=RR
     cases r2<;>rfl)
    have HRm:=hide (show resM p.pl=resOf p.pl RR by rw [hRR];rfl)
    have d6:=HP.out.cells.2.2.2.2.2.2.1
    rw [hh] at d6
    have hc:=uM B a p wr HP.out HS.out.2.1.use HS.out.2.1.lb HS.out.1.txt (by have:=HS.out.1.uses;have e:p.pl.uses.length=p.uses.length:=rfl;omega) (by have:=HS.out.1.ops;have e:p.pl.ops.length=p.L.length:=List.length_map _;omega) (fun v hv=>by have:=HS.out.1.arms v.o (List.mem_map.2 ⟨v,hv,rfl⟩);omega)
    clear hRR hh hlt
    go_wp2_with fail
    refine hc.mono ?_
    rintro e w5 ⟨rfl,⟨p2,hp2,hpl⟩,ho5⟩
    have HP2:=hide hp2
    have HO2:=hide (HO.out.trans ho5)
    rw [HRm.out] at hpl
    obtain ⟨r1,r2⟩:=RR
    have d16:=HP2.out.cells2.2.2.2.2.2.2
    clear hc hp2 ho5 d6
    cases r2 with
    | some u =>
     have hst:p2.st=⟨p.st.nx,u.line,u.col,13⟩:=by
      have q:=congrArg PM.st hpl
      have q2:p2.st=bE u.line p.st (u.col - 1) 13:=q
      rw [q2,eJ HS.out.2.2,Int.sub_add_cancel]
     have q1:(p2.st.bad != 0)=true:=by rw [hst];rfl
     have HE7:=hide (show P=(cI,(p2.st.sl,p2.st.sc),p2.st.bad) by rw [hst];exact HPe.out)
     clear hpl hst
     go_upto_region 18 with fail
     obtain ⟨V0,hV0⟩:∃ V9,V9=w5.drew:=⟨_,rfl⟩
     have HP9:=hide (HP2.out.drew)
     have HO9:=hide (HO2.out.drew)
     rw [← hV0] at HP9 HO9
     have HQ4:=hide (HO9.out.keep _ _ _ HPr1.out rfl)
     have HQ2:=hide (HO9.out.keep _ _ _ HSp1.out rfl)
     have HNa:=hide (show ¬ a=B by have:=HBa.out;omega)
     have HNb:=hide (show ¬ (a=B∨a=B + 1) by have:=HBa.out;omega)
     refine wp_region_held (S:=fun w'=>w'.cell? ⟨a,14,none⟩=some (.int .i64 p2.st.sl)∧w'.cell? ⟨a,15,none⟩=some (.int .i64 p2.st.sc)∧w'.cell? ⟨a,16,none⟩=some (.int .i64 p2.st.bad)) (by kernel_rfl) ?_
     change wpAnyH _ _ _ _ _ _ _ _ w5.drew
     have hHeld:(fun w'=>w'.cell? ⟨a,14,none⟩=some (.int .i64 p2.st.sl)∧w'.cell? ⟨a,15,none⟩=some (.int .i64 p2.st.sc)∧w'.cell? ⟨a,16,none⟩=some (.int .i64 p2.st.bad)) w5.drew:=(by rw [← hV0];exact HP9.out.cells2.2.2.2.2)
     rw [← hV0] at hHeld ⊢
     simp only [List.size_toArray,List.length_cons,List.length_nil,Nat.zero_add,Nat.reduceAdd]
     clear hV0
     refine tk 0 ?_ rfl ?_ ?_
     rotate_left
     ·(intro w9 hS9;(try simp only [ga]);go_simp<;>rfl)
     refine tk 1 ?_ rfl ?_ ?_
     rotate_left
     ·(intro w9 hS9;(try simp only [ga]);go_simp<;>rfl)
     refine tk 2 ?_ rfl ?_ ?_
     rotate_left
     ·(intro w9 hS9;(try simp only [ga]);go_simp<;>rfl)
     refine tk 3 ?_ rfl ?_ ?_
     rotate_left
     ·(intro w9 hS9;(try simp only [ga]);go_simp<;>rfl)
     refine tk 4 ?_ rfl ?_ ?_
     rotate_left
     ·(intro w9 hS9;(try simp only [ga]);go_simp<;>rfl)
     refine tk 5 ?_ rfl ?_ ?_
     rotate_left
     ·(intro w9 hS9;(try simp only [ga]);go_simp<;>rfl)
     refine tk 6 ?_ rfl ?_ ?_
     rotate_left
     ·(intro w9 hS9;(try simp only [ga]);go_simp<;>rfl)
     refine tk 7 ?_ rfl ?_ ?_
     rotate_left
     ·(intro w9 hS9;(try simp only [ga]);go_simp<;>rfl)
     refine tk 8 ?_ rfl ?_ ?_
     rotate_left
     ·(intro w9 hS9;(try simp only [ga]);go_simp<;>rfl)
     try simp only [Act.put,gp]
     have HR:=hide (fS (a:=.string ⟨#[]⟩) (b:=.int .i64 0) (c:=.int .i64 0) (d:=.slice none 0 0) (x:=.int .i64 p2.st.sl) (y:=.int .i64 p2.st.sc) HQ4.out HQ2.out rfl rfl HP9.out.ops)
     obtain ⟨⟨g0,g1,g2,g3⟩,h0,h1,h2,h3⟩:=HQ4.out.four
     have e0:V0.cell? ⟨B + 1,0,none⟩=some (.int .i64 0):=HQ2.out.cell 0
     have e1:V0.cell? ⟨B + 1,1,none⟩=some (.int .i64 0):=HQ2.out.cell 1
     have i0:=HQ2.out.frozen 0
     have i1:=HQ2.out.frozen 1
     refine rdy 9 rfl (fun K hK=>?_)
     try simp only [ga]
     try go_simp
     refine hK.out _ _ (by rw [dW];exact ⟨cM (aP _ 0 V0 B) HNa.out HP9.out.cells2.2.2.2.2.1,cM (aP _ 0 V0 B) HNa.out HP9.out.cells2.2.2.2.2.2.1,cM (aP _ 0 V0 B) HNa.out HP9.out.cells2.2.2.2.2.2.2⟩) (fun hHeld=>?_)
     clear hK K
     try simp only [Act.put,gp]
     refine rdy 10 rfl (fun K hK=>?_)
     try simp only [ga]
     try go_simp
     refine hK.out _ _ ⟨cM HR.out.2.2.2 HNb.out HP9.out.cells2.2.2.2.2.1,cM HR.out.2.2.2 HNb.out HP9.out.cells2.2.2.2.2.2.1,cM HR.out.2.2.2 HNb.out HP9.out.cells2.2.2.2.2.2.2⟩ (fun hHeld=>?_)
     clear hK K
     refine tk 11 ?_ rfl ?_ ?_
     rotate_left
     ·(intro w9 hS9;(try simp only [ga]);go_simp<;>rfl)
     try simp only [Act.put,gp]
     refine wpAnyH_done (by kernel_rfl) ?_ _
     try simp only [Exit.then]
     clear hHeld
     go_wp2_with fail
     generalize hV:World.setCell (World.setCell _ ⟨B + 1,0,none⟩ _) _ _=V
     obtain ⟨b4,b2,bo,bk⟩:=(by have q:=HR.out;rw [hV] at q;exact q:Blk V B 25 #[.string ⟨#[]⟩,.int .i64 0,.int .i64 0,.slice none 0 0]∧Blk V (B + 1) 27 #[.int .i64 p2.st.sl,.int .i64 p2.st.sc]∧OpsOwn V B p2.oA p2.oc p2.L∧Only (fun k=>k=B∨k=B + 1) V0 V)
     obtain ⟨⟨y0,y1,y2,y3⟩,_⟩:=b4.four
     have z0:V.cell? ⟨B + 1,0,none⟩=some (.int .i64 p2.st.sl):=b2.cell 0
     have z1:V.cell? ⟨B + 1,1,none⟩=some (.int .i64 p2.st.sc):=b2.cell 1
     clear hV g0 g1 g2 g3 h0 h1 h2 h3 e0 e1 i0 i1
     refine bodyPost_ret (v:=.tuple #[.agg #[.string ⟨#[]⟩,.int .i64 0,.int .i64 0,.slice none 0 0],.agg #[.int .i64 p2.st.sl,.int .i64 p2.st.sc],.int .i64 p2.st.bad]) (by simp [results,Tryz.results13,go_sem,y0,y1,y2,y3,z0,z1];try rfl) rfl ?_
     have hpe:=HE7.out
     exact ⟨⟨none,0,[],by rw [hpe];rfl,by rw [hpe];rfl,⟨Or.inl rfl,fun v hv=>(by cases hv)⟩⟩,iR HB.out (HOw.out.trans HO9.out) bk⟩
    | none =>
     have hst:p2.st=p.st:=congrArg PM.st hpl
     have hnm:p2.name=p.name:=congrArg PM.name hpl
     have hdl:p2.dl=p.dl:=congrArg PM.dl hpl
     have hjm:p2.jm=p.jm:=congrArg PM.jm hpl
     have hops:p2.L.map (·.o)=r1:=congrArg PM.ops hpl
     have hbd:p2.st.bad=0:=by rw [hst];exact HS.out.2.2
     rw [hbd] at d16
     have HE7:=hide (show P=(⟨p2.name,p2.dl,p2.jm,p2.L.map (·.o)⟩,(0,0),0) by rw [hnm,hdl,hjm,hops];exact HPe.out)
     clear hpl hst hnm hdl hjm hops hbd
     have HQ4:=hide (HO2.out.keep _ _ _ HPr1.out rfl)
     have HQ2:=hide (HO2.out.keep _ _ _ HSp1.out rfl)
     have HR:=hide (fS (a:=.string p2.name) (b:=.int .i64 p2.dl) (c:=.int .i64 p2.jm) (d:=.slice p2.oA p2.L.length p2.oc) (x:=.int .i64 0) (y:=.int .i64 0) HQ4.out HQ2.out rfl rfl HP2.out.ops)
     obtain ⟨⟨g0,g1,g2,g3⟩,h0,h1,h2,h3⟩:=HQ4.out.four
     have e0:w5.cell? ⟨B + 1,0,none⟩=some (.int .i64 0):=HQ2.out.cell 0
     have e1:w5.cell? ⟨B + 1,1,none⟩=some (.int .i64 0):=HQ2.out.cell 1
     have i0:=HQ2.out.frozen 0
     have i1:=HQ2.out.frozen 1
     have s0:=HP2.out.cells.1
     have s1:=HP2.out.cells.2.1
     have s2:=HP2.out.cells.2.2.1
     have s3:=HP2.out.cells.2.2.2.1
     go_wp2_with fail
     generalize hV:World.setCell (World.setCell _ ⟨B + 1,0,none⟩ _) _ _=V
     obtain ⟨b4,b2,bo,bk⟩:=(by have q:=HR.out;rw [hV] at q;exact q:Blk V B 25 #[.string p2.name,.int .i64 p2.dl,.int .i64 p2.jm,.slice p2.oA p2.L.length p2.oc]∧Blk V (B + 1) 27 #[.int .i64 0,.int .i64 0]∧OpsOwn V B p2.oA p2.oc p2.L∧Only (fun k=>k=B∨k=B + 1) w5 V)
     obtain ⟨⟨y0,y1,y2,y3⟩,_⟩:=b4.four
     have z0:V.cell? ⟨B + 1,0,none⟩=some (.int .i64 0):=b2.cell 0
     have z1:V.cell? ⟨B + 1,1,none⟩=some (.int .i64 0):=b2.cell 1
     clear hV g0 g1 g2 g3 h0 h1 h2 h3 e0 e1 i0 i1 s0 s1 s2 s3
     refine bodyPost_ret (v:=.tuple #[.agg #[.string p2.name,.int .i64 p2.dl,.int .i64 p2.jm,.slice p2.oA p2.L.length p2.oc],.agg #[.int .i64 0,.int .i64 0],.int .i64 0]) (by simp [results,Tryz.results13,go_sem,y0,y1,y2,y3,z0,z1];try rfl) rfl ?_
     have hpe:=HE7.out
     exact ⟨⟨p2.oA,p2.oc,p2.L,by rw [hpe],by rw [hpe],(by have q:=sO bo;rw [HB.out] at q;exact q)⟩,iR HB.out (HOw.out.trans HO2.out) bk⟩
  case pos =>
   have d1:decide ((q:Int) < (n:Int))=true:=by simp;omega
   have d2:decide (q < n)=true:=by simp;omega
   have j1:(0:Int)≤(q:Int):=by omega
   have j2:(q:Int) < (n:Int):=by omega
   have w1':IntKind.i64.wrap ((q:Int) + 1)=(q:Int) + 1:=IntWalk.i64_in _ (by omega)
   obtain ⟨x,hx⟩:∃ x,x=ls.getD q []:=⟨_,rfl⟩
   have k0:=line_at (HO.out.keep gl _ _ HLn.out rfl) (q:=q) (by have:=Hn.out;omega)
   have hxl:x.length≤900000:=by rw [hx];exact HSz.out q
   have HR2:=hide (show kU (mGo ls (n - (q + 1)) (q + 1) (iV p.pl q x))=P by
    have e:=HR.out
    rw [show n - q=(n - (q + 1)) + 1 by omega] at e
    unfold mGo at e
    rw [if_neg (show ¬ p.pl.st.bad≠0 from fun h=>h HS.out.2.2),← hx] at e
    exact e)
   rw [← hx] at k0
   have hLS:=one_sz HS.out.1 q x (by omega)
   have HLS:=hide hLS
   have HSf:=hide (fun hi h1=>wU HS.out.2.1 HS.out.2.2 q x hi h1)
   obtain ⟨t,ht⟩:∃ t,t=bs x:=⟨_,rfl⟩
   have htd:t.data.toList=x:=by rw [ht]
   have hts:t.size=x.length:=by rw [ht];exact bJ x
   rw [← ht] at k0
   have HId:=hide (fun X=>Idle_c t X)
   have HWs:=hide (fun X=>Words_q t X (by omega))
   rw [htd] at HId HWs
   clear hLS hx ht hlt HR
   cases hid:idleB x with
   | true =>
    rw [hid] at HId
    have HE:=hide (show iV p.pl q x=p.pl by unfold iV;rw [if_pos hid])
    clear hid HWs
    go_wp2_with fail
    refine (HId.out _).mono ?_
    rintro e wz ⟨rfl,rfl⟩
    go_wp2_with fail
    go_roundw
    ·exact ⟨q + 1,p,by omega,by simp,HP,HO,hide ⟨by rw [← HE.out];exact HLS.out,HS.out.2.1,HS.out.2.2⟩,hide (by have e:=HR2.out;rw [HE.out] at e;exact e)⟩
    ·simp only [intOf];omega
   | false =>
    rw [hid] at HId
    have HSf2:=hide (HSf.out hid)
    have HE:=hide (show iV p.pl q x=if (aL x).2.2≠0 then iE (gA p.pl q x) (aL x).2.1 (aL x).2.2 else lP (gA p.pl q x) by unfold iV;rw [if_neg (by rw [hid];simp)])
    have HWn:=hide (fun (h:(aL x).2.2=0)=>l4 h hid)
    clear hid HSf
    go_wp2_with fail
    refine (HId.out _).mono ?_
    rintro e wz ⟨rfl,rfl⟩
    go_wp2_with fail
    refine (HWs.out _).mono ?_
    rintro e wz ⟨⟨A1,c1,rfl,how⟩,hbz⟩
    have hPz:=HP.out.same (Only.of_below hbz aA)
    have hOz:=HO.out.trans (OnB.none (Only.of_below hbz aA))
    have hgz:=own_base how (base':=B) (by have:=HP.out.lt;have:=HBa.out;omega)
    have NL:=hide (hPz.newLine (ln:=(q:Int) + 1) (wd:=(x.length:Nat)) hgz)
    have d10:=hPz.cells2.1
    have d11:=hPz.cells2.2.1
    have d12:=hPz.cells2.2.2.1
    have d13:=hPz.cells2.2.2.2.1
    have f10:=hPz.frozen 10
    have f11:=hPz.frozen 11
    have f12:=hPz.frozen 12
    have f13:=hPz.frozen 13
    have HOz:=hide hOz
    clear hPz hOz hgz how hbz k0
    obtain ⟨W,hW⟩:∃ W,W=aL x:=⟨_,rfl⟩
    have hWs:=gY x
    have hWat:=pQ x
    rw [← hW] at hWs hWat HE HWn NL ⊢
    have HE2:=hide (show gA p.pl q x=({ p with line:=(q:Int) + 1,wA:=A1,ws:=W.1,wc:=c1,width:=(x.length:Nat),st:=⟨0,p.st.sl,p.st.sc,p.st.bad⟩ }:Pp).pl by unfold gA;rw [← hW];rfl)
    clear hW
    obtain ⟨W1,Wa,We⟩:=W
    simp only at hWs hWat HE HWn HE2 NL
    have hWa:Wa≤1000000000:=by omega
    obtain ⟨nW,hnW⟩:∃ nW,nW=W1.length:=⟨_,rfl⟩
    rw [← hnW] at NL ⊢
    have HnW:=hide hnW
    clear hnW
    go_upto_region 8 with fail
    generalize hZ:World.setCell (World.setCell (World.setCell (World.setCell wz _ _) _ _) _ _) _ _=Z
    obtain ⟨p1,hp1⟩:∃ p1:Pp,p1={ p with line:=(q:Int) + 1,wA:=A1,ws:=W1,wc:=c1,width:=(x.length:Nat),st:=⟨0,p.st.sl,p.st.sc,p.st.bad⟩ }:=⟨_,rfl⟩
    have HPZ:=hide (show PAt Z B a p1 by rw [← hZ,hp1];exact NL.out.1)
    have HOZ:=hide (show OnB B w1 Z by rw [← hZ];exact HOz.out.trans NL.out.2)
    have hL1:gA p.pl q x=p1.pl:=by rw [hp1];exact HE2.out
    rw [hL1] at HE
    have HS1:=hide (show p1.st.nx=0∧p1.st.bad=0∧(p1.opn=true→p1.L≠[])∧MSz p1.pl q∧(We=0→0 < p1.ws.length) from by
     rw [hp1]
     refine ⟨rfl,HS.out.2.2,fun h e=>HS.out.2.1.opn h (by show List.map _ p.L=[];rw [show p.L=[] from e];rfl),⟨HS.out.1.ops,HS.out.1.uses,HS.out.1.labels,HS.out.1.arms,by show W1.length≤_;omega,fun y hy=>by have:=(hWs.1 y hy).2;omega,fun y hy=>by have:=(hWs.1 y hy).1;omega,by show (0:Int)≤(x.length:Int);omega,by show (x.length:Int)≤1000000000;omega,Nat.zero_le _,by omega⟩,fun h=>List.length_pos_iff.2 (HWn.out h)⟩)
    clear hp1 hZ HE2 NL HOz hWs hL1 d10 d11 d12 d13 f10 f11 f12 f13 hWat HWn HnW HP HO
    by_cases hWe:We=0
    case pos =>
     have hWz:((We:Nat):Int)=0:=by omega
     have q0:(((We:Nat):Int) != 0)=false:=by rw [hWz];rfl
     have HE3:=hide (show iV p.pl q x=lP p1.pl by rw [HE.out,if_neg (by omega)])
     have hc:=psay_c B a p1 q Z HPZ.out HS1.out.2.2.2.1 (by omega) HS1.out.1 (HS1.out.2.2.2.2 hWe) HS1.out.2.2.1 (HV.out.only (by have:=HB.out;omega) (HOw.out.trans HOZ.out)) (by have:=HB.out;omega)
     clear hWe hWz
     go_wp2_with fail
     refine hc.mono ?_
     rintro e w5 ⟨rfl,⟨p2,hp2,hpl⟩,ho5⟩
     have HP2:=hide hp2
     have HO2:=hide (HOZ.out.trans ho5)
     rw [← HE3.out] at hpl
     clear hc hp2 ho5
     have HPl:=hide hpl
     have d16:=HP2.out.cells2.2.2.2.2.2.2
     clear hpl
     by_cases hb2:p2.st.bad=0
     case pos =>
      have q1:(p2.st.bad != 0)=false:=by rw [hb2];rfl
      have HS2:=hide (show LSz p2.pl (q + 1)∧Safe p2.pl∧p2.st.bad=0 from ⟨by rw [HPl.out];exact HLS.out,by rw [HPl.out];exact HSf2.out (by rw [← HPl.out];exact hb2),hb2⟩)
      have HR3:=hide (show kU (mGo ls (n - (q + 1)) (q + 1) p2.pl)=P by rw [HPl.out];exact HR2.out)
      rw [hb2] at d16
      clear hb2 q1
      go_wp2_with fail
      go_roundw
      ·exact ⟨q + 1,p2,by omega,by simp,HP2,HO2,HS2,HR3⟩
      ·simp only [intOf];omega
     case neg =>
      have q1:(p2.st.bad != 0)=true:=bne_iff_ne.2 hb2
      have HE7:=hide (show P=(cI,(p2.st.sl,p2.st.sc),p2.st.bad) by
       rw [← HR2.out,← HPl.out,vS _ _ _ (show p2.pl.st.bad≠0 from hb2)]
       unfold kU
       rw [if_pos (show p2.pl.st.bad≠0 from hb2)]
       rfl)
      clear hb2
      go_upto_region 12 with fail
      obtain ⟨V0,hV0⟩:∃ V9,V9=w5.drew:=⟨_,rfl⟩
      have HP9:=hide (HP2.out.drew)
      have HO9:=hide (HO2.out.drew)
      rw [← hV0] at HP9 HO9
      have HQ4:=hide (HO9.out.keep _ _ _ HPr1.out rfl)
      have HQ2:=hide (HO9.out.keep _ _ _ HSp1.out rfl)
      have HNa:=hide (show ¬ a=B by have:=HBa.out;omega)
      have HNb:=hide (show ¬ (a=B∨a=B + 1) by have:=HBa.out;omega)
      refine wp_region_held (S:=fun w'=>w'.cell? ⟨a,14,none⟩=some (.int .i64 p2.st.sl)∧w'.cell? ⟨a,15,none⟩=some (.int .i64 p2.st.sc)∧w'.cell? ⟨a,16,none⟩=some (.int .i64 p2.st.bad)) (by kernel_rfl) ?_
      change wpAnyH _ _ _ _ _ _ _ _ w5.drew
      have hHeld:(fun w'=>w'.cell? ⟨a,14,none⟩=some (.int .i64 p2.st.sl)∧w'.cell? ⟨a,15,none⟩=some (.int .i64 p2.st.sc)∧w'.cell? ⟨a,16,none⟩=some (.int .i64 p2.st.bad)) w5.drew:=(by rw [← hV0];exact HP9.out.cells2.2.2.2.2)
      rw [← hV0] at hHeld ⊢
      simp only [List.size_toArray,List.length_cons,List.length_nil,Nat.zero_add,Nat.reduceAdd]
      clear hV0
      refine tk 0 ?_ rfl ?_ ?_
      rotate_left
      ·(intro w9 hS9;(try simp only [ga]);go_simp<;>rfl)
      refine tk 1 ?_ rfl ?_ ?_
      rotate_left
      ·(intro w9 hS9;(try simp only [ga]);go_simp<;>rfl)
      refine tk 2 ?_ rfl ?_ ?_
      rotate_left
      ·(intro w9 hS9;(try simp only [ga]);go_simp<;>rfl)
      refine tk 3 ?_ rfl ?_ ?_
      rotate_left
      ·(intro w9 hS9;(try simp only [ga]);go_simp<;>rfl)
      refine tk 4 ?_ rfl ?_ ?_
      rotate_left
      ·(intro w9 hS9;(try simp only [ga]);go_simp<;>rfl)
      refine tk 5 ?_ rfl ?_ ?_
      rotate_left
      ·(intro w9 hS9;(try simp only [ga]);go_simp<;>rfl)
      refine tk 6 ?_ rfl ?_ ?_
      rotate_left
      ·(intro w9 hS9;(try simp only [ga]);go_simp<;>rfl)
      refine tk 7 ?_ rfl ?_ ?_
      rotate_left
      ·(intro w9 hS9;(try simp only [ga]);go_simp<;>rfl)
      refine tk 8 ?_ rfl ?_ ?_
      rotate_left
      ·(intro w9 hS9;(try simp only [ga]);go_simp<;>rfl)
      try simp only [Act.put,gp]
      have HR:=hide (fS (a:=.string ⟨#[]⟩) (b:=.int .i64 0) (c:=.int .i64 0) (d:=.slice none 0 0) (x:=.int .i64 p2.st.sl) (y:=.int .i64 p2.st.sc) HQ4.out HQ2.out rfl rfl HP9.out.ops)
      obtain ⟨⟨g0,g1,g2,g3⟩,h0,h1,h2,h3⟩:=HQ4.out.four
      have e0:V0.cell? ⟨B + 1,0,none⟩=some (.int .i64 0):=HQ2.out.cell 0
      have e1:V0.cell? ⟨B + 1,1,none⟩=some (.int .i64 0):=HQ2.out.cell 1
      have i0:=HQ2.out.frozen 0
      have i1:=HQ2.out.frozen 1
      refine rdy 9 rfl (fun K hK=>?_)
      try simp only [ga]
      try go_simp
      refine hK.out _ _ (by rw [dW];exact ⟨cM (aP _ 0 V0 B) HNa.out HP9.out.cells2.2.2.2.2.1,cM (aP _ 0 V0 B) HNa.out HP9.out.cells2.2.2.2.2.2.1,cM (aP _ 0 V0 B) HNa.out HP9.out.cells2.2.2.2.2.2.2⟩) (fun hHeld=>?_)
      clear hK K
      try simp only [Act.put,gp]
      refine rdy 10 rfl (fun K hK=>?_)
      try simp only [ga]
      try go_simp
      refine hK.out _ _ ⟨cM HR.out.2.2.2 HNb.out HP9.out.cells2.2.2.2.2.1,cM HR.out.2.2.2 HNb.out HP9.out.cells2.2.2.2.2.2.1,cM HR.out.2.2.2 HNb.out HP9.out.cells2.2.2.2.2.2.2⟩ (fun hHeld=>?_)
      clear hK K
      refine tk 11 ?_ rfl ?_ ?_
      rotate_left
      ·(intro w9 hS9;(try simp only [ga]);go_simp<;>rfl)
      try simp only [Act.put,gp]
      refine wpAnyH_done (by kernel_rfl) ?_ _
      try simp only [Exit.then]
      clear hHeld
      go_wp2_with fail
      generalize hV:World.setCell (World.setCell _ ⟨B + 1,0,none⟩ _) _ _=V
      obtain ⟨b4,b2,bo,bk⟩:=(by have q:=HR.out;rw [hV] at q;exact q:Blk V B 25 #[.string ⟨#[]⟩,.int .i64 0,.int .i64 0,.slice none 0 0]∧Blk V (B + 1) 27 #[.int .i64 p2.st.sl,.int .i64 p2.st.sc]∧OpsOwn V B p2.oA p2.oc p2.L∧Only (fun k=>k=B∨k=B + 1) V0 V)
      obtain ⟨⟨y0,y1,y2,y3⟩,_⟩:=b4.four
      have z0:V.cell? ⟨B + 1,0,none⟩=some (.int .i64 p2.st.sl):=b2.cell 0
      have z1:V.cell? ⟨B + 1,1,none⟩=some (.int .i64 p2.st.sc):=b2.cell 1
      clear hV g0 g1 g2 g3 h0 h1 h2 h3 e0 e1 i0 i1
      refine bodyPost_ret (v:=.tuple #[.agg #[.string ⟨#[]⟩,.int .i64 0,.int .i64 0,.slice none 0 0],.agg #[.int .i64 p2.st.sl,.int .i64 p2.st.sc],.int .i64 p2.st.bad]) (by simp [results,Tryz.results13,go_sem,y0,y1,y2,y3,z0,z1];try rfl) rfl ?_
      have hpe:=HE7.out
      exact ⟨⟨none,0,[],by rw [hpe];rfl,by rw [hpe];rfl,⟨Or.inl rfl,fun v hv=>(by cases hv)⟩⟩,iR HB.out (HOw.out.trans HO9.out) bk⟩
    case neg =>
     have q0:(((We:Nat):Int) != 0)=true:=bne_iff_ne.2 (by omega)
     have HE3:=hide (show iV p.pl q x=iE p1.pl Wa We by rw [HE.out,if_pos hWe])
     have hc:=eA a p1.fr p1.st Wa We Z HPZ.out.blk (by omega) (by omega)
     clear hWe
     go_wp2_with fail
     refine hc.mono ?_
     rintro e w5 ⟨rfl,hb5,ho5⟩
     obtain ⟨p2,hp2⟩:∃ p2:Pp,p2={ p1 with st:=bE p1.line p1.st Wa We }:=⟨_,rfl⟩
     have HP2:=hide (show PAt w5 B a p2 by rw [hp2];exact HPZ.out.st ho5 hb5)
     have HO2:=hide (HOZ.out.trans (HPZ.out.only ho5))
     have hpl:p2.pl=iV p.pl q x:=by rw [HE3.out,hp2];rfl
     clear hc hb5 ho5 hp2
     have HPl:=hide hpl
     have d16:=HP2.out.cells2.2.2.2.2.2.2
     clear hpl
     by_cases hb2:p2.st.bad=0
     case pos =>
      have q1:(p2.st.bad != 0)=false:=by rw [hb2];rfl
      have HS2:=hide (show LSz p2.pl (q + 1)∧Safe p2.pl∧p2.st.bad=0 from ⟨by rw [HPl.out];exact HLS.out,by rw [HPl.out];exact HSf2.out (by rw [← HPl.out];exact hb2),hb2⟩)
      have HR3:=hide (show kU (mGo ls (n - (q + 1)) (q + 1) p2.pl)=P by rw [HPl.out];exact HR2.out)
      rw [hb2] at d16
      clear hb2 q1
      go_wp2_with fail
      go_roundw
      ·exact ⟨q + 1,p2,by omega,by simp,HP2,HO2,HS2,HR3⟩
      ·simp only [intOf];omega
     case neg =>
      have q1:(p2.st.bad != 0)=true:=bne_iff_ne.2 hb2
      have HE7:=hide (show P=(cI,(p2.st.sl,p2.st.sc),p2.st.bad) by
       rw [← HR2.out,← HPl.out,vS _ _ _ (show p2.pl.st.bad≠0 from hb2)]
       unfold kU
       rw [if_pos (show p2.pl.st.bad≠0 from hb2)]
       rfl)
      clear hb2
      go_upto_region 12 with fail
      obtain ⟨V0,hV0⟩:∃ V9,V9=w5.drew:=⟨_,rfl⟩
      have HP9:=hide (HP2.out.drew)
      have HO9:=hide (HO2.out.drew)
      rw [← hV0] at HP9 HO9
      have HQ4:=hide (HO9.out.keep _ _ _ HPr1.out rfl)
      have HQ2:=hide (HO9.out.keep _ _ _ HSp1.out rfl)
      have HNa:=hide (show ¬ a=B by have:=HBa.out;omega)
      have HNb:=hide (show ¬ (a=B∨a=B + 1) by have:=HBa.out;omega)
      refine wp_region_held (S:=fun w'=>w'.cell? ⟨a,14,none⟩=some (.int .i64 p2.st.sl)∧w'.cell? ⟨a,15,none⟩=some (.int .i64 p2.st.sc)∧w'.cell? ⟨a,16,none⟩=some (.int .i64 p2.st.bad)) (by kernel_rfl) ?_
      change wpAnyH _ _ _ _ _ _ _ _ w5.drew
      have hHeld:(fun w'=>w'.cell? ⟨a,14,none⟩=some (.int .i64 p2.st.sl)∧w'.cell? ⟨a,15,none⟩=some (.int .i64 p2.st.sc)∧w'.cell? ⟨a,16,none⟩=some (.int .i64 p2.st.bad)) w5.drew:=(by rw [← hV0];exact HP9.out.cells2.2.2.2.2)
      rw [← hV0] at hHeld ⊢
      simp only [List.size_toArray,List.length_cons,List.length_nil,Nat.zero_add,Nat.reduceAdd]
      clear hV0
      refine tk 0 ?_ rfl ?_ ?_
      rotate_left
      ·(intro w9 hS9;(try simp only [ga]);go_simp<;>rfl)
      refine tk 1 ?_ rfl ?_ ?_
      rotate_left
      ·(intro w9 hS9;(try simp only [ga]);go_simp<;>rfl)
      refine tk 2 ?_ rfl ?_ ?_
      rotate_left
      ·(intro w9 hS9;(try simp only [ga]);go_simp<;>rfl)
      refine tk 3 ?_ rfl ?_ ?_
      rotate_left
      ·(intro w9 hS9;(try simp only [ga]);go_simp<;>rfl)
      refine tk 4 ?_ rfl ?_ ?_
      rotate_left
      ·(intro w9 hS9;(try simp only [ga]);go_simp<;>rfl)
      refine tk 5 ?_ rfl ?_ ?_
      rotate_left
      ·(intro w9 hS9;(try simp only [ga]);go_simp<;>rfl)
      refine tk 6 ?_ rfl ?_ ?_
      rotate_left
      ·(intro w9 hS9;(try simp only [ga]);go_simp<;>rfl)
      refine tk 7 ?_ rfl ?_ ?_
      rotate_left
      ·(intro w9 hS9;(try simp only [ga]);go_simp<;>rfl)
      refine tk 8 ?_ rfl ?_ ?_
      rotate_left
      ·(intro w9 hS9;(try simp only [ga]);go_simp<;>rfl)
      try simp only [Act.put,gp]
      have HR:=hide (fS (a:=.string ⟨#[]⟩) (b:=.int .i64 0) (c:=.int .i64 0) (d:=.slice none 0 0) (x:=.int .i64 p2.st.sl) (y:=.int .i64 p2.st.sc) HQ4.out HQ2.out rfl rfl HP9.out.ops)
      obtain ⟨⟨g0,g1,g2,g3⟩,h0,h1,h2,h3⟩:=HQ4.out.four
      have e0:V0.cell? ⟨B + 1,0,none⟩=some (.int .i64 0):=HQ2.out.cell 0
      have e1:V0.cell? ⟨B + 1,1,none⟩=some (.int .i64 0):=HQ2.out.cell 1
      have i0:=HQ2.out.frozen 0
      have i1:=HQ2.out.frozen 1
      refine rdy 9 rfl (fun K hK=>?_)
      try simp only [ga]
      try go_simp
      refine hK.out _ _ (by rw [dW];exact ⟨cM (aP _ 0 V0 B) HNa.out HP9.out.cells2.2.2.2.2.1,cM (aP _ 0 V0 B) HNa.out HP9.out.cells2.2.2.2.2.2.1,cM (aP _ 0 V0 B) HNa.out HP9.out.cells2.2.2.2.2.2.2⟩) (fun hHeld=>?_)
      clear hK K
      try simp only [Act.put,gp]
      refine rdy 10 rfl (fun K hK=>?_)
      try simp only [ga]
      try go_simp
      refine hK.out _ _ ⟨cM HR.out.2.2.2 HNb.out HP9.out.cells2.2.2.2.2.1,cM HR.out.2.2.2 HNb.out HP9.out.cells2.2.2.2.2.2.1,cM HR.out.2.2.2 HNb.out HP9.out.cells2.2.2.2.2.2.2⟩ (fun hHeld=>?_)
      clear hK K
      refine tk 11 ?_ rfl ?_ ?_
      rotate_left
      ·(intro w9 hS9;(try simp only [ga]);go_simp<;>rfl)
      try simp only [Act.put,gp]
      refine wpAnyH_done (by kernel_rfl) ?_ _
      try simp only [Exit.then]
      clear hHeld
      go_wp2_with fail
      generalize hV:World.setCell (World.setCell _ ⟨B + 1,0,none⟩ _) _ _=V
      obtain ⟨b4,b2,bo,bk⟩:=(by have q:=HR.out;rw [hV] at q;exact q:Blk V B 25 #[.string ⟨#[]⟩,.int .i64 0,.int .i64 0,.slice none 0 0]∧Blk V (B + 1) 27 #[.int .i64 p2.st.sl,.int .i64 p2.st.sc]∧OpsOwn V B p2.oA p2.oc p2.L∧Only (fun k=>k=B∨k=B + 1) V0 V)
      obtain ⟨⟨y0,y1,y2,y3⟩,_⟩:=b4.four
      have z0:V.cell? ⟨B + 1,0,none⟩=some (.int .i64 p2.st.sl):=b2.cell 0
      have z1:V.cell? ⟨B + 1,1,none⟩=some (.int .i64 p2.st.sc):=b2.cell 1
      clear hV g0 g1 g2 g3 h0 h1 h2 h3 e0 e1 i0 i1
      refine bodyPost_ret (v:=.tuple #[.agg #[.string ⟨#[]⟩,.int .i64 0,.int .i64 0,.slice none 0 0],.agg #[.int .i64 p2.st.sl,.int .i64 p2.st.sc],.int .i64 p2.st.bad]) (by simp [results,Tryz.results13,go_sem,y0,y1,y2,y3,z0,z1];try rfl) rfl ?_
      have hpe:=HE7.out
      exact ⟨⟨none,0,[],by rw [hpe];rfl,by rw [hpe];rfl,⟨Or.inl rfl,fun v hv=>(by cases hv)⟩⟩,iR HB.out (HOw.out.trans HO9.out) bk⟩
end Go.Proofs.YtaioaojfdngfdaaGreatDoor
