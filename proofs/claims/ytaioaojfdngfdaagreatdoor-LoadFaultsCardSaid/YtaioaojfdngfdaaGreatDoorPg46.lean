/- Parts of a chain of lemmas: LoadQ, Ld6, Ld7. Conditions: those of each theorem. -/
import Derived.Test.YtaioaojfdngfdaaGreatDoorPg43
import Derived.Test.YtaioaojfdngfdaaGreatDoorPg45
import Derived.Test.YtaioaojfdngfdaaGreatDoorPg42
import Derived.BigRegion
import Derived.BigQuiet
set_option linter.unusedVariables false
set_option linter.unusedSimpArgs false
set_option maxHeartbeats 25600000
namespace Go.Proofs.YtaioaojfdngfdaaGreatDoor
open Go.RowKit
def iZ (d:DM) (k:Nat):Prop:=∀ u ∈ d.uses,0≤u.line∧u.line≤(k:Int)
theorem mX {d:DM} {k:Nat} (h:iZ d k) (l:List WordM) (i:Nat) (hi:i + 1≤k) (how:Int):iZ (tX d l ((i:Nat) + 1) how) k:=by
 intro u hu
 unfold tX at hu
 simp only at hu
 rcases List.mem_append.1 hu with hu | hu
 ·exact h u hu
 ·rw [List.mem_singleton] at hu
  subst hu
  show (0:Int)≤(i:Nat) + 1∧((i:Nat):Int) + 1≤k
  omega
theorem takeD_in {d:DM} {k:Nat} (h:iZ d k) (l:List WordM) (i:Nat) (hi:i + 1≤k):iZ (takeD d l ((i:Nat) + 1)) k:=by
 have h1:iZ (dOp d l) k:=by
  unfold dOp
  split<;>first | exact h | (intro u hu;exact h u hu)
 unfold takeD cD
 split
 ·exact fun u hu=>h1 u hu
 split
 ·exact fun u hu=>h1 u hu
 split
 ·refine mX ?_ l i hi _
  exact fun u hu=>h1 u hu
 split
 ·refine mX ?_ l i hi _
  exact fun u hu=>h1 u hu
 split
 ·refine mX ?_ l i hi _
  exact fun u hu=>h1 u hu
 split
 ·exact mX h1 l i hi _
 ·exact h1
theorem wH {ls:List (List UInt8 × Int)} {k:Nat}:∀ (us:List UseM) (ops:List OpM),(∀ u ∈ us,0≤u.line∧u.line≤(k:Int))→∀ v,(iH ls us ops).2=some v→0≤v.line∧v.line≤(k:Int)
 | [],ops,_,v,e=>by cases e
 | u :: r,ops,h,v,e=>by
  unfold iH at e
  split at e
  ·injection e with e
   subst e
   exact h u (List.mem_cons_self ..)
  ·exact wH r _ (fun x hx=>h x (List.mem_cons_of_mem _ hx)) v e
theorem endD_in {k:Nat} (x:DM × Option (Nat × Nat × Nat)) (hk:1≤k) (h:iZ x.1 k) (hs:∀ p,x.2=some p→p.1 + 1≤k):0≤(kH x).2.1.1∧(kH x).2.1.1≤(k:Int):=by
 unfold kH
 split
 ·next i c e heq =>
  have:=hs _ heq
  simp only at this ⊢
  omega
 ·split
  ·simp only
   omega
  ·split
   ·simp only
    omega
   ·next ops u heq =>
    have:=wH x.1.uses x.1.ops h u (by rw [heq])
    exact this
theorem vE (l:List (List UInt8)) (k:Nat):∀ (f i:Nat) (d:DM),i + f≤k→iZ d k→iZ (dGo l f i d).1 k∧∀ p,(dGo l f i d).2=some p→p.1 + 1≤k
 | 0,_,d,_,h=>⟨h,fun _ e=>by cases e⟩
 | f + 1,i,d,hf,h=>by
  unfold dGo
  split
  ·exact vE l k f (i + 1) d (by omega) h
  split
  ·refine ⟨h,fun p e=>?_⟩
   injection e with e
   subst e
   show i + 1≤k
   omega
  ·exact vE l k f (i + 1) _ (by omega) (takeD_in h _ i (by omega))
theorem nV (s:List UInt8):0≤(dH s).2.1.1∧(dH s).2.1.1≤((bI s).length:Int):=by
 rw [kO]
 unfold eT
 obtain ⟨h1,h2⟩:=vE (bI s) (bI s).length (bI s).length 0 d0 (by omega) (fun u hu=>by cases hu)
 exact endD_in _ (iP s) h1 h2
theorem join_len (l:List (List UInt8)):(Lib.join l [10]).length≤(l.map (·.length)).sum + l.length:=by
 cases l with
 | nil=>simp [Lib.join_nil]
 | cons x r =>
  rw [Lib.join_cons]
  have:(Lib.joinTail [10] r).length=(r.map (·.length)).sum + r.length:=by
   unfold Lib.joinTail
   induction r with
   | nil=>rfl
   | cons y r ih =>
    simp only [List.map_cons,List.flatten_cons,List.length_append,List.sum_cons,List.length_cons] at ih ⊢
    rw [ih]
    simp
    omega
  rw [List.length_append,this]
  simp
  omega
def szP (l:List (List UInt8)):Nat:=(l.map (fun s=>s.length + 1)).sum
theorem hG (l:List (List UInt8)):(Lib.join l [10]).length≤szP l:=by
 refine Nat.le_trans (join_len l) ?_
 unfold szP
 induction l with
 | nil=>simp
 | cons x r ih=>simp at ih ⊢;omega
theorem lE (l:List (List UInt8)):l.length≤szP l:=by
 unfold szP
 induction l with
 | nil=>simp
 | cons x r ih=>simp at ih ⊢;omega
theorem fD (a b:List (List UInt8)):szP (a++b)=szP a + szP b:=by unfold szP;simp
theorem jZ:∀ (r cur:List UInt8),szP (aV r cur)=cur.length + r.length + 1
 | [],cur=>by unfold aV szP;simp
 | c :: r,cur=>by
  unfold aV
  split
  ·show szP ([cur]++aV r [])=_
   rw [fD,jZ r []]
   unfold szP
   simp
   omega
  ·rw [jZ r (cur++[c])]
   simp
   omega
theorem rN:∀ (r:List (List UInt8)) (i:Nat) (p:PartM) (q:PartM),q ∈ dD r i p→szP q.l≤szP p.l + szP r∧(q.line≤p.line∨q.line≤i + r.length)
 | [],i,p,q,h=>by
  unfold dD at h
  rw [List.mem_singleton] at h
  subst h
  exact ⟨Nat.le_add_right _ _,Or.inl (Nat.le_refl _)⟩
 | s :: r,i,p,q,h=>by
  have e:szP (s :: r)=szP [s] + szP r:=fD [s] r
  unfold dD at h
  rw [e,List.length_cons]
  split at h
  ·rcases List.mem_cons.1 h with rfl | h
   ·exact ⟨Nat.le_add_right _ _,Or.inl (Nat.le_refl _)⟩
   ·obtain ⟨h1,h2⟩:=rN r (i + 1) ⟨i + 1,[s]⟩ q h
    simp only at h1 h2
    exact ⟨by omega,by omega⟩
  ·obtain ⟨h1,h2⟩:=rN r (i + 1) ⟨p.line,p.l++[s]⟩ q h
   simp only [fD] at h1 h2
   exact ⟨by omega,by omega⟩
theorem cutM_sz (s:List UInt8) (q:PartM) (h:q ∈ pL s):szP q.l≤s.length + 1∧q.line≤s.length + 1:=by
 have h1:q ∈ dD (bI s) 0 ⟨1,[]⟩:=by
  unfold pL jN at h
  split at h
  ·cases h
  ·next p r heq =>
   rw [heq]
   split at h
   ·exact h
   ·exact List.mem_cons_of_mem _ h
 obtain ⟨h2,h3⟩:=rN _ _ _ _ h1
 have h4:=jZ s []
 have h5:=eP s []
 have h6:(bI s)=aV s []:=rfl
 rw [h6] at h2 h3
 simp only at h2 h3
 rw [h4] at h2
 have h7:szP []=0:=rfl
 simp at h2 h5
 exact ⟨by omega,by omega⟩
theorem join_c (A:Option Addr) (c:Nat) (l:List (List UInt8)) (w:World) (hr:Rd w aA A (flat encLn l)) (hc:l.length≤c) (hz:szP l≤1000000) :
 Calls Tryz.prog 84 #[.slice A l.length c,.string ⟨#[10]⟩] w fun e w'=>e=.returned (.string (bs (Lib.join l [10])))∧Below w.heap.size w w':=by
 have h1:=lE l
 have h2:=hG l
 have e1:l.length=(l.map bs).length:=by simp
 have e2:(l.map bs).map (·.data.toList)=l:=by
  rw [List.map_map]
  exact List.map_id'' (fun _=>rfl) l
 rcases l with _ | ⟨x,r⟩
 ·have hw:∀ (a:Option Addr),Calls Tryz.prog 84 #[.slice a 0 c,.string ⟨#[10]⟩] w fun e w'=>e=.returned (.string ⟨#[]⟩)∧w'=w:=fun a=>Any.strings_Join_none Tryz.lays156 Tryz.Builder_Extra_156 a c ⟨#[10]⟩ w
  exact (hw A).mono fun e w' ⟨h,k⟩=>⟨h,by rw [k];exact Below.refl _ _⟩
 ·obtain ⟨b,o,rfl,_,hb,hcell⟩:=hr.at_ (j:=0) (by rw [bW];simp)
  have:=Tryz.strings_Join b o c ((x :: r).map bs) ⟨#[10]⟩ w (fun j y hy=>by
   rw [List.getElem?_map] at hy
   obtain ⟨z,hz1,hz2⟩:=Option.map_eq_some_iff.1 hy
   obtain ⟨hj,hz3⟩:=List.getElem?_eq_some_iff.1 hz1
   rw [hcell j (by rw [bW];exact hj),cN _ j hj,← hz2,← hz3,List.getD,List.getElem?_eq_getElem hj]
   rfl) hb (by rw [← e1];omega) (by rw [← e1];exact hc) (by rw [e2];show (Lib.join _ [10]).length≤_;omega)
  rw [← e1,e2] at this
  exact this
set_option maxRecDepth 100000 in
theorem phead_c (ln:Nat) (A:Option Addr) (c:Nat) (l:List (List UInt8)) (w:World) (hr:Rd w aA A (flat encLn l)) (hn:l.length≤1000000) (hln:ln≤1000000) :
 Calls Tryz.prog 85 #[.agg #[.int .i64 (ln:Nat),.slice A l.length c]] w fun e w'=>e=.returned (.int .i64 ((ln:Nat) + dL l))∧Below w.heap.size w w':=by
 obtain ⟨X,hX⟩:∃ X,X=w.alloc (.cells #[.int .i64 (ln:Nat),.slice A l.length c] 100):=⟨_,rfl⟩
 have HB:=hide (show Below w.heap.size w X by rw [hX];exact aK _ _)
 have HG:=hide (show Blk X w.heap.size 100 #[.int .i64 (ln:Nat),.slice A l.length c] by rw [hX];exact Blk.new _ _ _)
 have HI:=hide (fun (n:Nat)=>tR A c l (X.drewN n) ((by rw [hX];exact hr.alloc _:Rd X aA A (flat encLn l)).drewN n) (by simp only [maxLen];omega))
 have hi:=rH l
 obtain ⟨k,hk⟩:∃ k,k=dL l:=⟨_,rfl⟩
 obtain ⟨n,hnn⟩:∃ n,n=l.length:=⟨_,rfl⟩
 rw [← hk] at HI ⊢
 have hk2 : -1≤k∧k≤1000000:=by rw [hk];rcases hi with h | h<;>omega
 have w1:IntKind.i64.wrap ((ln:Int) + k)=(ln:Int) + k:=IntWalk.i64_in _ (by omega)
 rw [← hnn] at HI HG hX ⊢
 have HX:=hide hX
 clear hX hr hi hk hnn hk2
 obtain ⟨g0,g1⟩:=HG.out.two
 go_enter Tryz.func85,Tryz.ntmps85
 go_upto_region 1 with fail
 rw [← HX.out]
 go_quiet (first | (go_at_call 126;exact Calls.quiet_of_same (HI.out _)))
 go_wp2_with fail
 go_ret
 exact ⟨rfl,below_drewN' HB.out _⟩
section
variable (w:World) (g:Nat) (a b c d e f h i:Value)
theorem xK:(((((((w.setCell ⟨g,0,none⟩ a).setCell ⟨g,1,none⟩ b).setCell ⟨g,2,none⟩ c).setCell ⟨g,3,none⟩ d).setCell ⟨g,4,none⟩ e).setCell ⟨g,5,none⟩ f).setCell ⟨g,6,none⟩ h).setCell ⟨g,7,none⟩ i=aE w g 0 [a,b,c,d,e,f,h,i]:=rfl
end
theorem Blk.eightC {w:World} {g:Nat} {t:TypeId} {a b c d e f h i:Value} (q:Blk w g t #[a,b,c,d,e,f,h,i]):(w.cell? ⟨g,0,none⟩=some a∧w.cell? ⟨g,1,none⟩=some b∧w.cell? ⟨g,2,none⟩=some c∧w.cell? ⟨g,3,none⟩=some d∧w.cell? ⟨g,4,none⟩=some e∧w.cell? ⟨g,5,none⟩=some f∧w.cell? ⟨g,6,none⟩=some h∧w.cell? ⟨g,7,none⟩=some i) ∧
 w.frozen? ⟨g,0,none⟩=false∧w.frozen? ⟨g,1,none⟩=false∧w.frozen? ⟨g,2,none⟩=false∧w.frozen? ⟨g,3,none⟩=false∧w.frozen? ⟨g,4,none⟩=false∧w.frozen? ⟨g,5,none⟩=false∧w.frozen? ⟨g,6,none⟩=false∧w.frozen? ⟨g,7,none⟩=false :=
 ⟨⟨by rw [q.cell];rfl,by rw [q.cell];rfl,by rw [q.cell];rfl,by rw [q.cell];rfl,by rw [q.cell];rfl,by rw [q.cell];rfl,by rw [q.cell];rfl,by rw [q.cell];rfl⟩,q.frozen 0,q.frozen 1,q.frozen 2,q.frozen 3,q.frozen 4,q.frozen 5,q.frozen 6,q.frozen 7⟩
theorem OpsRd.monoP {w:World} {M M':Nat→Prop} {A:Option Addr} {L:List OpV} (h:OpsRd w M A L) (hm:∀ b,M' b→M b):OpsRd w M' A L:=⟨h.1.mono hm,fun v hv=>(h.2 v hv).mono hm⟩
set_option maxRecDepth 100000 in
theorem pread_c (ln:Nat) (A:Option Addr) (c:Nat) (l:List (List UInt8)) (oA:Option Addr) (oc:Nat) (V:List ScrV) (w:World) (hr:Rd w aA A (flat encLn l)) (hc:l.length≤c) (hz:szP l≤50000) (hln:ln≤50000)
 (hv:Rd w aA oA (flat encScr V)) (hn:V.length≤1000) (hvars:Vars w) :
 Calls Tryz.prog 48 #[.agg #[.int .i64 (ln:Nat),.slice A l.length c],.slice oA V.length oc] w fun e w'=>(∃ v:ScrV,e=.returned (.agg (encScr v).toArray)∧v.m=gR ⟨ln,l⟩ (V.map (·.m))∧OpsRd w' (· < w.heap.size) v.A v.L)∧Only aA w w':=by
 have HJ:=hide (fun (X:World) (k:Only aA w X)=>join_c A c l X (hr.only k (fun _ h=>h)) hc (by omega))
 have HPc:=hide (fun (X:World) (k:Only aA w X)=>pparse_c (bs (Lib.join l [10])) X (by have:=hG l;show (Lib.join l [10]).length≤_;omega) (hvars.only k).len (hvars.only k).err (hvars.only k).lt)
 have HFd:=hide (fun (X:World) (k:Only aA w X) (nm:ByteArray)=>find_c aA oA oc V nm X (hv.only k (fun _ h=>h)) (by omega))
 have HHd:=hide (fun (X:World) (k:Only aA w X)=>phead_c ln A c l X (hr.only k (fun _ h=>h)) (by have:=lE l;omega) (by omega))
 have hxl:=nV (Lib.join l [10])
 have hxl2:=eP (Lib.join l [10]) []
 have hxl3:=hG l
 have hid : -1≤dL l∧dL l≤1000000:=by have:=lE l;rcases rH l with h | h<;>omega
 have HRM:=hide (show gR ⟨ln,l⟩ (V.map (·.m))=fF (dH (Lib.join l [10])) ⟨ln,l⟩ (V.map (·.m)) from rfl)
 obtain ⟨P,hP⟩:∃ P,P=dH (Lib.join l [10]):=⟨_,rfl⟩
 have hPc:dH (bs (Lib.join l [10])).data.toList=P:=hP.symm
 rw [hPc] at HPc
 rw [← hP] at HRM hxl
 obtain ⟨T,hT⟩:∃ T,T=bs (Lib.join l [10]):=⟨_,rfl⟩
 rw [← hT] at HJ HPc
 rw [HRM.out]
 obtain ⟨⟨nm,dl,jm,ops⟩,⟨x,y⟩,E⟩:=P
 simp only at HPc hxl
 have hxb:0≤x∧x≤1000000:=by
  have h1:bI (Lib.join l [10])=aV (Lib.join l [10]) []:=rfl
  rw [h1] at hxl
  omega
 obtain ⟨g,hg⟩:∃ g,g=w.heap.size:=⟨_,rfl⟩
 clear hP hPc hT HRM hxl hxl2 hxl3 hr hv hvars hc hz
 go_enter Tryz.func48,Tryz.ntmps48
 go_upto_region 2 with fail
 generalize hX:World.alloc (World.alloc (World.alloc w _) _) _=X
 have HK:=hide (show Only aA w X by rw [← hX];exact (((Only.refl _ w).alloc _).alloc _).alloc _)
 have HPt:=hide (show Blk X g 100 #[.int .i64 (ln:Nat),.slice A l.length c] by rw [← hX,hg];exact ((Blk.new _ _ _).alloc _).alloc _)
 have HR4:=hide (show Blk X (g + 1) 45 #[.string ⟨#[]⟩,.int .i64 0,.int .i64 0,.slice none 0 0,.int .i64 0,.int .i64 0,.int .i64 0,.int .i64 0] by rw [← hX,hg];exact (Blk.new' (by simp)).alloc _)
 have HO5:=hide (show Blk X (g + 1 + 1) 45 #[.string ⟨#[]⟩,.int .i64 0,.int .i64 0,.slice none 0 0,.int .i64 (ln:Nat),.int .i64 0,.int .i64 0,.int .i64 0] by rw [← hX,hg];exact Blk.new' (by simp))
 rw [← hg]
 have HGe:=hide hg
 clear hX hg
 obtain ⟨p0,p1⟩:=HPt.out.two
 go_wp2_with fail
 refine (HJ.out X HK.out).mono ?_
 rintro e w1 ⟨rfl,k1⟩
 have K1:=hide (HK.out.trans (Only.of_below k1 _))
 have J1:=hide (Only.of_below k1 aA)
 clear k1 p0 p1
 go_wp2_with fail
 refine (HPc.out w1 K1.out).mono ?_
 rintro e w2 ⟨⟨pA,pc,L,rfl,hL,ho⟩,k2⟩
 have K2:=hide (K1.out.trans k2)
 have hg3:g + 1 + 1 < w1.heap.size:=(HO5.out.only J1.out (fun h=>h)).lt
 have HOps:=hide (show OpsRd w2 (· < g + 3) pA L from ⟨ho.1.mono (fun b hb=>by have:b < g + 3:=hb;show b < w1.heap.size;omega),fun v hv=>(ho.2 v hv).mono (fun b hb=>by have:b < g + 3:=hb;show b < w1.heap.size;omega)⟩)
 have J2:=hide (J1.out.trans k2)
 have HL:=hide hL
 clear hL ho k2 J1
 go_upto_region 3 with fail
 generalize hY:World.alloc (World.alloc w2 _) _=Y
 obtain ⟨h,hh⟩:∃ h,h=w2.heap.size:=⟨_,rfl⟩
 have JY:=hide (show Only aA w2 Y by rw [← hY];exact ((Only.refl _ w2).alloc _).alloc _)
 have K3:=hide (K2.out.trans JY.out)
 have J3:=hide (J2.out.trans JY.out)
 have HPg:=hide (show Blk Y h 25 #[.string nm,.int .i64 dl,.int .i64 jm,.slice pA L.length pc] by rw [← hY,hh];exact (Blk.new _ _ _).alloc _)
 have HSp:=hide (show Blk Y (h + 1) 27 #[.int .i64 x,.int .i64 y] by rw [← hY,hh];exact Blk.new' (by simp))
 have HPt3:=hide (HPt.out.only J3.out (fun h=>h))
 have HR43:=hide (HR4.out.only J3.out (fun h=>h))
 have HO53:=hide (HO5.out.only J3.out (fun h=>h))
 have HOps3:=hide (HOps.out.only JY.out (fun b h=>h.elim))
 have hgh:g + 1 + 1 < h:=by rw [hh];exact (HO5.out.only J2.out (fun h=>h)).lt
 rw [← hh]
 clear hY hh HPt HR4 HO5 J2 J3 K2 K1 HOps JY HK
 obtain ⟨s0,s1⟩:=HSp.out.two
 obtain ⟨p0,p1⟩:=HPt3.out.two
 obtain ⟨⟨c0,c1,c2,c3,c4,c5,c6,c7⟩,f0,f1,f2,f3,f4,f5,f6,f7⟩:=HO53.out.eightC
 by_cases hE:E=0
 case neg =>
  have q1:(E != 0)=true:=bne_iff_ne.2 hE
  have w1':IntKind.i64.wrap (x + (ln:Int))=x + (ln:Int):=IntWalk.i64_in _ (by omega)
  have w2':IntKind.i64.wrap (x + (ln:Int) - 1)=x + (ln:Int) - 1:=IntWalk.i64_in _ (by omega)
  have hm:=hide hE
  clear hE
  go_upto_region 5 with fail
  have HZ5:=hide (((HO53.out.set_ 5 (.int .i64 (x + (ln:Int) - 1))).set_ 6 (.int .i64 y)).set_ 7 (.int .i64 E))
  have JZ:=hide (Only.setCell (S:=(· = g + 1 + 1)) (Only.setCell (S:=(· = g + 1 + 1)) (Only.setCell (S:=(· = g + 1 + 1)) (Only.refl _ Y) (p:=⟨g + 1 + 1,5,none⟩) (Or.inl rfl) (.int .i64 (x + (ln:Int) - 1))) (p:=⟨g + 1 + 1,6,none⟩) (Or.inl rfl) (.int .i64 y)) (p:=⟨g + 1 + 1,7,none⟩) (Or.inl rfl) (.int .i64 E))
  generalize hZ:World.setCell (World.setCell (World.setCell Y _ _) _ _) _ _=Z
  rw [hZ] at HZ5 JZ
  clear hZ
  have HZ4:=hide (HR43.out.only JZ.out (fun h=>by have h':g + 1=g + 1 + 1:=h;omega))
  have KZ:=hide (K3.out.fresh JZ.out (fun i _ h=>Or.inr (by have h':i=g + 1 + 1:=h;have:=HGe.out;omega)))
  clear c0 c1 c2 c3 c4 c5 c6 c7 f0 f1 f2 f3 f4 f5 f6 f7
  have HZ5':Blk Z (g + 1 + 1) 45 #[.string ⟨#[]⟩,.int .i64 0,.int .i64 0,.slice none 0 0,.int .i64 (ln:Nat),.int .i64 (x + (ln:Int) - 1),.int .i64 (y),.int .i64 (E)]:=HZ5.out
  obtain ⟨⟨c0,c1,c2,c3,c4,c5,c6,c7⟩,-⟩:=HZ5'.eightC
  obtain ⟨⟨r0,r1,r2,r3,r4,r5,r6,r7⟩,f0,f1,f2,f3,f4,f5,f6,f7⟩:=HZ4.out.eightC
  have HRt:=hide (show Blk (aE Z (g + 1) 0 (encScr (⟨⟨#[]⟩,0,0,none,0,[],(ln:Nat),x + (ln:Int) - 1,y,E⟩:ScrV))) (g + 1) 45 (encScr (⟨⟨#[]⟩,0,0,none,0,[],(ln:Nat),x + (ln:Int) - 1,y,E⟩:ScrV)).toArray from HZ4.out.put _ rfl)
  have KF:=hide (KZ.out.fresh (aP (encScr (⟨⟨#[]⟩,0,0,none,0,[],(ln:Nat),x + (ln:Int) - 1,y,E⟩:ScrV)) 0 Z (g + 1)) (fun i _ h=>Or.inr (by have h':i=g + 1:=h;have:=HGe.out;omega)))
  have HOf:=hide (show OpsRd (aE Z (g + 1) 0 (encScr (⟨⟨#[]⟩,0,0,none,0,[],(ln:Nat),x + (ln:Int) - 1,y,E⟩:ScrV))) (· < w.heap.size) (ScrV.A (⟨⟨#[]⟩,0,0,none,0,[],(ln:Nat),x + (ln:Int) - 1,y,E⟩:ScrV)) (ScrV.L (⟨⟨#[]⟩,0,0,none,0,[],(ln:Nat),x + (ln:Int) - 1,y,E⟩:ScrV)) from ⟨Or.inl rfl,fun v hv=>(by cases hv)⟩)
  have HZ5h:=hide HZ5'
  clear HZ5'
  go_wp2_with fail
  rw [xK]
  generalize hQ:aE Z (g + 1) 0 _=Q
  have hQ':aE Z (g + 1) 0 (encScr (⟨⟨#[]⟩,0,0,none,0,[],(ln:Nat),x + (ln:Int) - 1,y,E⟩:ScrV))=Q:=hQ
  rw [hQ'] at HRt KF HOf
  clear hQ hQ' c0 c1 c2 c3 c4 c5 c6 c7 r0 r1 r2 r3 r4 r5 r6 r7 f0 f1 f2 f3 f4 f5 f6 f7
  have HRt':Blk Q (g + 1) 45 #[.string ⟨#[]⟩,.int .i64 0,.int .i64 0,.slice none 0 0,.int .i64 (ln:Nat),.int .i64 (x + (ln:Int) - 1),.int .i64 (y),.int .i64 (E)]:=HRt.out
  obtain ⟨⟨r0,r1,r2,r3,r4,r5,r6,r7⟩,-⟩:=HRt'.eightC
  refine bodyPost_ret (v:=.agg (encScr (⟨⟨#[]⟩,0,0,none,0,[],(ln:Nat),x + (ln:Int) - 1,y,E⟩:ScrV)).toArray) (by simp [results,Tryz.results48,go_sem,encScr,r0,r1,r2,r3,r4,r5,r6,r7];try rfl) rfl ?_
  exact ⟨⟨(⟨⟨#[]⟩,0,0,none,0,[],(ln:Nat),x + (ln:Int) - 1,y,E⟩:ScrV),rfl,by unfold fF;rw [if_pos hm.out];rfl,HOf.out⟩,KF.out⟩
 case pos =>
  subst hE
  have q1:((0:Int) != 0)=false:=rfl
  have hfd:=HFd.out Y K3.out nm
  have HRd:=hide (show fF (⟨nm,dl,jm,ops⟩,(x,y),0) ⟨ln,l⟩ (V.map (·.m))=if iW (V.map (·.m)) nm=true then ⟨cI,ln,ln + dL l,8,6⟩ else ⟨⟨nm,dl,jm,ops⟩,ln,0,0,0⟩ by unfold fF;rw [if_neg (by simp)])
  obtain ⟨ix,hix⟩:∃ ix,ix=dL l:=⟨_,rfl⟩
  have hxi : -1≤ix∧ix≤1000000:=by rw [hix];exact hid
  have hhd:=HHd.out
  rw [← hix] at hhd
  obtain ⟨B,hB⟩:∃ B,B=iW (V.map (·.m)) nm:=⟨_,rfl⟩
  obtain ⟨fx,hfx⟩:∃ fx,fx=(if iW (V.map (·.m)) nm=true then (oL (V.map (·.m)) nm:Int) else 0):=⟨_,rfl⟩
  rw [← hfx,← hB] at hfd
  have HBx:=hide hB
  have Hix:=hide hix
  have HFc:=hide hfd
  have HHc:=hide hhd
  have d0:Y.cell? ⟨h,0,none⟩=some (.string nm):=by rw [HPg.out.cell];rfl
  clear hfd hhd hB hfx hix hid
  have w3:IntKind.i64.wrap ((ln:Int) + ix)=(ln:Int) + ix:=IntWalk.i64_in _ (by omega)
  cases B with
  | true =>
   go_upto_region 8 with (go_at_call 51;refine HFc.out.mono ?_;rintro e Y2 ⟨rfl,hb2⟩;have JY2:=hide (Only.of_below hb2 aA);clear hb2)
   have K4:=hide (K3.out.trans JY2.out)
   have HPt4:=hide (HPt3.out.only JY2.out (fun h=>h))
   have HR44:=hide (HR43.out.only JY2.out (fun h=>h))
   have HO54:=hide (HO53.out.only JY2.out (fun h=>h))
   clear p0 p1 c0 c1 c2 c3 c4 c5 c6 c7 f0 f1 f2 f3 f4 f5 f6 f7 s0 s1 d0 HFc
   obtain ⟨p0,p1⟩:=HPt4.out.two
   go_wp2_with fail
   refine (HHc.out Y2 K4.out).mono ?_
   rintro e Y3 ⟨rfl,hb3⟩
   have JY3:=hide (Only.of_below hb3 aA)
   have K5:=hide (K4.out.trans JY3.out)
   have HR45:=hide (HR44.out.only JY3.out (fun h=>h))
   have HO55:=hide (HO54.out.only JY3.out (fun h=>h))
   clear hb3 p0 p1
   obtain ⟨⟨c0,c1,c2,c3,c4,c5,c6,c7⟩,f0,f1,f2,f3,f4,f5,f6,f7⟩:=HO55.out.eightC
   go_upto_region 9 with fail
   have HZ5:=hide (((HO55.out.set_ 5 (.int .i64 ((ln:Int) + ix))).set_ 6 (.int .i64 8)).set_ 7 (.int .i64 6))
   have JZ:=hide (Only.setCell (S:=(· = g + 1 + 1)) (Only.setCell (S:=(· = g + 1 + 1)) (Only.setCell (S:=(· = g + 1 + 1)) (Only.refl _ Y3) (p:=⟨g + 1 + 1,5,none⟩) (Or.inl rfl) (.int .i64 ((ln:Int) + ix))) (p:=⟨g + 1 + 1,6,none⟩) (Or.inl rfl) (.int .i64 8)) (p:=⟨g + 1 + 1,7,none⟩) (Or.inl rfl) (.int .i64 6))
   generalize hZ:World.setCell (World.setCell (World.setCell Y3 _ _) _ _) _ _=Z
   rw [hZ] at HZ5 JZ
   clear hZ
   have HZ4:=hide (HR45.out.only JZ.out (fun h=>by have h':g + 1=g + 1 + 1:=h;omega))
   have KZ:=hide (K5.out.fresh JZ.out (fun i _ h=>Or.inr (by have h':i=g + 1 + 1:=h;have:=HGe.out;omega)))
   clear c0 c1 c2 c3 c4 c5 c6 c7 f0 f1 f2 f3 f4 f5 f6 f7
   have HZ5':Blk Z (g + 1 + 1) 45 #[.string ⟨#[]⟩,.int .i64 0,.int .i64 0,.slice none 0 0,.int .i64 (ln:Nat),.int .i64 ((ln:Int) + ix),.int .i64 (8),.int .i64 (6)]:=HZ5.out
   obtain ⟨⟨c0,c1,c2,c3,c4,c5,c6,c7⟩,-⟩:=HZ5'.eightC
   obtain ⟨⟨r0,r1,r2,r3,r4,r5,r6,r7⟩,f0,f1,f2,f3,f4,f5,f6,f7⟩:=HZ4.out.eightC
   have HRt:=hide (show Blk (aE Z (g + 1) 0 (encScr (⟨⟨#[]⟩,0,0,none,0,[],(ln:Nat),(ln:Int) + ix,8,6⟩:ScrV))) (g + 1) 45 (encScr (⟨⟨#[]⟩,0,0,none,0,[],(ln:Nat),(ln:Int) + ix,8,6⟩:ScrV)).toArray from HZ4.out.put _ rfl)
   have KF:=hide (KZ.out.fresh (aP (encScr (⟨⟨#[]⟩,0,0,none,0,[],(ln:Nat),(ln:Int) + ix,8,6⟩:ScrV)) 0 Z (g + 1)) (fun i _ h=>Or.inr (by have h':i=g + 1:=h;have:=HGe.out;omega)))
   have HOf:=hide (show OpsRd (aE Z (g + 1) 0 (encScr (⟨⟨#[]⟩,0,0,none,0,[],(ln:Nat),(ln:Int) + ix,8,6⟩:ScrV))) (· < w.heap.size) (ScrV.A (⟨⟨#[]⟩,0,0,none,0,[],(ln:Nat),(ln:Int) + ix,8,6⟩:ScrV)) (ScrV.L (⟨⟨#[]⟩,0,0,none,0,[],(ln:Nat),(ln:Int) + ix,8,6⟩:ScrV)) from ⟨Or.inl rfl,fun v hv=>(by cases hv)⟩)
   have HZ5h:=hide HZ5'
   clear HZ5'
   go_wp2_with fail
   rw [xK]
   generalize hQ:aE Z (g + 1) 0 _=Q
   have hQ':aE Z (g + 1) 0 (encScr (⟨⟨#[]⟩,0,0,none,0,[],(ln:Nat),(ln:Int) + ix,8,6⟩:ScrV))=Q:=hQ
   rw [hQ'] at HRt KF HOf
   clear hQ hQ' c0 c1 c2 c3 c4 c5 c6 c7 r0 r1 r2 r3 r4 r5 r6 r7 f0 f1 f2 f3 f4 f5 f6 f7
   have HRt':Blk Q (g + 1) 45 #[.string ⟨#[]⟩,.int .i64 0,.int .i64 0,.slice none 0 0,.int .i64 (ln:Nat),.int .i64 ((ln:Int) + ix),.int .i64 (8),.int .i64 (6)]:=HRt.out
   obtain ⟨⟨r0,r1,r2,r3,r4,r5,r6,r7⟩,-⟩:=HRt'.eightC
   refine bodyPost_ret (v:=.agg (encScr (⟨⟨#[]⟩,0,0,none,0,[],(ln:Nat),(ln:Int) + ix,8,6⟩:ScrV)).toArray) (by simp [results,Tryz.results48,go_sem,encScr,r0,r1,r2,r3,r4,r5,r6,r7];try rfl) rfl ?_
   exact ⟨⟨(⟨⟨#[]⟩,0,0,none,0,[],(ln:Nat),(ln:Int) + ix,8,6⟩:ScrV),rfl,by rw [HRd.out,← HBx.out,if_pos rfl,← Hix.out];rfl,HOf.out⟩,KF.out⟩
  | false =>
   go_upto_region 10 with (go_at_call 51;refine HFc.out.mono ?_;rintro e Y2 ⟨rfl,hb2⟩;have JY2:=hide (Only.of_below hb2 aA);clear hb2)
   have K4:=hide (K3.out.trans JY2.out)
   have HR44:=hide (HR43.out.only JY2.out (fun h=>h))
   have HO54:=hide (HO53.out.only JY2.out (fun h=>h))
   have HPg4:=hide (HPg.out.only JY2.out (fun h=>h))
   have HOps4:=hide (HOps3.out.only JY2.out (fun b h=>h.elim))
   clear p0 p1 c0 c1 c2 c3 c4 c5 c6 c7 f0 f1 f2 f3 f4 f5 f6 f7 s0 s1 d0 HFc
   obtain ⟨⟨d0,d1,d2,d3⟩,-⟩:=HPg4.out.four
   obtain ⟨⟨c0,c1,c2,c3,c4,c5,c6,c7⟩,f0,f1,f2,f3,f4,f5,f6,f7⟩:=HO54.out.eightC
   go_upto_region 11 with fail
   rw [dW]
   have HZ5:=hide (HO54.out.putFrom_ [.string nm,.int .i64 dl,.int .i64 jm,.slice pA L.length pc] 0)
   have JZ:=hide (aP [.string nm,.int .i64 dl,.int .i64 jm,.slice pA L.length pc] 0 Y2 (g + 1 + 1))
   generalize hZ:aE Y2 (g + 1 + 1) 0 _=Z
   rw [hZ] at HZ5 JZ
   clear hZ d0 d1 d2 d3
   have HZ4:=hide (HR44.out.only JZ.out (fun h=>by have h':g + 1=g + 1 + 1:=h;omega))
   have KZ:=hide (K4.out.fresh JZ.out (fun i _ h=>Or.inr (by have h':i=g + 1 + 1:=h;have:=HGe.out;omega)))
   have HOpZ:=hide (HOps4.out.only JZ.out (fun b h=>by have h':b=g + 1 + 1:=h;show b < g + 3;omega))
   clear c0 c1 c2 c3 c4 c5 c6 c7 f0 f1 f2 f3 f4 f5 f6 f7
   have HZ5':Blk Z (g + 1 + 1) 45 #[.string nm,.int .i64 dl,.int .i64 jm,.slice pA L.length pc,.int .i64 (ln:Nat),.int .i64 (0),.int .i64 (0),.int .i64 (0)]:=HZ5.out
   obtain ⟨⟨c0,c1,c2,c3,c4,c5,c6,c7⟩,-⟩:=HZ5'.eightC
   obtain ⟨⟨r0,r1,r2,r3,r4,r5,r6,r7⟩,f0,f1,f2,f3,f4,f5,f6,f7⟩:=HZ4.out.eightC
   have HRt:=hide (show Blk (aE Z (g + 1) 0 (encScr (⟨nm,dl,jm,pA,pc,L,(ln:Nat),0,0,0⟩:ScrV))) (g + 1) 45 (encScr (⟨nm,dl,jm,pA,pc,L,(ln:Nat),0,0,0⟩:ScrV)).toArray from HZ4.out.put _ rfl)
   have KF:=hide (KZ.out.fresh (aP (encScr (⟨nm,dl,jm,pA,pc,L,(ln:Nat),0,0,0⟩:ScrV)) 0 Z (g + 1)) (fun i _ h=>Or.inr (by have h':i=g + 1:=h;have:=HGe.out;omega)))
   have HOf:=hide (show OpsRd (aE Z (g + 1) 0 (encScr (⟨nm,dl,jm,pA,pc,L,(ln:Nat),0,0,0⟩:ScrV))) (· < w.heap.size) (ScrV.A (⟨nm,dl,jm,pA,pc,L,(ln:Nat),0,0,0⟩:ScrV)) (ScrV.L (⟨nm,dl,jm,pA,pc,L,(ln:Nat),0,0,0⟩:ScrV)) from (HOpZ.out.only (aP _ 0 Z (g + 1)) (fun b h=>by have h':b=g + 1:=h;show b < g + 3;omega)).monoP (fun b hb=>by have h':b < w.heap.size:=hb;have:=HGe.out;show b < g + 3;omega))
   have HZ5h:=hide HZ5'
   clear HZ5'
   go_wp2_with fail
   rw [xK]
   generalize hQ:aE Z (g + 1) 0 _=Q
   have hQ':aE Z (g + 1) 0 (encScr (⟨nm,dl,jm,pA,pc,L,(ln:Nat),0,0,0⟩:ScrV))=Q:=hQ
   rw [hQ'] at HRt KF HOf
   clear hQ hQ' c0 c1 c2 c3 c4 c5 c6 c7 r0 r1 r2 r3 r4 r5 r6 r7 f0 f1 f2 f3 f4 f5 f6 f7
   have HRt':Blk Q (g + 1) 45 #[.string nm,.int .i64 dl,.int .i64 jm,.slice pA L.length pc,.int .i64 (ln:Nat),.int .i64 (0),.int .i64 (0),.int .i64 (0)]:=HRt.out
   obtain ⟨⟨r0,r1,r2,r3,r4,r5,r6,r7⟩,-⟩:=HRt'.eightC
   refine bodyPost_ret (v:=.agg (encScr (⟨nm,dl,jm,pA,pc,L,(ln:Nat),0,0,0⟩:ScrV)).toArray) (by simp [results,Tryz.results48,go_sem,encScr,r0,r1,r2,r3,r4,r5,r6,r7];try rfl) rfl ?_
   exact ⟨⟨(⟨nm,dl,jm,pA,pc,L,(ln:Nat),0,0,0⟩:ScrV),rfl,by rw [HRd.out,← HBx.out,if_neg (by decide)];unfold ScrV.m progM;rw [HL.out],HOf.out⟩,KF.out⟩
end Go.Proofs.YtaioaojfdngfdaaGreatDoor
