/- Parts of a chain of lemmas: Ld8, Flts, RLd1. Conditions: those of each theorem. -/
import Derived.Test.YtaioaojfdngfdaaGreatDoorPg46
import Derived.BigRegion
import Derived.Test.YtaioaojfdngfdaaGreatDoorPg43
import Derived.Test.YtaioaojfdngfdaaGreatDoorPg44
set_option linter.unusedVariables false
set_option linter.unusedSimpArgs false
set_option maxHeartbeats 25600000
namespace Go.Proofs.YtaioaojfdngfdaaGreatDoor
open Go.RowKit
theorem Tryz.infoScr:(Tryz.prog.info? 45).map (fun i=>(i.zero,i.size,i.bytes))=some (some (.agg #[.string ⟨#[]⟩,.int .i64 0,.int .i64 0,.slice none 0 0,.int .i64 0,.int .i64 0,.int .i64 0,.int .i64 0]),8,88):=by kernel_rfl
structure LdAt (w:World) (B:Nat) (T:TypeId) (out:List ScrV) (v:Value):Prop where
 own:w.ownsRow B T 8 v out.length (flat encScr out)
 inn:∀ s ∈ out,OpsRd w (Mi B v) s.A s.L
section
variable {w w' w1:World} {B:Nat} {T:TypeId} {out:List ScrV} {v v':Value}
theorem LdAt.same (h:LdAt w B T out v) (q:Only aA w w'):LdAt w' B T out v:=⟨b8 h.own q (fun _ _ h=>h.elim),fun s hs=>(h.inn s hs).only q (fun _ h=>h.elim)⟩
theorem LdAt.nil (w:World) (B:Nat) (T:TypeId):LdAt w B T [] (.slice none 0 0):=⟨World.ownsRow_nil _ _ _ _,fun s hs=>by cases hs⟩
theorem LdAt.grow {s:ScrV} {K:Nat} (h:LdAt w B T out v) (ho:w1.ownsRow B T 8 v' (out.length + 1) (flat encScr out++encScr s)) (hg:w.grownBy w1 v.ownBlock)
 (hv:v'.ownBlock=v.ownBlock∨v'.ownBlock=some w.heap.size) (hs:OpsRd w (· < K) s.A s.L) (hB:B≤K) (hK:∀ k,v.ownBlock=some k→k < K):LdAt w1 B T (out++[s]) v':=by
 refine ⟨by rw [mK,List.length_append];exact ho,fun x hx=>?_⟩
 have hm:∀ (y:ScrV),OpsRd w (Mi B v) y.A y.L→OpsRd w1 (Mi B v') y.A y.L:=fun y hy=>⟨tA hy.1 hg hv,fun z hz=>tA (hy.2 z hz) hg hv⟩
 rcases List.mem_append.1 hx with hx | hx
 ·exact hm x (h.inn x hx)
 ·rw [List.mem_singleton] at hx
  subst hx
  refine hm x (hs.monoP fun b hb=>?_)
  rcases hb with hb | hb
  ·exact Nat.lt_of_lt_of_le hb hB
  ·exact hK b hb
end
def jG:PartV:=⟨0,none,0,[]⟩
theorem uL (V:List PartV) (k:Nat) (h:k < V.length) (o:List ScrM):readAll ((V.drop k).map (·.m)) o=readAll ((V.drop (k + 1)).map (·.m)) (o++[gR (V.getD k jG).m o]):=by
 have e:V.getD k jG=V[k]:=by simp [List.getD,h]
 rw [List.drop_eq_getElem_cons h,e]
 rfl
theorem uN {w:World} {M:Nat→Prop} {A:Option Addr} {l:List PartV} (hr:Rd w M A (flat encPart l)) (k:Nat) (hk:k < l.length):∃ b o,A=some ⟨b,o,none⟩∧b < w.heap.size∧¬ M b∧w.cell? ⟨b,o + k * 2,none⟩=some (.int .i64 ((l.getD k jG).line:Nat))∧w.cell? ⟨b,o + k * 2 + 1,none⟩=some (.slice (l.getD k jG).A (l.getD k jG).l.length (l.getD k jG).c):=by
 have e:l[k]?=some (l.getD k jG):=by simp [List.getD,hk]
 obtain ⟨b,o,hA,hm,hb,hc⟩:=cR tI hr k _ e (by omega)
 exact ⟨b,o,hA,hb,hm,hc 0 (by omega),hc 1 (by omega)⟩
set_option maxRecDepth 100000 in
theorem Load_c (s:ByteArray) (w:World) (hs:s.size≤900000) (hvars:Vars w):Calls Tryz.prog 21 #[.string s] w fun e w'=>(∃ (A:Option Addr) (c:Nat) (S:List ScrV),e=.returned (.tuple #[.slice A S.length c,.int .i64 (eW s.data.toList).2])∧S.map (·.m)=(eW s.data.toList).1∧Rd w' (· < w.heap.size) A (flat encScr S)∧∀ v ∈ S,OpsRd w' (· < w.heap.size) v.A v.L)∧Only aA w w':=by
 have hsl:s.data.toList.length=s.size:=by simp
 by_cases hz:40000 < s.size
 case pos =>
  have HL:=hide (show eW s.data.toList=([],4) by unfold eW;rw [if_pos (by omega)])
  have d1:decide ((40000:Int) < (s.size:Int))=true:=by simp;omega
  have d2:decide (40000 < s.size)=true:=by simp;omega
  obtain ⟨R,hR⟩:∃ R,R=eW s.data.toList:=⟨_,rfl⟩
  rw [← hR] at HL ⊢
  clear hR hz
  go_enter Tryz.func21,Tryz.ntmps21
  go_wp2_with fail
  refine bodyPost_ret (v:=.tuple #[.slice none 0 0,.int .i64 4]) (by simp [results,Tryz.results21,go_sem];try rfl) rfl ?_
  exact ⟨⟨none,0,[],by rw [HL.out];rfl,by rw [HL.out];rfl,Or.inl rfl,fun v hv=>(by cases hv)⟩,Only.refl _ _⟩
 case neg =>
  have d1:decide ((40000:Int) < (s.size:Int))=false:=by simp;omega
  have d2:decide (40000 < s.size)=false:=by simp;omega
  have HCu:=hide (cut_c s w (by omega) hvars.len)
  have HCz:=hide (fun (q:PartM) (h:q ∈ pL s.data.toList)=>(show szP q.l≤50000∧q.line≤50000 by have:=cutM_sz _ q h;omega))
  have HL:=hide (show eW s.data.toList=if 64 < (pL s.data.toList).length then ([],4) else (readAll (pL s.data.toList) [],0) by unfold eW;rw [if_neg (by omega)])
  have HVr:=hide hvars
  obtain ⟨C,hC⟩:∃ C,C=pL s.data.toList:=⟨_,rfl⟩
  obtain ⟨R,hR⟩:∃ R,R=eW s.data.toList:=⟨_,rfl⟩
  rw [← hC] at HCu HCz HL
  rw [← hR] at HL ⊢
  clear hR hC hz hsl hs hvars
  obtain ⟨i0,hi,hz0,hz1,hz2⟩:=info_parts Tryz.infoScr
  go_enter Tryz.func21,Tryz.ntmps21
  go_wp2_with fail
  refine HCu.out.mono ?_
  rintro e W ⟨⟨A,c,V,rfl,hV,hr,hi2⟩,k0⟩
  have HK0:=hide k0
  have HRd:=hide hr
  have HIn:=hide hi2
  have HVm:=hide hV
  have hVl:C.length=V.length:=by rw [← hV];simp
  obtain ⟨n,hn⟩:∃ n,n=V.length:=⟨_,rfl⟩
  rw [← hn] at hVl ⊢
  clear k0 hr hi2 hV
  by_cases h64:64 < n
  case pos =>
   have e1:decide ((64:Int) < (n:Int))=true:=by simp;omega
   have e2:decide (64 < n)=true:=by simp;omega
   have HR:=hide (show R=([],4) by rw [HL.out,if_pos (by omega)])
   clear h64 hn
   go_wp2_with fail
   refine bodyPost_ret (v:=.tuple #[.slice none 0 0,.int .i64 4]) (by simp [results,Tryz.results21,go_sem];try rfl) rfl ?_
   exact ⟨⟨none,0,[],by rw [HR.out];rfl,by rw [HR.out];rfl,Or.inl rfl,fun v hv=>(by cases hv)⟩,HK0.out⟩
  case neg =>
   have e1:decide ((64:Int) < (n:Int))=false:=by simp;omega
   have e2:decide (64 < n)=false:=by simp;omega
   have HR:=hide (show R=(readAll (V.map (·.m)) [],0) by rw [HL.out,if_neg (by omega),HVm.out])
   have HMem:=hide (fun (k:Nat) (h:k < n)=>(show V.getD k jG ∈ V∧(V.getD k jG).m ∈ C by
    have e:V.getD k jG=V[k]'(by omega):=by simp [List.getD,show k < V.length by omega]
    rw [e,← HVm.out]
    exact ⟨List.getElem_mem _,List.mem_map.2 ⟨_,List.getElem_mem _,rfl⟩⟩))
   have HStp:=hide (fun (k:Nat) (h:k < n) (o:List ScrM)=>uL V k (by omega) o)
   have HCl:=hide (fun (k:Nat) (h:k < n)=>uN HRd.out k (by omega))
   have HDr:=hide (show V.drop n=[] by rw [hn,List.drop_length])
   obtain ⟨B,hB⟩:∃ B,B=W.heap.size:=⟨_,rfl⟩
   have HBw:=hide hB
   have hn64:n≤64:=by omega
   clear hn hVl h64 hB HL HCu HVm
   go_wp2_with fail
   go_loopw [4,7,18] (fun v _ i wr=>∃ (k:Nat) (out:List ScrV),k≤n∧out.length=k∧i=.int .i64 k∧Hid (LdAt wr B 45 out v)∧Hid (readAll (V.map (·.m)) []=readAll ((V.drop k).map (·.m)) (out.map (·.m)))∧Hid (Only (B≤·) W wr)) (fun _ _ i _=>n - (intOf i).toNat)
   case atStart=>exact ⟨0,[],Nat.zero_le _,rfl,rfl,hide (LdAt.nil _ _ _),hide rfl,hide (Only.refl _ _)⟩
   case round =>
    obtain ⟨k,out,hk,hok,rfl,HA,HE,HK⟩:=hrel
    obtain ⟨VA,vc,rfl,hvc⟩:=aW HA.out.own
    have w1:IntKind.i64.wrap ((k:Int) + 1)=(k:Int) + 1:=IntWalk.i64_in _ (by omega)
    by_cases hlt:k < n
    case pos =>
     obtain ⟨b,o,rfl,hb,_,g0,g1⟩:=HCl.out k hlt
     obtain ⟨hm1,hm2⟩:=HMem.out k hlt
     obtain ⟨hz3,hz4⟩:=HCz.out _ hm2
     obtain ⟨hi3,hi4⟩:=HIn.out _ hm1
     have hs1:=HStp.out k hlt (out.map (·.m))
     obtain ⟨q,hq⟩:∃ q,q=V.getD k jG:=⟨_,rfl⟩
     rw [← hq] at g0 g1 hz3 hz4 hi3 hi4 hs1
     have HE2:=hide (HE.out.trans hs1)
     clear hq hm1 hm2 hs1 HE
     obtain ⟨ln,qA,qc,l⟩:=q
     simp only at g0 g1 hi3 hi4
     have hbB:b < B:=by have:=HBw.out;omega
     replace g0:=cM HK.out (fun h:B≤b=>by omega) g0
     replace g1:=cM HK.out (fun h:B≤b=>by omega) g1
     have d3:decide ((k:Int) < (n:Int))=true:=by simp;exact hlt
     have d4:decide (k < n)=true:=by simp;exact hlt
     have j1:(0:Int)≤(k:Int):=by omega
     have j2:(k:Int) < (n:Int):=by omega
     have HWw:=hide (show Only aA w wr from HK0.out.fresh HK.out (fun i _ h=>Or.inr (by have h':B≤i:=h;have:=HBw.out;have:=HK0.out.size;omega)))
     obtain ⟨X,hX⟩:∃ X,X=wr.alloc (.cells #[.int .i64 (ln:Nat),.slice qA l.length qc] 100):=⟨_,rfl⟩
     have HXw:=hide (show Only aA wr X by rw [hX];exact (Only.refl _ wr).alloc _)
     have HXb:=hide (show Blk X wr.heap.size 100 #[.int .i64 (ln:Nat),.slice qA l.length qc] by rw [hX];exact Blk.new _ _ _)
     have HA2:=hide (HA.out.same HXw.out)
     have HRq:=hide (show Rd X aA qA (flat encLn l) from (jV (M':=aA) hi3 HK.out (fun i hb h=>by have h':B≤i:=h;have:=HBw.out;omega) (fun i h=>h.elim)).only HXw.out (fun _ h=>h))
     have HCall:=hide (pread_c ln qA qc l VA vc out X HRq.out hi4 hz3 hz4 (Rd.of_own HA2.out.own (fun b h=>h.elim)) (by omega) (HVr.out.only (HWw.out.trans HXw.out)))
     rw [hok] at HCall
     have hXs:wr.heap.size + 1=X.heap.size:=by rw [hX];simp
     have HX:=hide hX
     clear hX hi3 hi4 hz3 hz4 HRq hbB
     obtain ⟨p0,p1⟩:=HXb.out.two
     go_upto_region 10 with fail
     rw [← HX.out]
     go_wp2_with fail
     refine HCall.out.mono ?_
     rintro e W2 ⟨⟨v,rfl,hvm,hvo⟩,k2⟩
     have HVm2:=hide hvm
     have HVo:=hide hvo
     have HA3:=hide (HA2.out.same k2)
     have HK2:=hide ((HK.out.trans (HXw.out.none _)).trans (k2.none _))
     have hX2:=hide (show Rd (W2.alloc (.cells (encScr v).toArray 45)) aA (some ⟨W2.heap.size,0,none⟩) (encScr v) from aY (Blk.new _ _ _) (fun h=>h))
     have HA4:=hide (HA3.out.same ((Only.refl _ W2).alloc (.cells (encScr v).toArray 45)))
     have HVo4:=hide (hvo.only ((Only.refl aA W2).alloc (.cells (encScr v).toArray 45)) (fun _ h=>h.elim))
     have hBs:B≤W2.heap.size:=by have:=HBw.out;have:=HK2.out.size;omega
     have hBX:B≤X.heap.size:=by have:=HBw.out;have:=HK.out.size;omega
     have hVX:∀ j,(Value.slice VA out.length vc).ownBlock=some j→j < X.heap.size:=fun j hj=>cO HA2.out.own hj
     have hBa:B≤(W2.alloc (.cells (encScr v).toArray 45)).heap.size:=by simp;omega
     clear hvm hvo k2 p0 p1 g0 g1
     obtain ⟨nm,dd,jj,A2,c2,L2,ln2,x2,y2,er⟩:=v
     simp only [encScr]
     have Hok:=hide hok
     have hok2:out.length≤64:=by omega
     clear hok
     go_wp2_with (at_builtin;refine aD _ rfl (.tmp 22) (.tmp 26) _ rfl B 45 i0 (.agg #[.string ⟨#[]⟩,.int .i64 0,.int .i64 0,.slice none 0 0,.int .i64 0,.int .i64 0,.int .i64 0,.int .i64 0]) 8 88 Tryz.underlying41 hi hz0 hz1 hz2 rfl (by omega) (.slice VA k vc) out.length (flat encScr out) rfl (by rw [← Hok.out];exact HA4.out.own) aA (some ⟨W2.heap.size,0,none⟩) 1 1 (encScr ⟨nm,dd,jj,A2,c2,L2,ln2,x2,y2,er⟩) rfl hX2.out rfl (kV _) (by simp only [maxLen];omega) (by omega) hBa ?_;intro v5 w5 hown5 hgr5 hv5;have Own5:=hide hown5;have Gr5:=hide hgr5;have Hv5:=hide hv5;clear hown5 hgr5 hv5)
     rw [← Hok.out] at Gr5 Hv5
     have HA5:=hide (HA4.out.grow Own5.out Gr5.out Hv5.out HVo4.out hBX hVX)
     have HE3:=hide (show readAll (V.map (·.m)) []=readAll ((V.drop (k + 1)).map (·.m)) ((out++[(⟨nm,dd,jj,A2,c2,L2,ln2,x2,y2,er⟩:ScrV)]).map (·.m)) by
      have e:gR (PartV.m ⟨ln,qA,qc,l⟩) (out.map (·.m))=ScrV.m ⟨nm,dd,jj,A2,c2,L2,ln2,x2,y2,er⟩:=HVm2.out.symm
      rw [HE2.out,List.map_append,e]
      rfl)
     have HK5:=hide ((HK2.out.alloc (.cells (encScr (⟨nm,dd,jj,A2,c2,L2,ln2,x2,y2,er⟩:ScrV)).toArray 45)).grown Gr5.out (fun j hj=>Or.inl (aU HA4.out.own j hj)))
     clear Own5 Gr5 Hv5 HA4 HA3 HA2 HVo4 HVo HVm2 hX2 HK2 HE2
     go_roundw
     case rel=>exact ⟨k + 1,out++[⟨nm,dd,jj,A2,c2,L2,ln2,x2,y2,er⟩],by omega,by have:=Hok.out;simp;omega,by go_num,HA5,HE3,HK5⟩
     case measure=>simp [intOf];omega
    case neg =>
     obtain rfl:n=k:=by omega
     have d3:decide ((n:Int) < (n:Int))=false:=by simp
     have d4:decide (n < n)=false:=by simp
     have HEE:=hide (show R=(out.map (·.m),0) by rw [HR.out,HE.out,HDr.out];rfl)
     have hsz:w.heap.size≤B:=by have:=HBw.out;have:=HK0.out.size;omega
     have HOk:=hide (show Only aA w wr from HK0.out.fresh HK.out (fun i _ h=>Or.inr (by have h':B≤i:=h;omega)))
     have HRo:=hide (show Rd wr (· < w.heap.size) VA (flat encScr out) from Rd.of_own HA.out.own (fun j hj=>Nat.lt_of_lt_of_le hj hsz))
     have HIo:=hide (show ∀ v ∈ out,OpsRd wr (· < w.heap.size) v.A v.L from fun v hv=>(HA.out.inn v hv).monoP (fun b hb=>Or.inl (Nat.lt_of_lt_of_le hb hsz)))
     clear hok HA HE HR
     go_wp2_with fail
     refine bodyPost_ret (v:=.tuple #[.slice VA out.length vc,.int .i64 0]) (by simp [results,Tryz.results21,go_sem];try rfl) rfl ?_
     exact ⟨⟨VA,vc,out,by rw [HEE.out],by rw [HEE.out],HRo.out,HIo.out⟩,HOk.out⟩
def fA (f:Nat→ScrM):Nat→List (Nat × ScrM)
 | 0=>[]
 | k + 1=>fA f k++(if (f k).err=0 then [] else [(k,f k)])
theorem iG (f:Nat→ScrM) (k:Nat):fA f (k + 1)=fA f k++(if (f k).err=0 then [] else [(k,f k)]):=rfl
theorem tD (f:Nat→ScrM):∀ k,(fA f k).length≤k
 | 0=>Nat.le_refl _
 | k + 1=>by
  have:=tD f k
  unfold fA
  rw [List.length_append]
  split<;>simp<;>omega
theorem yL (f:Nat→ScrM) {k n:Nat} (h:k≤n):∃ r,fA f n=fA f k++r:=by
 induction n with
 | zero =>
  obtain rfl:k=0:=by omega
  exact ⟨[],by simp⟩
 | succ n ih =>
  by_cases hk:k=n + 1
  ·subst hk;exact ⟨[],by simp⟩
  ·obtain ⟨r,e⟩:=ih (by omega)
   exact ⟨r++(if (f n).err=0 then [] else [(n,f n)]),by show fA f n++_=_;rw [e,List.append_assoc]⟩
theorem fltT_at (f:Nat→ScrM) {k n:Nat} (h:k < n) (he:(f k).err≠0):(fA f n)[(fA f k).length]?=some (k,f k):=by
 obtain ⟨r,e⟩:=yL f (show k + 1≤n from h)
 rw [e,iG,if_neg he,List.append_assoc,List.getElem?_append_right (Nat.le_refl _)]
 simp
theorem oJ {f g:Nat→ScrM}:∀ k,(∀ j,j < k→f j=g j)→fA f k=fA g k
 | 0,_=>rfl
 | k + 1,h=>by unfold fA;rw [oJ k (fun j hj=>h j (by omega)),h k (by omega)]
def FlV (w:World) (vals:List Value) (fs:List (Nat × ScrM)):Prop:=vals.length=fs.length∧∀ (j:Nat) (v:Value) (p:Nat × ScrM),vals[j]?=some v→fs[j]?=some p→InV w v (bs (Lib.decDigits p.1)) p.2.x p.2.y p.2.err
theorem FlV.only {w w':World} {vals:List Value} {fs:List (Nat × ScrM)} (h:FlV w vals fs) (k:Only aA w w'):FlV w' vals fs:=⟨h.1,fun j v p hv hp=>(h.2 j v p hv hp).only k⟩
theorem FlV.snoc {w:World} {vals:List Value} {fs:List (Nat × ScrM)} {u:Value} {p:Nat × ScrM} (h:FlV w vals fs) (hu:InV w u (bs (Lib.decDigits p.1)) p.2.x p.2.y p.2.err):FlV w (vals++[u]) (fs++[p]):=by
 refine ⟨by simp [h.1],fun j v q hv hq=>?_⟩
 by_cases hj:j < vals.length
 ·rw [List.getElem?_append_left hj] at hv
  rw [List.getElem?_append_left (by rw [← h.1];exact hj)] at hq
  exact h.2 j v q hv hq
 ·rw [List.getElem?_append_right (by omega)] at hv
  rw [List.getElem?_append_right (by rw [← h.1];omega),← h.1] at hq
  have h0:j - vals.length=0:=by
   rcases Nat.eq_zero_or_pos (j - vals.length) with h0 | h0
   ·exact h0
   ·rw [List.getElem?_eq_none (by simp;omega)] at hv;cases hv
  rw [h0] at hv hq
  injection hv with hv
  injection hq with hq
  subst hv;subst hq
  exact hu
theorem pW {w w1:World} {B n g:Nat} {e t:TypeId} {v:Value} {xs:List Value} {cs:Array Value} (hown:w.ownsRow B e 1 v n xs) (hb:Blk w g t cs) (hne:t≠e) (hgr:w.grownBy w1 v.ownBlock):Blk w1 g t cs:=by
 refine (hgr.block g hb.lt (fun q=>?_)).trans hb
 rcases hown.2 with ⟨rfl,_⟩ | ⟨g',cap,cur,rfl,_,hh,_⟩
 ·cases q
 ·injection q with q
  subst q
  exact Blk.ne_ hb (show Blk w g e cur from hh) hne rfl
theorem InV.grown {w w1:World} {B n:Nat} {v u:Value} {xs:List Value} {nm:ByteArray} {x y c:Int} (h:InV w u nm x y c) (hown:w.ownsRow B 62 1 v n xs) (hgr:w.grownBy w1 v.ownBlock):InV w1 u nm x y c:=by
 obtain ⟨i,q,e,b,a,e2,b2⟩:=h
 exact ⟨i,q,e,pW hown b (by decide) hgr,a,e2,pW hown b2 (by decide) hgr⟩
theorem FlV.grown {w w1:World} {B n:Nat} {v:Value} {xs vals:List Value} {fs:List (Nat × ScrM)} (h:FlV w vals fs) (hown:w.ownsRow B 62 1 v n xs) (hgr:w.grownBy w1 v.ownBlock):FlV w1 vals fs:=⟨h.1,fun j v p hv hp=>(h.2 j v p hv hp).grown hown hgr⟩
theorem Tryz.infoErr:(Tryz.prog.info? 62).map (fun i=>(i.zero,i.size,i.bytes))=some (some .nilIface,1,16):=by kernel_rfl
theorem wF {wa wb:World} {B n:Nat} {v:Value} {xs:List Value} (h:wa.ownsRow B 62 1 v n xs) (k:Only aA wa wb):wb.ownsRow B 62 1 v n xs:=b8 h k (fun _ _ h=>h.elim)
theorem Tab.only {w w' : World} (h : Tab w) (k : Only aA w w') : Tab w' := by
  unfold Tab Lib.TabIs World.var? at *
  cases hg : Tryz.prog.globalNamed "internal/strconv.uint64pow10" with
  | none => rw [hg] at h; simp at h
  | some g =>
    rw [hg] at h
    simp only [Option.bind_some] at h ⊢
    have hlt : g < w.heap.size := by
      rcases Nat.lt_or_ge g w.heap.size with hl | hl
      · exact hl
      · rw [Array.getElem?_eq_none hl] at h; cases h
    rw [k.block g hlt (fun h => h)]
    exact h
set_option maxRecDepth 100000 in
theorem Faults_c (A:Option Addr) (c:Nat) (S:List ScrV) (w:World) (hr:Rd w aA A (flat encScr S)) (hn0:S.length≤64) (ht:Tab w) :
 Calls Tryz.prog 28 #[.slice A S.length c] w fun e w'=>(∃ (B:Option Addr) (c2:Nat) (vals:List Value),e=.returned (.slice B vals.length c2)∧Rd w' aA B vals∧FlV w' vals (fA (fun k=>(eD S k).m) S.length))∧Only aA w w':=by
 have Hc:=hide (fun k hk=>eN hr k hk)
 have HTb:=hide (fun (X:World) (k:Only aA w X)=>(show Tab X from ht.only k))
 obtain ⟨n,hn⟩:∃ n,n=S.length:=⟨_,rfl⟩
 rw [← hn] at hn0 Hc ⊢
 obtain ⟨f,hf⟩:∃ f:Nat→ScrM,f=fun k=>(eD S k).m:=⟨_,rfl⟩
 have HF:=hide (show ∀ k,f k=(eD S k).m from fun k=>by rw [hf])
 rw [← hf]
 obtain ⟨i0,hi,hz0,hz1,hz2⟩:=info_parts Tryz.infoErr
 obtain ⟨B,hB⟩:∃ B,B=w.heap.size:=⟨_,rfl⟩
 have HBw:=hide hB
 clear hr ht hn hf hB
 go_enter Tryz.func28,Tryz.ntmps28
 go_wp2_with fail
 go_loopw [3,4,5,6,9] (fun v _ _ _ i wr=>∃ (k:Nat) (vals:List Value),k≤n∧i=.int .i64 k∧vals.length≤k∧Hid (wr.ownsRow B 62 1 v vals.length vals)∧Hid (FlV wr vals (fA f k))∧Hid (Only aA w wr)) (fun _ _ _ _ i _=>n - (intOf i).toNat)
 case atStart=>exact ⟨0,[],Nat.zero_le _,rfl,Nat.le_refl _,hide (World.ownsRow_nil _ _ _ _),hide ⟨rfl,fun j v p hv=>by cases hv⟩,hide (Only.refl _ _)⟩
 case round =>
  obtain ⟨k,vals,hk,rfl,hvl,HO,HV,HK⟩:=hrel
  obtain ⟨VA,vc,rfl,hvc⟩:=aW HO.out
  have w1:IntKind.i64.wrap ((k:Int) + 1)=(k:Int) + 1:=IntWalk.i64_in _ (by omega)
  by_cases hlt:k < n
  case pos =>
   obtain ⟨b,o,rfl,hb,_,hc⟩:=Hc.out k hlt
   have hfk:=HF.out k
   obtain ⟨s,hs⟩:∃ s,s=eD S k:=⟨_,rfl⟩
   rw [← hs] at hc hfk
   have g:∀ j,j < 8→wr.cell? ⟨b,o + k * 8 + j,none⟩=(encScr s)[j]?:=fun j hj=>(HK.out.cell (p:=⟨b,o + k * 8 + j,none⟩) hb (fun h=>h)).trans (hc j hj)
   have g0:wr.cell? ⟨b,o + k * 8,none⟩=some (.string s.nm):=g 0 (by omega)
   have g1:wr.cell? ⟨b,o + k * 8 + 1,none⟩=some (.int .i64 s.d):=g 1 (by omega)
   have g2:wr.cell? ⟨b,o + k * 8 + 2,none⟩=some (.int .i64 s.j):=g 2 (by omega)
   have g3:wr.cell? ⟨b,o + k * 8 + 3,none⟩=some (.slice s.A s.L.length s.c):=g 3 (by omega)
   have g4:wr.cell? ⟨b,o + k * 8 + 4,none⟩=some (.int .i64 s.line):=g 4 (by omega)
   have g5:wr.cell? ⟨b,o + k * 8 + 5,none⟩=some (.int .i64 s.x):=g 5 (by omega)
   have g6:wr.cell? ⟨b,o + k * 8 + 6,none⟩=some (.int .i64 s.y):=g 6 (by omega)
   have g7:wr.cell? ⟨b,o + k * 8 + 7,none⟩=some (.int .i64 s.err):=g 7 (by omega)
   have d1:decide ((k:Int) < (n:Int))=true:=by simp;exact hlt
   have d2:decide (k < n)=true:=by simp;exact hlt
   have j1:(0:Int)≤(k:Int):=by omega
   have j2:(k:Int) < (n:Int):=by omega
   obtain ⟨X,hX⟩:∃ X,X=wr.alloc (.cells #[.string s.nm,.int .i64 s.d,.int .i64 s.j,.slice s.A s.L.length s.c,.int .i64 s.line,.int .i64 s.x,.int .i64 s.y,.int .i64 s.err] 45):=⟨_,rfl⟩
   have HXw:=hide (show Only aA wr X by rw [hX];exact (Only.refl _ wr).alloc _)
   have hxb:Blk X wr.heap.size 45 #[.string s.nm,.int .i64 s.d,.int .i64 s.j,.slice s.A s.L.length s.c,.int .i64 s.line,.int .i64 s.x,.int .i64 s.y,.int .i64 s.err]:=by rw [hX];exact Blk.new _ _ _
   have p5:=hxb.cell 5
   have p6:=hxb.cell 6
   have p7:=hxb.cell 7
   simp at p5 p6 p7
   have HX:=hide hX
   have HFk:=hide hfk
   clear hX hs hc g hxb hfk hb
   go_upto_region 5 with fail
   rw [← HX.out]
   clear g0 g1 g2 g3 g4 g5 g6 g7
   by_cases he:s.err=0
   case pos =>
    have HE:=hide (show fA f (k + 1)=fA f k by rw [iG,HFk.out,if_pos (show s.m.err=0 from he),List.append_nil])
    have HN:=hide (show Calls Tryz.prog 52 #[.agg #[.int .i64 s.x,.int .i64 s.y],.int .i64 s.err] X fun e w'=>e=.returned .nilIface∧Only aA X w' by rw [he];exact yM _ _ X)
    clear he HFk
    go_wp2_with fail
    refine HN.out.mono ?_
    rintro e w2 ⟨rfl,k2⟩
    have HK2:=hide (HXw.out.trans k2)
    clear k2 p5 p6 p7 HN
    go_wp2_with fail
    go_roundw
    case rel=>exact ⟨k + 1,vals,by omega,by go_num,by omega,hide (wF HO.out HK2.out),by rw [HE.out];exact hide (HV.out.only HK2.out),hide (HK.out.trans HK2.out)⟩
    case measure=>simp [intOf];omega
   case neg =>
    have HE:=hide (show fA f (k + 1)=fA f k++[(k,s.m)] by rw [iG,HFk.out,if_neg (show ¬ s.m.err=0 from he)])
    have HN:=hide (zF s.x s.y s.err X he)
    clear he HFk
    go_wp2_with fail
    refine HN.out.mono ?_
    rintro e w2 ⟨⟨t,u,rfl,ha⟩,k2⟩
    have HA:=hide ha
    have HK2:=hide (HXw.out.trans k2)
    clear ha k2 p5 p6 p7 HN
    have HI:=hide (itoa16_c k w2 (by omega) (HTb.out _ (HK.out.trans HK2.out)))
    go_wp2_with fail
    refine HI.out.mono ?_
    rintro e w3 ⟨rfl,k3⟩
    have HK3:=hide (HK2.out.trans k3)
    have HW:=hide (within_v (bs (Lib.decDigits k)) t u s.x s.y s.err w3 (HA.out.only k3))
    clear k3 HI HA
    go_wp2_with fail
    refine HW.out.mono ?_
    rintro e w4 ⟨⟨t2,u2,rfl,hin⟩,k4⟩
    have HK4:=hide (HK3.out.trans k4)
    have HIn:=hide hin
    clear hin k4 HW
    obtain ⟨Y,hY⟩:∃ Y,Y=w4.alloc (.cells #[.iface t2 u2] 62):=⟨_,rfl⟩
    have hYw:Only aA w4 Y:=by rw [hY];exact (Only.refl _ w4).alloc _
    have HK5:=hide (HK4.out.trans hYw)
    have HRx:=hide (show Rd Y aA (some ⟨w4.heap.size,0,none⟩) [.iface t2 u2] by rw [hY];exact aY (Blk.new _ _ _) (fun h=>h))
    have HOx:=hide (wF HO.out HK5.out)
    have hBs:B≤Y.heap.size:=by have:=HBw.out;have:=(HK.out.trans HK5.out).size;omega
    rw [hY] at HRx HOx hBs
    have HY:=hide hY
    clear hY hYw
    go_wp2_with (at_builtin;refine aD _ rfl (.tmp 21) (.tmp 26) _ rfl B 62 i0 .nilIface 1 16 Tryz.underlying57 hi hz0 hz1 hz2 rfl (by omega) _ vals.length vals rfl HOx.out aA (some ⟨w4.heap.size,0,none⟩) 1 1 [.iface t2 u2] rfl HRx.out rfl (by intro u hu;simp at hu;subst hu;rfl) (by simp only [maxLen];omega) (by omega) hBs ?_;intro v5 w5 hown5 hgr5 hv5;obtain ⟨A5,c5,rfl,_⟩:=aW hown5;have Own5:=hide hown5;have Gr5:=hide hgr5;clear hown5 hgr5 hv5)
    have HY5:=hide (show Only aA w w5 by
     have h1:=(HK.out.trans HK5.out)
     rw [HY.out] at h1
     exact h1.grown Gr5.out (fun j hj=>Or.inr (by have h2:=aU HOx.out j hj;have:=HBw.out;omega)))
    have HF5:=hide (show FlV w5 (vals++[.iface t2 u2]) (fA f (k + 1)) by
     have h0:Only aA wr Y:=HK5.out
     rw [HY.out] at h0
     rw [HE.out]
     exact ((HV.out.only h0).grown HOx.out Gr5.out).snoc (p:=(k,s.m)) ((HIn.out.only ((Only.refl aA w4).alloc _)).grown HOx.out Gr5.out))
    clear HOx HRx HY HK5 HK4 HK3 HK2 HIn Gr5 HE
    go_roundw
    case rel=>exact ⟨k + 1,vals++[.iface t2 u2],by omega,by go_num,by simp;omega,hide (by rw [List.length_append];exact Own5.out),HF5,HY5⟩
    case measure=>simp [intOf];omega
  case neg =>
   obtain rfl:n=k:=by omega
   have d3:decide ((n:Int) < (n:Int))=false:=by simp
   have d4:decide (n < n)=false:=by simp
   have HR:=hide (Rd.of_own (M:=aA) HO.out (fun _ h=>h.elim))
   go_wp2_with fail
   go_ret
   exact ⟨⟨VA,vc,vals,rfl,HR.out,HV.out⟩,HK.out⟩
set_option maxRecDepth 100000 in
theorem sJ (M:Nat→Prop) (A:Option Addr) (c:Nat) (l:List ScrV) (name:ByteArray) (w:World) (hr:Rd w M A (flat encScr l)) (hn0:l.length≤1000000) :
 Calls Tryz.prog 27 #[.slice A l.length c,.string name] w fun e w'=>e=.returned (.int .i64 (mU name (l.map (·.m))))∧w'=w:=by
 have hn:l.length≤9223372036854775807:=by omega
 have Hc:=hide (fun k hk=>eN hr k hk)
 obtain ⟨n,hnl⟩:∃ n,n=l.length:=⟨_,rfl⟩
 rw [← hnl] at hn ⊢
 have Hn:=hide hnl
 have HNo:=hide (qK name l)
 have HAt:=hide (vZ name l)
 clear hr hn0 hnl
 go_enter Tryz.func27,Tryz.ntmps27
 go_wp2_with fail
 go_loopw [5] (fun i wr=>∃ k:Nat,k≤n∧i=.int .i64 k∧Hid (∀ y ∈ l.take k,fJ name y.m=false)∧Hid (wr=w)) (fun i _=>n - (intOf i).toNat)
 case atStart=>exact ⟨0,Nat.zero_le _,rfl,hide (by simp),hide rfl⟩
 case round =>
  obtain ⟨k,hk,rfl,hnone,hbel⟩:=hrel
  by_cases hlt2:k < n
  ·have hkl:k < l.length:=by rw [← Hn.out];exact hlt2
   obtain ⟨b2,o,rfl,hb2,_,hc⟩:=Hc.out k hkl
   obtain ⟨v,hv⟩:∃ v,v=eD l k:=⟨_,rfl⟩
   rw [← hv] at hc
   rw [hbel.out]
   have g0:w.cell? ⟨b2,o + k * 8,none⟩=some (.string v.nm):=hc 0 (by omega)
   have g7:w.cell? ⟨b2,o + k * 8 + 7,none⟩=some (.int .i64 v.err):=hc 7 (by omega)
   have d1:decide ((k:Int) < (n:Int))=true:=by simp;exact hlt2
   have d2:decide (k < n)=true:=by simp;exact hlt2
   have j1:(0:Int)≤(k:Int):=by omega
   have j2:(k:Int) < (n:Int):=by omega
   have w1:IntKind.i64.wrap ((k:Int) + 1)=(k:Int) + 1:=IntWalk.i64_in _ (by omega)
   have HX:=hide hv
   have HI:=hide (show fJ name v.m=(decide (v.err=0) && decide (v.nm=name)) from rfl)
   have hstr:=vM v.nm name
   obtain ⟨B,hB⟩:∃ B,B=decide (v.nm=name):=⟨_,rfl⟩
   rw [← hB] at HI hstr
   have HIn:=hide (fun (ho:fJ name v.m=false)=>(show ∀ y ∈ l.take (k + 1),fJ name y.m=false by
    intro y hy
    rw [List.take_add_one,iL hkl] at hy
    rcases List.mem_append.1 hy with hy | hy
    ·exact hnone.out y hy
    ·simp only [Option.toList_some,List.mem_singleton] at hy
     subst hy
     rw [← HX.out]
     exact ho))
   have HIs:=hide (fun (ho:fJ name v.m=true)=>HAt.out k hkl hnone.out (by rw [← HX.out];exact ho))
   clear hc hv hB hkl hnone
   by_cases he:v.err=0
   ·have q1:(v.err == 0)=true:=by rw [he];rfl
    cases B with
    | true =>
     have HR:=hide (HIs.out (by rw [HI.out,decide_eq_true he];rfl))
     clear he
     go_wp2_with fail
     go_ret
     exact ⟨by rw [HR.out];rfl,rfl⟩
    | false =>
     have HR:=hide (HIn.out (by rw [HI.out,decide_eq_true he];rfl))
     clear he
     go_wp2_with fail
     go_roundw
     case rel=>exact ⟨k + 1,by omega,by go_num,HR,hide trivial⟩
     case measure=>simp [intOf];omega
   ·have q1:(v.err == 0)=false:=beq_eq_false_iff_ne.2 he
    have HR:=hide (HIn.out (by rw [HI.out,decide_eq_false he];rfl))
    clear he
    go_wp2_with fail
    go_roundw
    case rel=>exact ⟨k + 1,by omega,by go_num,HR,hide trivial⟩
    case measure=>simp [intOf];omega
  ·obtain rfl:k=n:=by omega
   have HI:=hide (HNo.out (by have:=hnone.out;rw [Hn.out,List.take_length] at this;exact this))
   have d1:decide ((k:Int) < (k:Int))=false:=by simp
   have d2:decide (k < k)=false:=by simp
   have HB:=hide hbel.out
   clear hnone hbel
   go_wp2_with fail
   go_ret
   exact ⟨by rw [HI.out];rfl,HB.out⟩
theorem zC (x:List UInt8) (r:List (List UInt8)):Lib.join ((x :: r).take 1) [10]=x:=by simp [Lib.join_one]
theorem yE (l:List (List UInt8)) (k:Nat) (h0:0 < k) (h:k < l.length):Lib.join (l.take (k + 1)) [10]=Lib.join (l.take k) [10]++[10]++l.getD k []:=by
 cases l with
 | nil=>simp at h
 | cons x r =>
  obtain ⟨j,rfl⟩:∃ j,k=j + 1:=⟨k - 1,by omega⟩
  have hj:j < r.length:=by simpa using h
  have e:(x :: r).getD (j + 1) []=r[j]:=by simp [List.getD,hj]
  rw [List.take_succ_cons,List.take_succ_cons,Lib.join_cons,Lib.join_cons,Lib.joinTail_take_succ [10] r j r[j] (List.getElem?_eq_getElem hj),e]
  simp [List.append_assoc]
theorem yI (l:List (List UInt8)) (k:Nat) (h:k < l.length):dL (l.take (k + 1))=if dL (l.take k) < 0 then (if fR (l.getD k [])=true then (k:Int) else -1) else dL (l.take k):=by
 have e:l.getD k []=l[k]:=by simp [List.getD,h]
 have e2:l.take (k + 1)=l.take k++[l[k]]:=by rw [List.take_add_one,List.getElem?_eq_getElem h];rfl
 have hl:(l.take k).length=k:=by rw [List.length_take];omega
 have e3:[l[k]].any fR=fR l[k]:=by simp
 rw [e,e2]
 unfold dL
 rw [List.any_append,e3]
 cases ha:(l.take k).any fR with
 | true =>
  have:(l.take k++[l[k]]).findIdx fR=(l.take k).findIdx fR:=by
   rw [List.findIdx_append,if_pos (by rw [List.findIdx_lt_length];simpa using List.any_eq_true.1 ha)]
  rw [Bool.true_or,if_pos rfl,if_pos rfl,this,if_neg (Int.not_lt.2 (Int.natCast_nonneg _))]
 | false =>
  have hn:¬ (l.take k).findIdx fR < (l.take k).length:=by
   rw [List.findIdx_lt_length]
   rintro ⟨x,hx,hs⟩
   exact List.any_eq_false.1 ha x hx hs
  rw [Bool.false_or]
  cases hs:fR l[k] with
  | true =>
   have:(l.take k++[l[k]]).findIdx fR=k:=by
    rw [List.findIdx_append,if_neg hn,hl]
    rw [List.findIdx_cons,hs]
    simp
   rw [this]
   rfl
  | false=>rfl
end Go.Proofs.YtaioaojfdngfdaaGreatDoor
