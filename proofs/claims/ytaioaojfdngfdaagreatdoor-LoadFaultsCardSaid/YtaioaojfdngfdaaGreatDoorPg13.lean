/- Parts of a chain of lemmas: Parse, Good, Comp, Check, Prg1, Prg2. Conditions: those of each theorem. -/
import Derived.Test.YtaioaojfdngfdaaGreatDoorPg12
import Derived.Test.YtaioaojfdngfdaaGreatDoorPg03
import Derived.BigRegion
import Derived.Test.YtaioaojfdngfdaaGreatDoorPg04
import Derived.Laws.StructEq
set_option linter.unusedVariables false
set_option linter.unusedSimpArgs false
set_option maxHeartbeats 6400000
namespace Go.Proofs.YtaioaojfdngfdaaGreatDoor
open Go.RowKit
theorem Tryz.infoItem:(Tryz.prog.info? 253).map (fun i=>(i.zero,i.size,i.bytes))=some (some (.agg #[.bool false,.int .u64 0,.int .u64 0,.int .u64 0,.int .u64 0]),5,40):=by kernel_rfl
theorem fW (x:ItM):∀ u ∈ cC x,u.oneCell'=true:=by intro u hu;simp [cC] at hu;rcases hu with rfl | rfl | rfl | rfl | rfl<;>rfl
theorem qP (x:ItM):(cC x).length=5:=rfl
def iU (rs:List Bool) (p:Nat) (x:List Bool × Nat × Nat):List Bool × Nat × Nat:=if x.2.2≠0 then ([],p + x.2.1,x.2.2) else (rs++x.1,0,0)
theorem qQ {rs:List Bool} {p k:Nat} {l:List UInt8} (h:l≠[]) (hk:k≠60) (he:(bM l).2.2=0) :
 iU rs p (aM k l)=iU (rs++[(bM l).1]) (p + (bM l).2.1) (aM (k + 1) (l.drop (bM l).2.1)):=by
 rw [rE h hk he]
 unfold iU
 by_cases hx:(aM (k + 1) (l.drop (bM l).2.1)).2.2=0
 ·simp [hx]
 ·simp [hx,Nat.add_assoc]
theorem lL (f k:Nat) (l:List UInt8):((dB f k l).2.2≠0→(dB f k l).1=[])∧((dB f k l).2.2=0→(dB f k l).2.1=0):=by
 cases f with
 | zero=>simp [dB]
 | succ f =>
  unfold dB
  repeat' split
  all_goals simp_all
theorem oU (l:List UInt8):aM 0 l=iU [] 0 (aM 0 l):=by
 obtain ⟨h1,h2⟩:=lL (l.length + 1) 0 l
 obtain ⟨r,a,e,hx⟩:∃ r a e,aM 0 l=(r,a,e):=⟨_,_,_,rfl⟩
 have hx':dB (l.length + 1) 0 l=(r,a,e):=hx
 rw [hx'] at h1 h2
 rw [hx]
 unfold iU
 by_cases he:e=0
 ·simp only at h2
  simp [he,h2 he]
 ·simp only at h1
  simp [he,h1 he]
theorem m4 (s:ByteArray) (q:Nat) (h:q≤s.size):(s.extract q s.size).data.toList=suf s q:=by
 unfold suf
 rw [ByteArray.data_extract,Array.toList_extract,List.extract_eq_take_drop]
 apply List.take_of_length_le
 rw [List.length_drop,cT]
 exact Nat.le_refl _
theorem ext_size (s:ByteArray) (q:Nat) (h:q≤s.size):(s.extract q s.size).size=s.size - q:=by
 rw [← cT,m4 s q h,eS]
theorem own_keep {S:Nat→Prop} {w w':World} {base size n:Nat} {e:TypeId} {v:Value} {xs:List Value} (h:w.ownsRow base e size v n xs) (k:Only S w w') (hS:∀ g cs,S g→¬ Blk w g e cs):w'.ownsRow base e size v n xs:=by
 obtain ⟨hl,h2⟩:=h
 refine ⟨hl,?_⟩
 rcases h2 with ⟨hv,hn⟩ | ⟨g,cap,cur,hv,hb,hh,r⟩
 ·exact Or.inl ⟨hv,hn⟩
 ·refine Or.inr ⟨g,cap,cur,hv,hb,?_,r⟩
  have hlt:g < w.heap.size:=Blk.lt (t:=e) (cs:=cur) hh
  rw [k.block g hlt (fun hs=>hS g cur hs hh)]
  exact hh
theorem own_nil {w:World} {base size:Nat} {e:TypeId} (h:base≤w.heap.size):w.ownsRow base e size (.slice none 0 0) 0 []:=⟨by simp,Or.inl ⟨rfl,rfl⟩⟩
def lY (l:List UInt8) (w:World) (e:Ending) (w':World):Prop :=
 ∃ (A:Option Addr) (c:Nat) (its:List ItM),e=.returned (.tuple #[.slice A its.length c,.int .i64 (aM 0 l).2.1,.int .i64 (aM 0 l).2.2])∧((aM 0 l).2.2=0→its.map (·.run)=(aM 0 l).1)∧(∀ x ∈ its,rU x)∧its.length≤60∧Rd w' aA A (flat cC its)∧Only aA w w'
set_option maxRecDepth 100000 in
theorem Parse_c (s:ByteArray) (w:World) (hs:s.size≤9223372036854775807):Calls Tryz.prog 207 #[.string s] w (lY s.data.toList w):=by
 obtain ⟨i0,hi,hz0,hz1,hz2⟩:=info_parts Tryz.infoItem
 rw [← mY]
 go_enter Tryz.func207,Tryz.ntmps207
 go_wp2_with fail
 go_loopw [5,6] (fun v i wr=>∃ (q:Nat) (its:List ItM),its.length≤60∧q≤s.size∧i=.int .i64 q∧Hid (wr.ownsRow w.heap.size 253 5 v its.length (flat cC its))∧Hid (∀ x ∈ its,rU x)∧Hid (Only aA w wr)∧Hid (aM 0 (suf s 0)=iU (its.map (·.run)) q (aM its.length (suf s q)))) (fun _ i _=>s.size - (intOf i).toNat)
 case atStart=>exact ⟨0,[],by simp,Nat.zero_le _,rfl,hide (own_nil (Nat.le_refl _)),hide (by simp),hide (Only.refl _ _),hide (oU _)⟩
 case round =>
  obtain ⟨q,its,hk,hq,rfl,HOW,HIT,HO,HP⟩:=hrel
  by_cases hlt:q < s.size
  ·have d1:decide ((q:Int) < (s.size:Int))=true:=by simp;exact hlt
   have d2:decide (q < s.size)=true:=by simp;exact hlt
   have hne:suf s q≠[]:=by rw [bL hlt];simp
   obtain ⟨A5,c5,rfl,hcap⟩:=aW HOW.out
   obtain ⟨k,hkk⟩:∃ k,k=its.length:=⟨_,rfl⟩
   rw [← hkk] at hk HOW HP ⊢
   have HKK:=hide hkk
   clear hkk
   by_cases hk6:k=60
   ·subst hk6
    have HQ:=hide (show aM 0 (suf s 0)=([],q,4) by rw [HP.out,lK hne];rfl)
    clear hne
    go_wp2_with fail
    refine bodyPost_ret (v:=.tuple #[.slice none 0 0,.int .i64 q,.int .i64 (4:Nat)]) (by simp [results,Tryz.results207,go_sem]) rfl ?_
    unfold lY
    rw [HQ.out]
    exact ⟨none,0,[],rfl,by simp,by simp,by simp,Or.inl rfl,HO.out⟩
   ·have hkb:((k:Int) == 60)=false:=by simp only [beq_eq_false_iff_ne,ne_eq];omega
    have HI:=hide (fun (w':World)=>item_c (s.extract q s.size) w' (by rw [ext_size s q hq];omega) (by rw [ext_size s q hq];omega))
    rw [m4 s q hq] at HI
    have hle:=lR (suf s q)
    have hpos:=kA (l:=suf s q) hne
    have hcm:=qQ (rs:=its.map (·.run)) (p:=q) (k:=k) hne hk6
    have hbd:=mR (l:=suf s q) (k:=k) hne hk6
    unfold wK at HI
    rw [eS] at hle
    obtain ⟨rn,n,e0,hit⟩:∃ rn n e0,bM (suf s q)=(rn,n,e0):=⟨_,_,_,rfl⟩
    rw [hit] at HI hle hpos hcm hbd
    simp only at hle hpos hcm hbd
    rw [dS] at hcm
    have w1:IntKind.i64.wrap ((q:Int) + (n:Int))=(q:Int) + (n:Int):=IntWalk.i64_in _ (by omega)
    have j1:(0:Int)≤(q:Int):=by omega
    have j2:(q:Int)≤(s.size:Int):=by omega
    by_cases he:e0=0
    ·subst he
     have HCM:=hide (hcm rfl)
     have HPO:=hide (hpos rfl)
     clear hcm hbd hpos hit hne
     go_wp2_with fail
     refine (HI.out _).mono ?_
     rintro e w4 ⟨⟨xr,xa,xb,xc,xd⟩,rfl,hxr,hxo,ho4⟩
     have HXR:=hide hxr
     have HXO:=hide hxo
     have HOW4:=hide (own_keep HOW.out ho4 (fun _ _ h=>h.elim))
     replace HO:=hide (HO.out.trans ho4)
     clear hxr hxo
     unfold cC
     have hb4:w.heap.size≤w4.heap.size:=HO.out.size
     clear ho4 HOW
     have HOW:=hide ((HOW4.out.alloc (.cells #[.bool xr,.int .u64 xa,.int .u64 xb,.int .u64 xc,.int .u64 xd] 253)).alloc (.cells #[.bool xr,.int .u64 xa,.int .u64 xb,.int .u64 xc,.int .u64 xd] 253))
     have Hrd:=hide (show Rd ((w4.alloc (.cells #[.bool xr,.int .u64 xa,.int .u64 xb,.int .u64 xc,.int .u64 xd] 253)).alloc (.cells #[.bool xr,.int .u64 xa,.int .u64 xb,.int .u64 xc,.int .u64 xd] 253)) aA (some ⟨w4.heap.size + 1,0,none⟩) (cC ⟨xr,xa,xb,xc,xd⟩) from aY (Blk.new' (by simp)) (fun h=>h))
     have HO2:=hide ((HO.out.alloc (.cells #[.bool xr,.int .u64 xa,.int .u64 xb,.int .u64 xc,.int .u64 xd] 253)).alloc (.cells #[.bool xr,.int .u64 xa,.int .u64 xb,.int .u64 xc,.int .u64 xd] 253))
     have Hone:=hide (fW ⟨xr,xa,xb,xc,xd⟩)
     go_wp2_with (at_builtin;refine aD _ rfl (.tmp 32) (.tmp 34) _ rfl w.heap.size 253 i0 _ 5 40 Tryz.underlying187 hi hz0 hz1 hz2 rfl (by omega) _ k _ rfl HOW.out aA (some ⟨w4.heap.size + 1,0,none⟩) 1 1 (cC ⟨xr,xa,xb,xc,xd⟩) rfl Hrd.out rfl Hone.out (by simp only [maxLen];omega) (by omega) (by simp;omega) ?_;intro v2 w2 hown2 hgr _;have Own2:=hide hown2;have Gr:=hide hgr;clear hown2 hgr)
     go_roundw
     case rel =>
      refine ⟨q + n,its++[⟨xr,xa,xb,xc,xd⟩],?_,by omega,by go_num,?_,?_,?_,?_⟩
      ·rw [List.length_append,← HKK.out];simp;omega
      ·exact hide (by rw [dZ,List.length_append,← HKK.out];have:=Own2.out;simpa [flat] using this)
      ·exact hide (by intro y hy;rcases List.mem_append.1 hy with hy | hy;exact HIT.out y hy;rw [List.mem_singleton.1 hy];exact HXO.out)
      ·exact hide (HO2.out.grown Gr.out (fun j hj=>Or.inr (aU HOW.out j hj)))
      ·exact hide (by rw [HP.out,HCM.out,List.map_append,List.length_append,← HKK.out,← HXR.out];rfl)
     case measure=>simp [intOf];have:=HPO.out;omega
    ·have hne0:((e0:Int) != 0)=true:=by simp only [bne_iff_ne,ne_eq];omega
     have HQ:=hide (show aM 0 (suf s 0)=([],q + n,e0) by rw [HP.out,hbd he];unfold iU;rw [if_pos he])
     clear hcm hbd hpos hit hne he
     go_wp2_with fail
     refine (HI.out _).mono ?_
     rintro e w4 ⟨⟨xr,xa,xb,xc,xd⟩,rfl,hxr,hxo,ho4⟩
     replace HO:=hide (HO.out.trans ho4)
     clear hxr hxo ho4
     unfold cC
     go_wp2_with fail
     refine bodyPost_ret (v:=.tuple #[.slice none 0 0,.int .i64 ((q:Int) + (n:Int)),.int .i64 e0]) (by simp [results,Tryz.results207,go_sem]) rfl ?_
     unfold lY
     rw [HQ.out]
     exact ⟨none,0,[],rfl,fun h=>absurd h (by simpa using hne0),by simp,by simp,Or.inl rfl,HO.out.alloc _⟩
  ·obtain rfl:q=s.size:=by omega
   have d1:decide ((s.size:Int) < (s.size:Int))=false:=by simp
   have d2:decide (s.size < s.size)=false:=by simp
   obtain ⟨A5,c5,rfl,hcap⟩:=aW HOW.out
   obtain ⟨k,hkk⟩:∃ k,k=its.length:=⟨_,rfl⟩
   rw [← hkk] at hk HOW HP ⊢
   have HKK:=hide hkk
   clear hkk
   have HQ:=hide (show aM 0 (suf s 0)=(its.map (·.run),0,0) by rw [HP.out,dU (Nat.le_refl _),mQ];simp [iU])
   have HRd:=hide (Rd.of_own (M:=aA) HOW.out (fun k h=>h.elim))
   go_wp2_with fail
   refine bodyPost_ret (v:=.tuple #[.slice A5 k c5,.int .i64 (0:Nat),.int .i64 (0:Nat)]) (by simp [results,Tryz.results207,go_sem]) rfl ?_
   unfold lY
   rw [HQ.out,HKK.out]
   exact ⟨A5,c5,its,rfl,fun _=>rfl,HIT.out,by rw [← HKK.out];exact hk,HRd.out,HO.out⟩
def iF (l:List ItM) (k:Nat):ItM:=l.getD k ⟨false,0,0,0,0⟩
theorem qI {l:List ItM} {k:Nat} (hk:k < l.length):l[k]?=some (iF l k):=by simp [iF,List.getD,hk]
theorem itAt_mem {l:List ItM} {k:Nat} (hk:k < l.length):iF l k ∈ l:=by
 have h:=qI hk
 exact List.mem_of_getElem? h
theorem oI {w:World} {M:Nat→Prop} {A:Option Addr} {l:List ItM} (hr:Rd w M A (flat cC l)) (k:Nat) (hk:k < l.length):∃ b o,A=some ⟨b,o,none⟩∧b < w.heap.size ∧
 w.cell? ⟨b,o + k * 5,none⟩=some (.bool (iF l k).run)∧w.cell? ⟨b,o + k * 5 + 1,none⟩=some (.int .u64 (iF l k).a)∧w.cell? ⟨b,o + k * 5 + 2,none⟩=some (.int .u64 (iF l k).b) ∧
 w.cell? ⟨b,o + k * 5 + 3,none⟩=some (.int .u64 (iF l k).c)∧w.cell? ⟨b,o + k * 5 + 4,none⟩=some (.int .u64 (iF l k).d):=by
 obtain ⟨b,o,hA,_,hb,hc⟩:=cR qP hr k _ (qI hk) (by omega)
 exact ⟨b,o,hA,hb,hc 0 (by omega),hc 1 (by omega),hc 2 (by omega),hc 3 (by omega),hc 4 (by omega)⟩
def tB (p:ItM→Bool) (l:List ItM):Int:=if l.any p then (l.findIdx p:Int) else -1
theorem vX (p:ItM→Bool) (l:List ItM) (k:Nat) (hk:k < l.length) (h:∀ y ∈ l.take k,p y=false) (hx:p (iF l k)=true):tB p l=k:=by
 have e:iF l k=l[k]:=by simp [iF,List.getD,hk]
 rw [e] at hx
 unfold tB
 have ha:l.any p=true:=List.any_eq_true.2 ⟨l[k],List.getElem_mem hk,hx⟩
 rw [if_pos ha]
 have:l.findIdx p=k:=by
  rw [List.findIdx_eq hk]
  refine ⟨hx,fun j hj=>?_⟩
  exact h _ (by rw [List.mem_take_iff_getElem];exact ⟨j,by omega,rfl⟩)
 rw [this]
theorem qJ (p:ItM→Bool) (l:List ItM) (h:∀ y ∈ l,p y=false):tB p l = -1:=by
 unfold tB
 have ha:¬ l.any p=true:=by
  rw [List.any_eq_true]
  rintro ⟨x,hx,ho⟩
  rw [h x hx] at ho
  cases ho
 rw [if_neg ha]
theorem vW (p:ItM→Bool) (l:List ItM):decide (tB p l ≥ 0)=l.any p:=by
 unfold tB
 cases h:l.any p<;>simp
def jH (x:ItM):Bool:=!x.run
def jI (x:ItM):Bool:=false
set_option maxRecDepth 100000 in
theorem eq_zero (w:World):Sem.run Tryz.prog (Op.equalIn 10000 249 (.agg #[.int .u64 0,.int .u64 0,.int .u64 0,.int .u64 0]) (.agg #[.int .u64 0,.int .u64 0,.int .u64 0,.int .u64 0])) w=.ok true w:=by kernel_rfl
set_option maxRecDepth 100000 in
theorem noRun_c (x:ItM) (w:World):Calls Tryz.prog 238 #[.agg #[.bool x.run,.int .u64 x.a,.int .u64 x.b,.int .u64 x.c,.int .u64 x.d]] w fun e w'=>e=.returned (.bool (jH x))∧Below w.heap.size w w':=by
 obtain ⟨r,a,b,c,d⟩:=x
 go_enter Tryz.func238,Tryz.ntmps238
 go_wp2_with fail
 go_ret
 exact ⟨rfl,aK _ _⟩
set_option maxRecDepth 100000 in
theorem never_c (x:ItM) (hx:rU x) (w:World):Calls Tryz.prog 247 #[.agg #[.bool x.run,.int .u64 x.a,.int .u64 x.b,.int .u64 x.c,.int .u64 x.d]] w fun e w'=>e=.returned (.bool (jI x))∧Below w.heap.size w w':=by
 obtain ⟨r,a,b,c,d⟩:=x
 cases r with
 | false =>
  go_enter Tryz.func247,Tryz.ntmps247
  go_wp2_with fail
  go_ret
  exact ⟨rfl,aK _ _⟩
 | true =>
  obtain ⟨h1,h2,h3,h4⟩:=hx rfl
  simp only at h1 h2 h3 h4
  subst h1 h2 h3 h4
  have hcmp:=@eq_zero
  go_enter Tryz.func247,Tryz.ntmps247
  go_wp2_with fail
  go_ret
  exact ⟨rfl,aK _ _⟩
set_option maxRecDepth 100000 in
theorem tP (M:Nat→Prop) (A:Option Addr) (c:Nat) (l:List ItM) (w:World) (hr:Rd w M A (flat cC l)) (hn0:l.length≤maxLen) :
 Calls Tryz.prog 248 #[.slice A l.length c,.func (.func 238) #[] #[]] w fun e w'=>e=.returned (.int .i64 (tB jH l))∧Below w.heap.size w w':=by
 have hn:l.length≤9223372036854775807:=hn0
 have Hc:=hide (fun k hk=>oI hr k hk)
 skip
 obtain ⟨n,hnl⟩:∃ n,n=l.length:=⟨_,rfl⟩
 rw [← hnl] at hn ⊢
 have Hn:=hide hnl
 clear hr hn0 hnl
 go_enter Tryz.func248,Tryz.ntmps248
 go_wp2_with fail
 go_loopw [8] (fun i wr=>∃ k:Nat,k≤n∧i=.int .i64 k∧Hid (∀ y ∈ l.take k,jH y=false)∧Below w.heap.size w wr) (fun i _=>n - (intOf i).toNat)
 case atStart=>exact ⟨0,Nat.zero_le _,rfl,hide (by simp),Below.refl _ _⟩
 case round =>
  obtain ⟨k,hk,rfl,hnone,hbel⟩:=hrel
  by_cases hlt2:k < n
  ·obtain ⟨b2,o,rfl,hb2,g0,g1,g2,g3,g4⟩:=Hc.out k (by rw [← Hn.out];exact hlt2)
   replace g0:=fN hbel hb2 g0
   replace g1:=fN hbel hb2 g1
   replace g2:=fN hbel hb2 g2
   replace g3:=fN hbel hb2 g3
   replace g4:=fN hbel hb2 g4
   have hpred:=noRun_c (iF l k) wr
   cases ho:jH (iF l k) with
   | true =>
    rw [ho] at hpred
    have HP:=hide hpred
    have HI:=hide (vX jH l k (by rw [← Hn.out];exact hlt2) hnone.out ho)
    clear hpred ho
    go_wp2_with (go_at_call 238;refine HP.out.mono ?_;rintro e w2 ⟨rfl,hb2⟩)
    go_ret
    exact ⟨mZ HI.out.symm,hbel.trans (hb2.mono hbel.size)⟩
   | false =>
    rw [ho] at hpred
    have HP:=hide hpred
    have HI:Hid (∀ y ∈ l.take (k + 1),jH y=false):=by
     intro y hy
     rw [List.take_succ_eq_append_getElem (by rw [← Hn.out];exact hlt2)] at hy
     rcases List.mem_append.1 hy with hy | hy
     ·exact hnone.out y hy
     ·simp at hy
      subst hy
      rw [← ho]
      have e:iF l k=l[k]'(by rw [← Hn.out];exact hlt2):=by simp [iF,List.getD,show k < l.length by rw [← Hn.out];exact hlt2]
      rw [e]
    clear hpred ho hnone
    go_wp2_with (go_at_call 238;refine HP.out.mono ?_;rintro e w2 ⟨rfl,hb2⟩)
    go_roundw
    case rel=>exact ⟨k + 1,by omega,by go_num,HI,hbel.trans (hb2.mono hbel.size)⟩
    case measure=>simp [intOf];omega
  ·have hd:decide ((k:Int) < n)=false:=by simp;omega
   have hd2:decide (k < n)=false:=by simp;omega
   have HI:=hide (qJ jH l (fun y hy=>hnone.out y (by rw [List.take_of_length_le (by rw [← Hn.out];omega)];exact hy)))
   go_wp2_with fail
   go_ret
   exact ⟨mZ HI.out.symm,hbel⟩
set_option maxRecDepth 100000 in
theorem oZ (M:Nat→Prop) (A:Option Addr) (c:Nat) (l:List ItM) (w:World) (hr:Rd w M A (flat cC l)) (hn0:l.length≤maxLen) :
 Calls Tryz.prog 237 #[.slice A l.length c,.func (.func 238) #[] #[]] w fun e w'=>e=.returned (.bool (l.any jH))∧Below w.heap.size w w':=by
 have HI:=hide (fun (w':World) (hr':Rd w' M A (flat cC l))=>tP M A c l w' hr' hn0 )
 have HR:=hide hr
 have HE:=hide (vW jH l)
 obtain ⟨n,hnl⟩:∃ n,n=l.length:=⟨_,rfl⟩
 rw [← hnl] at HI ⊢
 clear hr hn0 hnl
 go_enter Tryz.func237,Tryz.ntmps237
 go_wp2_with fail
 refine (HI.out _ HR.out).mono ?_
 rintro e w2 ⟨rfl,hb2⟩
 go_wp2_with fail
 go_ret
 exact ⟨by rw [← HE.out];rfl,hb2⟩
set_option maxRecDepth 100000 in
theorem tQ (M:Nat→Prop) (A:Option Addr) (c:Nat) (l:List ItM) (w:World) (hr:Rd w M A (flat cC l)) (hn0:l.length≤maxLen) (hok:∀ x ∈ l,rU x) :
 Calls Tryz.prog 248 #[.slice A l.length c,.func (.func 247) #[] #[]] w fun e w'=>e=.returned (.int .i64 (tB jI l))∧Below w.heap.size w w':=by
 have hn:l.length≤9223372036854775807:=hn0
 have Hc:=hide (fun k hk=>oI hr k hk)
 have HOK:=hide hok
 obtain ⟨n,hnl⟩:∃ n,n=l.length:=⟨_,rfl⟩
 rw [← hnl] at hn ⊢
 have Hn:=hide hnl
 clear hr hn0 hnl
 go_enter Tryz.func248,Tryz.ntmps248
 go_wp2_with fail
 go_loopw [8] (fun i wr=>∃ k:Nat,k≤n∧i=.int .i64 k∧Hid (∀ y ∈ l.take k,jI y=false)∧Below w.heap.size w wr) (fun i _=>n - (intOf i).toNat)
 case atStart=>exact ⟨0,Nat.zero_le _,rfl,hide (by simp),Below.refl _ _⟩
 case round =>
  obtain ⟨k,hk,rfl,hnone,hbel⟩:=hrel
  by_cases hlt2:k < n
  ·obtain ⟨b2,o,rfl,hb2,g0,g1,g2,g3,g4⟩:=Hc.out k (by rw [← Hn.out];exact hlt2)
   replace g0:=fN hbel hb2 g0
   replace g1:=fN hbel hb2 g1
   replace g2:=fN hbel hb2 g2
   replace g3:=fN hbel hb2 g3
   replace g4:=fN hbel hb2 g4
   have hpred:=never_c (iF l k) (HOK.out _ (itAt_mem (by rw [← Hn.out];exact hlt2))) wr
   cases ho:jI (iF l k) with
   | true =>
    rw [ho] at hpred
    have HP:=hide hpred
    have HI:=hide (vX jI l k (by rw [← Hn.out];exact hlt2) hnone.out ho)
    clear hpred ho
    go_wp2_with (go_at_call 247;refine HP.out.mono ?_;rintro e w2 ⟨rfl,hb2⟩)
    go_ret
    exact ⟨mZ HI.out.symm,hbel.trans (hb2.mono hbel.size)⟩
   | false =>
    rw [ho] at hpred
    have HP:=hide hpred
    have HI:Hid (∀ y ∈ l.take (k + 1),jI y=false):=by
     intro y hy
     rw [List.take_succ_eq_append_getElem (by rw [← Hn.out];exact hlt2)] at hy
     rcases List.mem_append.1 hy with hy | hy
     ·exact hnone.out y hy
     ·simp at hy
      subst hy
      rw [← ho]
      have e:iF l k=l[k]'(by rw [← Hn.out];exact hlt2):=by simp [iF,List.getD,show k < l.length by rw [← Hn.out];exact hlt2]
      rw [e]
    clear hpred ho hnone
    go_wp2_with (go_at_call 247;refine HP.out.mono ?_;rintro e w2 ⟨rfl,hb2⟩)
    go_roundw
    case rel=>exact ⟨k + 1,by omega,by go_num,HI,hbel.trans (hb2.mono hbel.size)⟩
    case measure=>simp [intOf];omega
  ·have hd:decide ((k:Int) < n)=false:=by simp;omega
   have hd2:decide (k < n)=false:=by simp;omega
   have HI:=hide (qJ jI l (fun y hy=>hnone.out y (by rw [List.take_of_length_le (by rw [← Hn.out];omega)];exact hy)))
   go_wp2_with fail
   go_ret
   exact ⟨mZ HI.out.symm,hbel⟩
set_option maxRecDepth 100000 in
theorem o7 (M:Nat→Prop) (A:Option Addr) (c:Nat) (l:List ItM) (w:World) (hr:Rd w M A (flat cC l)) (hn0:l.length≤maxLen) (hok:∀ x ∈ l,rU x) :
 Calls Tryz.prog 237 #[.slice A l.length c,.func (.func 247) #[] #[]] w fun e w'=>e=.returned (.bool (l.any jI))∧Below w.heap.size w w':=by
 have HI:=hide (fun (w':World) (hr':Rd w' M A (flat cC l))=>tQ M A c l w' hr' hn0 hok)
 have HR:=hide hr
 have HE:=hide (vW jI l)
 obtain ⟨n,hnl⟩:∃ n,n=l.length:=⟨_,rfl⟩
 rw [← hnl] at HI ⊢
 clear hr hn0 hnl
 go_enter Tryz.func237,Tryz.ntmps237
 go_wp2_with fail
 refine (HI.out _ HR.out).mono ?_
 rintro e w2 ⟨rfl,hb2⟩
 go_wp2_with fail
 go_ret
 exact ⟨by rw [← HE.out];rfl,hb2⟩
set_option maxRecDepth 100000 in
theorem good_c (M:Nat→Prop) (A:Option Addr) (c:Nat) (l:List ItM) (w:World) (hr:Rd w M A (flat cC l)) (hn:l.length≤60) (hok:∀ x ∈ l,rU x) :
 Calls Tryz.prog 236 #[.slice A l.length c] w fun e w'=>e=.returned (.bool true)∧Below w.heap.size w w':=by
 have HI:=hide (o7 M A c l w hr (by unfold maxLen;omega) hok)
 have e:l.any jI=false:=by simp [jI]
 rw [e] at HI
 obtain ⟨n,hnl⟩:∃ n,n=l.length:=⟨_,rfl⟩
 rw [← hnl] at HI hn ⊢
 have d1:decide ((n:Int)≤60)=true:=by simp;omega
 have d2:decide (n≤60)=true:=by simp;omega
 clear hr hnl hok e
 go_enter Tryz.func236,Tryz.ntmps236
 go_wp2_with fail
 refine HI.out.mono ?_
 rintro e w2 ⟨rfl,hb2⟩
 go_wp2_with fail
 go_ret
 exact ⟨rfl,hb2⟩
set_option maxRecDepth 100000 in
theorem Good_c (M:Nat→Prop) (A:Option Addr) (c:Nat) (l:List ItM) (w:World) (hr:Rd w M A (flat cC l)) (hn:l.length≤60) (hok:∀ x ∈ l,rU x) :
 Calls Tryz.prog 224 #[.slice A l.length c] w fun e w'=>e=.returned (.bool true)∧Below w.heap.size w w':=by
 have HI:=hide (good_c M A c l w hr hn hok)
 clear hr hok
 go_enter Tryz.func224,Tryz.ntmps224
 go_wp2_with fail
 refine HI.out.mono ?_
 rintro e w2 ⟨rfl,hb2⟩
 go_wp2_with fail
 go_ret
 exact ⟨rfl,hb2⟩
theorem all_run (l:List ItM):(!(l.any jH))=(l.map (·.run)).all id:=by
 induction l with
 | nil=>rfl
 | cons x r ih=>simp only [List.any_cons,List.map_cons,List.all_cons,id,← ih,jH];cases x.run<;>simp
set_option maxRecDepth 100000 in
theorem Empty_c (M:Nat→Prop) (A:Option Addr) (c:Nat) (l:List ItM) (w:World) (hr:Rd w M A (flat cC l)) (hn:l.length≤60) :
 Calls Tryz.prog 225 #[.slice A l.length c] w fun e w'=>e=.returned (.bool ((l.map (·.run)).all id))∧Below w.heap.size w w':=by
 have HI:=hide (oZ M A c l w hr (by unfold maxLen;omega))
 rw [← all_run]
 clear hr
 go_enter Tryz.func225,Tryz.ntmps225
 go_wp2_with fail
 refine HI.out.mono ?_
 rintro e w2 ⟨rfl,hb2⟩
 go_wp2_with fail
 go_ret
 exact ⟨rfl,hb2⟩
def wL (w:World) (e:Ending) (w':World):Prop:=∃ v:Bool,e=.returned (.bool v)∧Below w.heap.size w w'
set_option maxRecDepth 100000 in
theorem has_c (a b c d:Int) (x:Nat) (w:World) (hx:x < 256):Calls Tryz.prog 239 #[.agg #[.int .u64 a,.int .u64 b,.int .u64 c,.int .u64 d],.int .u8 x] w (wL w):=by
 have hr1:Int.tmod (x:Int) 64=((x % 64:Nat):Int):=by rw [Int.tmod_eq_emod_of_nonneg (by omega)];omega
 have hr2:(x:Int) % 64=((x % 64:Nat):Int):=by omega
 have hr3:x % 64 < 64:=Nat.mod_lt _ (by omega)
 have h4:x / 64=0∨x / 64=1∨x / 64=2∨x / 64=3:=by omega
 rcases h4 with h4 | h4 | h4 | h4
 all_goals
  have hq1:Int.tdiv (x:Int) 64=((x / 64:Nat):Int):=by rw [Int.tdiv_eq_ediv_of_nonneg (by omega)];omega
  have hq2:(x:Int) / 64=((x / 64:Nat):Int):=by omega
  rw [h4] at hq1 hq2
  clear h4
  obtain ⟨r,hr⟩:∃ r,r=x % 64:=⟨_,rfl⟩
  rw [← hr] at hr1 hr2 hr3
  clear hr
  go_enter Tryz.func239,Tryz.ntmps239
  go_wp2
  go_ret
  exact ⟨_,rfl,aK _ _⟩
set_option maxRecDepth 100000 in
theorem Has_c (a b c d:Int) (x:Nat) (w:World) (hx:x < 256):Calls Tryz.prog 226 #[.agg #[.int .u64 a,.int .u64 b,.int .u64 c,.int .u64 d],.int .u8 x] w (wL w):=by
 have HS:=hide (fun (w':World)=>has_c a b c d x w' hx)
 clear hx
 go_enter Tryz.func226,Tryz.ntmps226
 go_wp2_with fail
 refine (HS.out _).mono ?_
 rintro e w2 ⟨v,rfl,hb⟩
 go_wp2_with fail
 go_ret
 exact ⟨v,rfl,(aK _ _).trans (hb.mono (by simp))⟩
def TAt (w:World) (g:Nat):Prop:=∃ cs,Blk w g 298 cs∧cs.size=258∧∀ j,1≤j→j < 258→∃ x:Int,cs[j]?=some (.int .u64 x)
theorem TAt.set {w:World} {g:Nat} (h:TAt w g) (j:Nat) (x:Int):TAt (w.setCell ⟨g,j,none⟩ (.int .u64 x)) g:=by
 obtain ⟨cs,hb,hs,hc⟩:=h
 refine ⟨cs.setIfInBounds j (.int .u64 x),hb.set_ j _,by simpa using hs,fun i h1 h2=>?_⟩
 by_cases e:j=i
 ·subst e
  exact ⟨x,by rw [Array.getElem?_setIfInBounds_self_of_lt (by omega)]⟩
 ·rw [Array.getElem?_setIfInBounds_ne e]
  exact hc i h1 h2
theorem TAt.only {S:Nat→Prop} {w w':World} {g:Nat} (h:TAt w g) (k:Only S w w') (hg:¬ S g):TAt w' g:=by
 obtain ⟨cs,hb,hr⟩:=h
 exact ⟨cs,hb.only k hg,hr⟩
theorem TAt.cell {w:World} {g:Nat} (h:TAt w g) (j:Nat) (h1:1≤j) (h2:j < 258):∃ x:Int,w.cell? ⟨g,j,none⟩=some (.int .u64 x):=by
 obtain ⟨cs,hb,hs,hc⟩:=h
 obtain ⟨x,hx⟩:=hc j h1 h2
 exact ⟨x,by rw [hb.cell];exact hx⟩
theorem TAt.frozen {w:World} {g:Nat} (h:TAt w g) (j:Nat):w.frozen? ⟨g,j,none⟩=false:=by
 obtain ⟨cs,hb,_⟩:=h
 exact hb.frozen j
theorem TAt.lt {w:World} {g:Nat} (h:TAt w g):g < w.heap.size:=by
 obtain ⟨cs,hb,_⟩:=h
 exact hb.lt
theorem m6 : Tryz.zeroCells298 = ((.int .i64 0:Value) :: List.replicate 257 (.int .u64 0)).toArray:=by kernel_rfl
set_option maxRecDepth 100000 in
theorem wR (w:World) (v:Value):TAt (w.alloc (.cells (Tryz.zeroCells298.setIfInBounds 0 v) 298)) w.heap.size:=by
 refine ⟨_,Blk.new _ _ _,by rw [m6];simp,fun j h1 h2=>⟨0,?_⟩⟩
 rw [m6,Array.getElem?_setIfInBounds_ne (by omega)]
 obtain ⟨i,rfl⟩:∃ i,j=i + 1:=⟨j - 1,by omega⟩
 rw [List.getElem?_toArray,List.getElem?_cons_succ,List.getElem?_replicate,if_pos (by omega)]
set_option maxRecDepth 100000 in
theorem yV (A:Option Addr) (c_:Nat) (l:List ItM) (w:World) (hr:Rd w aA A (flat cC l)) (hn:l.length≤60) (hok:∀ x ∈ l,rU x) :
 Calls Tryz.prog 208 #[.slice A l.length c_] w fun e w'=>∃ p:Option Addr,e=.returned (.tuple #[.pointer p,.int .i64 (if (l.map (·.run)).all id=true then 9 else 0)])∧Below w.heap.size w w':=by
 have HG:=hide (Good_c aA A c_ l w hr hn hok)
 have HE:=hide (fun (w':World) (h:Rd w' aA A (flat cC l))=>Empty_c aA A c_ l w' h hn)
 have HR:=hide hr
 have HOK:=hide hok
 obtain ⟨n,hnl⟩:∃ n,n=l.length:=⟨_,rfl⟩
 rw [← hnl] at HG HE hn ⊢
 have HN:=hide hnl
 clear hr hok hnl
 cases hall:(l.map (·.run)).all id with
 | true =>
  rw [hall] at HE
  rw [if_pos rfl]
  clear hall
  go_enter Tryz.func208,Tryz.ntmps208
  go_wp2_with fail
  refine HG.out.mono ?_
  rintro e w2 ⟨rfl,hb2⟩
  have HB2:=hide hb2
  have HR2:=hide (HR.out.below hb2)
  clear hb2
  go_wp2_with fail
  refine (HE.out _ HR2.out).mono ?_
  rintro e w3 ⟨rfl,hb3⟩
  have HB3:=hide (HB2.out.trans (hb3.mono HB2.out.size))
  clear hb3
  go_wp2_with fail
  refine bodyPost_ret (v:=.tuple #[.pointer none,.int .i64 9]) (by simp [results,Tryz.results208,go_sem]) rfl ?_
  exact ⟨none,rfl,HB3.out⟩
 | false =>
  rw [hall] at HE
  rw [if_neg (by simp)]
  clear hall
  go_enter Tryz.func208,Tryz.ntmps208
  go_wp2_with fail
  refine HG.out.mono ?_
  rintro e w2 ⟨rfl,hb2⟩
  have HB2:=hide hb2
  have HR2:=hide (HR.out.below hb2)
  clear hb2
  go_wp2_with fail
  refine (HE.out _ HR2.out).mono ?_
  rintro e w3 ⟨rfl,hb3⟩
  have HB3:=hide (HB2.out.trans (hb3.mono HB2.out.size))
  have HR3:=hide (HR2.out.below hb3)
  clear hb3
  go_upto_region 6 with fail
  obtain ⟨W,hW⟩:∃ W,W=w3.alloc (.cells (Tryz.zeroCells298.setIfInBounds 0 (.int .i64 n)) 298):=⟨_,rfl⟩
  have HT:=hide (show TAt W w3.heap.size by rw [hW];exact wR w3 _)
  have HBW:=hide (show Below w3.heap.size w3 W by rw [hW];exact aK _ _)
  rw [← hW]
  clear hW HE HG HR HR2
  go_wp2_with fail
  go_loopw [22] (fun i wr=>∃ k:Nat,k≤n∧i=.int .i64 k∧Hid (TAt wr w3.heap.size)∧Hid (Below w3.heap.size w3 wr)) (fun i _=>n - (intOf i).toNat)
  case atStart=>exact ⟨0,Nat.zero_le _,rfl,HT,HBW⟩
  case round =>
   clear HT HBW W
   obtain ⟨k,hk,rfl,HT,HBr⟩:=hrel
   by_cases hlt:k < n
   ·obtain ⟨b,o,rfl,hb,g0,g1,g2,g3,g4⟩:=oI (HR3.out.below HBr.out) k (by rw [← HN.out];exact hlt)
    obtain ⟨x,hx⟩:∃ x,x=iF l k:=⟨_,rfl⟩
    rw [← hx] at g0 g1 g2 g3 g4
    clear hx
    obtain ⟨xr,xa,xb,xc,xd⟩:=x
    have j1:(0:Int)≤(k:Int):=by omega
    have j2:(k:Int) < (n:Int):=by omega
    have d1:decide ((k:Int) < (n:Int))=true:=by simp;exact hlt
    have d2:decide (k < n)=true:=by simp;exact hlt
    have w1:IntKind.i64.wrap ((k:Int) + 1)=(k:Int) + 1:=IntWalk.i64_in _ (by omega)
    have hlt3:=HT.out.lt
    go_upto_region 9 with fail
    obtain ⟨wa,hwa⟩:∃ wa,wa=wr.alloc (.cells #[.bool xr,.int .u64 xa,.int .u64 xb,.int .u64 xc,.int .u64 xd] 253):=⟨_,rfl⟩
    have HTa:=hide (show TAt wa w3.heap.size by rw [hwa];exact TAt.only (S:=fun _=>False) HT.out ((Only.refl _ wr).alloc _) (fun h=>h))
    have HBa:=hide (show Below w3.heap.size w3 wa by rw [hwa];exact HBr.out.alloc HBr.out.size _)
    have HIa:=hide (show Blk wa wr.heap.size 253 #[.bool xr,.int .u64 xa,.int .u64 xb,.int .u64 xc,.int .u64 xd] by rw [hwa];exact Blk.new wr 253 _)
    have hga:¬ w3.heap.size=wr.heap.size:=by omega
    have hga2:¬ wr.heap.size=w3.heap.size:=by omega
    have hra:wr.heap.size < wa.heap.size:=HIa.out.lt
    rw [← hwa]
    clear hwa HT HBr hlt3 g0 g1 g2 g3 g4
    obtain ⟨⟨g0,g1,g2,g3,g4⟩,_⟩:=HIa.out.five
    go_upto_if 31 with fail
    go_cut [] from 32 to 39 (fun wx=>Hid (TAt wx w3.heap.size)∧Hid (Below w3.heap.size w3 wx)∧Hid (Blk wx wr.heap.size 253 #[.bool xr,.int .u64 xa,.int .u64 xb,.int .u64 xc,.int .u64 xd]))
    case first =>
     cases xr with
     | true =>
      obtain ⟨y,hy⟩:=HTa.out.cell 1 (by omega) (by omega)
      have hf:=HTa.out.frozen 1
      go_wp2_with fail
      go_meet
      exact ⟨hide (HTa.out.set 1 _),hide (HBa.out.setCell (Nat.le_refl _) _),hide (HIa.out.only ((Only.refl (· = w3.heap.size) wa).setCell (Or.inl rfl) _) hga2)⟩
     | false =>
      go_wp2_with fail
      go_meet
      exact ⟨HTa,HBa,HIa⟩
    case rest =>
     obtain ⟨HTc,HBc,HIc⟩:=hcut
     clear HTa HBa HIa g0 g1 g2 g3 g4 hra
     go_wp2_with fail
     go_loopw [40] (fun i wq=>∃ q:Nat,q≤256∧i=.int .i64 q∧Hid (TAt wq w3.heap.size)∧Hid (Below w3.heap.size w3 wq)∧Hid (Blk wq wr.heap.size 253 #[.bool xr,.int .u64 xa,.int .u64 xb,.int .u64 xc,.int .u64 xd])) (fun i _=>256 - (intOf i).toNat)
     case atStart=>exact ⟨0,by omega,rfl,HTc,HBc,HIc⟩
     case round =>
      clear HTc HBc HIc
      obtain ⟨q,hq,rfl,HTq,HBq,HIq⟩:=hrel
      obtain ⟨⟨g0,g1,g2,g3,g4⟩,_⟩:=HIq.out.five
      by_cases hlq:q < 256
      ·have e1:decide ((q:Int) < 256)=true:=by simp;omega
       have e2:decide (q < 256)=true:=by simp;omega
       have e3:IntKind.u8.wrap (q:Int)=(q:Int):=by
        have:IntKind.u8.wrap (q:Int)=(q:Int) % 256:=rfl
        omega
       have e4:IntKind.i64.wrap ((q:Int) + 1)=(q:Int) + 1:=IntWalk.i64_in _ (by omega)
       have HH:=hide (fun (w':World)=>Has_c xa xb xc xd q w' hlq)
       go_wp2_with fail
       refine (HH.out _).mono ?_
       rintro e w5 ⟨v,rfl,hb5⟩
       have HT5:=hide (TAt.only (S:=fun _=>False) HTq.out (Only.of_below hb5 _) (fun h=>h))
       have HB5:=hide (HBq.out.trans (hb5.mono HBq.out.size))
       have HI5:=hide (HIq.out.below hb5)
       clear hb5 HTq HBq HIq g0 g1 g2 g3 g4
       cases v with
       | false =>
        go_wp2_with fail
        go_roundw
        case rel=>exact ⟨q + 1,by omega,by go_num,HT5,HB5,HI5⟩
        case measure=>simp [intOf];omega
       | true =>
        obtain ⟨y,hy⟩:=HT5.out.cell (2 + q) (by omega) (by omega)
        have hf:=HT5.out.frozen (2 + q)
        have e5:(0:Int)≤(q:Int):=by omega
        have e6:(q:Int) < 256:=by omega
        go_upto_region 16 with fail
        go_region
        go_wp2_with fail
        go_roundw
        case rel=>exact ⟨q + 1,by omega,by go_num,hide (TAt.only (S:=fun _=>False) (HT5.out.set (2 + q) _) ((Only.refl _ _).drew) (fun h=>h)),hide (jO (HB5.out.setCell (Nat.le_refl _) _)),hide (Blk.drew (HI5.out.only ((Only.refl (· = w3.heap.size) w5).setCell (Or.inl rfl) _) hga2))⟩
        case measure=>simp [intOf];omega
      ·obtain rfl:q=256:=by omega
       go_wp2_with fail
       go_roundw
       case rel=>exact ⟨k + 1,by omega,by go_num,HTq,HBq⟩
       case measure=>simp [intOf];omega
   ·obtain rfl:k=n:=by omega
    have d1:decide ((k:Int) < (k:Int))=false:=by simp
    have d2:decide (k < k)=false:=by simp
    go_wp2_with fail
    refine bodyPost_ret (v:=.tuple #[.pointer (some ⟨w3.heap.size,0,none⟩),.int .i64 0]) (by simp [results,Tryz.results208,go_sem]) rfl ?_
    exact ⟨_,rfl,HB3.out.trans (HBr.out.mono HB3.out.size)⟩
set_option maxRecDepth 100000 in
theorem vG (s:ByteArray) (w:World) (hs:s.size≤9223372036854775807):Calls Tryz.prog 181 #[.string s] w fun e w' =>
 ∃ p:Option Addr,e=.returned (.tuple #[.pointer p,.int .i64 (bV s.data.toList).1,.int .i64 (bV s.data.toList).2])∧Only aA w w':=by
 have HP:=hide (Parse_c s w hs)
 obtain ⟨L,hL⟩:∃ L,L=s.data.toList:=⟨_,rfl⟩
 rw [← hL] at HP ⊢
 clear hL
 go_enter Tryz.func181,Tryz.ntmps181
 go_wp2_with fail
 refine HP.out.mono ?_
 rintro e w2 ⟨A,c,its,rfl,hm,hok,hl,hr,ho⟩
 have HC:=hide (yV A c its w2 hr hl hok)
 have HO:=hide ho
 by_cases hb:(aM 0 L).2.2=0
 ·have hm':=hm hb
  rw [hm'] at HC
  have HQ:=hide (show bV L=if (aM 0 L).1.all id=true then (0,9) else (0,0) by unfold bV;rw [if_neg (by simp [hb])])
  obtain ⟨n,hn⟩:∃ n,n=its.length:=⟨_,rfl⟩
  rw [← hn] at HC ⊢
  rw [hb]
  clear hm hm' hok hl hr ho hb hn
  cases hall:(aM 0 L).1.all id with
  | true =>
   rw [hall] at HC HQ
   rw [if_pos rfl] at HC HQ
   clear hall
   go_wp2_with fail
   refine HC.out.mono ?_
   rintro e w3 ⟨p,rfl,hb3⟩
   have HO3:=hide (HO.out.trans (Only.of_below hb3 _))
   clear hb3
   go_wp2_with fail
   refine bodyPost_ret (v:=.tuple #[.pointer p,.int .i64 0,.int .i64 9]) (by simp [results,Tryz.results181,go_sem]) rfl ?_
   rw [HQ.out]
   exact ⟨p,rfl,HO3.out⟩
  | false =>
   rw [hall] at HC HQ
   rw [if_neg (by simp)] at HC HQ
   clear hall
   go_wp2_with fail
   refine HC.out.mono ?_
   rintro e w3 ⟨p,rfl,hb3⟩
   have HO3:=hide (HO.out.trans (Only.of_below hb3 _))
   clear hb3
   go_wp2_with fail
   refine bodyPost_ret (v:=.tuple #[.pointer p,.int .i64 0,.int .i64 0]) (by simp [results,Tryz.results181,go_sem]) rfl ?_
   rw [HQ.out]
   exact ⟨p,rfl,HO3.out⟩
 ·have HQ:=hide (show bV L=(aM 0 L).2 by unfold bV;rw [if_pos hb])
  obtain ⟨r0,a0,b0,h3⟩:∃ r0 a0 b0,aM 0 L=(r0,a0,b0):=⟨_,_,_,rfl⟩
  rw [h3] at HQ hb ⊢
  simp only at HQ hb ⊢
  have hbe:((b0:Int) != 0)=true:=by simp only [bne_iff_ne,ne_eq];omega
  clear h3 hm hb HC
  go_wp2_with fail
  refine bodyPost_ret (v:=.tuple #[.pointer none,.int .i64 a0,.int .i64 b0]) (by simp [results,Tryz.results181,go_sem]) rfl ?_
  rw [HQ.out]
  exact ⟨none,rfl,HO.out⟩
set_option maxRecDepth 100000 in
theorem Check_c (s:ByteArray) (w:World) (hs:s.size≤9223372036854775807):Calls Tryz.prog 147 #[.string s] w fun e w' =>
 e=.returned (.tuple #[.int .i64 (bV s.data.toList).1,.int .i64 (bV s.data.toList).2])∧Only aA w w':=by
 have HP:=hide (vG s w hs)
 obtain ⟨a0,b0,h3⟩:∃ a0 b0,bV s.data.toList=(a0,b0):=⟨_,_,rfl⟩
 rw [h3] at HP ⊢
 clear h3
 go_enter Tryz.func147,Tryz.ntmps147
 go_wp2_with fail
 refine HP.out.mono ?_
 rintro e w2 ⟨p,rfl,ho⟩
 go_wp2_with fail
 refine bodyPost_ret (v:=.tuple #[.int .i64 a0,.int .i64 b0]) (by simp [results,Tryz.results147,go_sem]) rfl ?_
 exact ⟨rfl,ho⟩
def encArm (a:ArmM):List Value:=[.string a.pat,.int .i64 a.to]
theorem oO (a:ArmM):(encArm a).length=2:=rfl
structure OpV where
 o:OpM
 A:Option Addr
 c:Nat
def encOp (v:OpV):List Value:=[.int .i64 v.o.kind,.string v.o.text,.int .i64 v.o.n,.int .i64 v.o.to,.slice v.A v.o.arms.length v.c,.int .i64 v.o.onT,.int .i64 v.o.onE]
theorem fV (v:OpV):(encOp v).length=7:=rfl
def fL (l:List ArmM) (k:Nat):ArmM:=l.getD k ⟨⟨#[]⟩,0⟩
theorem oY {l:List ArmM} {k:Nat} (hk:k < l.length):l[k]?=some (fL l k):=by simp [fL,List.getD,hk]
theorem qR {w:World} {M:Nat→Prop} {A:Option Addr} {l:List ArmM} (hr:Rd w M A (flat encArm l)) (k:Nat) (hk:k < l.length):∃ b o,A=some ⟨b,o,none⟩∧b < w.heap.size ∧
 w.cell? ⟨b,o + k * 2,none⟩=some (.string (fL l k).pat)∧w.cell? ⟨b,o + k * 2 + 1,none⟩=some (.int .i64 (fL l k).to):=by
 obtain ⟨b,o,hA,_,hb,hc⟩:=cR oO hr k _ (oY hk) (by omega)
 exact ⟨b,o,hA,hb,hc 0 (by omega),hc 1 (by omega)⟩
theorem fE {t:ByteArray} (h:t.size=0):t=⟨#[]⟩:=by
 obtain ⟨⟨l⟩⟩:=t
 have:l.length=0:=h
 rw [List.eq_nil_of_length_eq_zero this]
theorem str_some {t:ByteArray} (h:¬ t.size=0):t.toList.isEmpty=false:=by
 rw [ByteArray.toList_eq]
 cases hl:t.data.toList with
 | nil=>exact absurd (by rw [← cT,hl];rfl) h
 | cons c r=>rfl
end Go.Proofs.YtaioaojfdngfdaaGreatDoor
