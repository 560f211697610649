/- Parts of a chain of lemmas: Num, Par1, Par2. Conditions: those of each theorem. -/
import Derived.Test.YtaioaojfdngfdaaGreatDoorPg16
import Derived.Test.YtaioaojfdngfdaaGreatDoorPg05
import Derived.Test.YtaioaojfdngfdaaGreatDoorPg15
import Derived.BigRegion
set_option linter.unusedVariables false
set_option linter.unusedSimpArgs false
set_option maxHeartbeats 6400000
namespace Go.Proofs.YtaioaojfdngfdaaGreatDoor
open Go.RowKit
def iM (L:List UInt8):Bool:=L.all dC && !(decide (L.length=0) || (decide (1 < L.length) && decide (atB L 0=48)))
theorem zero_is {s:ByteArray} (h:s.data.toList=[48]):(s.toList == [48])=true:=by
 rw [ByteArray.toList_eq,h]
 rfl
theorem zero_ne {s:ByteArray} (h:s.data.toList≠[48]):(s.toList == [48])=false:=by
 rw [ByteArray.toList_eq]
 exact beq_eq_false_iff_ne.2 h
theorem one_byte {L:List UInt8} (h:L.length=1) (h0:atB L 0=48):L=[48]:=by
 match L,h with
 | [a],_=>unfold atB at h0;simp at h0;rw [h0]
set_option maxRecDepth 100000 in
theorem tplain_c (s:ByteArray) (w:World) (hs:s.size≤1000000000):Calls Tryz.prog 205 #[.string s] w fun e w'=>e=.returned (.bool (iM s.data.toList))∧w'=w:=by
 obtain ⟨L,hL⟩:∃ L,L=s.data.toList:=⟨_,rfl⟩
 have hLn:L.length=s.size:=by rw [hL];simp
 have HAt:=hide (show ∀ k (h:k < s.size),s[k]'h=atB L k from fun k h=>by rw [hL];exact byte_at s k h)
 have HNo:=hide (show ∀ k,k < s.size→dC (atB L k)=false→L.all dC=false from fun k h h2=>by
  have hm:atB L k ∈ L:=by unfold atB;rw [List.getD_eq_getElem?_getD,List.getElem?_eq_getElem (by omega)];exact List.getElem_mem _
  cases hh:L.all dC with
  | false=>rfl
  | true=>rw [List.all_eq_true.1 hh _ hm] at h2;cases h2)
 have HAll:=hide (show (∀ k,k < s.size→dC (atB L k)=true)→L.all dC=true from fun h=>List.all_eq_true.2 fun x hx=>by
  obtain ⟨i,hi,rfl⟩:=List.getElem_of_mem hx
  have:=h i (by omega)
  unfold atB at this
  rw [List.getD_eq_getElem?_getD,List.getElem?_eq_getElem hi] at this
  exact this)
 have HP:=hide (show iM L=(L.all dC && !(decide (s.size=0) || (decide (1 < s.size) && decide (atB L 0=48)))) by unfold iM;rw [hLn])
 have HZ:=hide (show L=[48]→(s.toList == [48])=true from fun h=>zero_is (by rw [← hL];exact h))
 have HL1:=hide (show L=[48]→s.size=1 from fun h=>by rw [← hLn,h];rfl)
 have HZn:=hide (show L≠[48]→(s.toList == [48])=false from fun h=>zero_ne (by rw [← hL];exact h))
 have HOne:=hide (show s.size=1→atB L 0=48→L=[48] from fun h=>one_byte (by omega))
 rw [← hL]
 obtain ⟨t,ht⟩:∃ t,t=iM L:=⟨_,rfl⟩
 rw [← ht] at HP ⊢
 clear hL ht hLn
 by_cases hz:s.size=0
 case pos =>
  have HE:=hide (show t=false by rw [HP.out,hz];simp)
  obtain rfl:=fE hz
  clear hz
  go_enter Tryz.func205,Tryz.ntmps205
  go_wp2_with fail
  go_loop [3,6] (fun _ i=>i=.int .i64 0) (fun _ i=>0)
  case atStart=>rfl
  case round =>
   subst hrel
   go_wp2_with fail
   go_ret
   exact ⟨by rw [HE.out];rfl,rfl⟩
 case neg =>
  have hne:=str_some hz
  have h0:0 < s.size:=by omega
  go_enter Tryz.func205,Tryz.ntmps205
  go_wp2_with fail
  go_loop [3,6] (fun _ i=>∃ k:Nat,k≤s.size∧i=.int .i64 k∧Hid (∀ j,j < k→dC (atB L j)=true)) (fun _ i=>s.size - (intOf i).toNat)
  case atStart=>exact ⟨0,Nat.zero_le _,rfl,hide (fun j hj=>absurd hj (by omega))⟩
  case round =>
   obtain ⟨k,hk,rfl,hall⟩:=hrel
   have w1:IntKind.i64.wrap ((k:Int) + 1)=(k:Int) + 1:=IntWalk.i64_in _ (by omega)
   by_cases hlt:k < s.size
   case neg =>
    have e1:decide ((k:Int) < (s.size:Int))=false:=by simp;omega
    have e2:decide (k < s.size)=false:=by simp;omega
    have hda:=HAll.out (fun j hj=>hall.out j (by omega))
    have HA0:=hide (HAt.out 0 h0)
    have hc0:((s[0]'h0).toNat:Int)=((atB L 0).toNat:Int):=by rw [HA0.out]
    have HP2:=hide (show t = !(decide (s.size=0) || (decide (1 < s.size) && decide (atB L 0=48))) by rw [HP.out,hda,Bool.true_and])
    clear HP hda hall
    by_cases h48:atB L 0=48
    case pos =>
     by_cases h1:s.size=1
     case pos =>
      have HE:=hide (show t=true by rw [HP2.out,h1];simp)
      have hL1:=HOne.out h1 h48
      have q0:=HZ.out hL1
      clear hL1 h48 h1 hz hc0 HA0 hlt hk h0 hne
      go_wp2_with fail
      go_ret
      exact ⟨by rw [HE.out];rfl,rfl⟩
     case neg =>
      have HE:=hide (show t=false by rw [HP2.out,h48];simp;omega)
      have q0:=HZn.out (fun h=>h1 (HL1.out h))
      have q1:(((atB L 0).toNat:Int) != 48)=false:=by rw [h48];rfl
      clear h48 h1 hz hlt HA0
      go_wp2_with fail
      go_ret
      exact ⟨by rw [HE.out];rfl,rfl⟩
    case neg =>
     have HE:=hide (show t=true by rw [HP2.out,decide_eq_false hz,decide_eq_false h48,Bool.and_false];rfl)
     have q0:=HZn.out (fun h=>by rw [h] at h48;exact h48 rfl)
     have q1:(((atB L 0).toNat:Int) != 48)=true:=by
      rw [bne_iff_ne]
      intro h
      exact h48 (UInt8.toNat_inj.1 (by have:(atB L 0).toNat=48:=by omega
                                       rw [this];rfl))
     clear h48 hz hlt HA0
     go_wp2_with fail
     go_ret
     exact ⟨by rw [HE.out];rfl,rfl⟩
   case pos =>
    have e1:decide ((k:Int) < (s.size:Int))=true:=by simp;omega
    have e2:decide (k < s.size)=true:=by simp;omega
    have j1:(0:Int)≤(k:Int):=by omega
    have j2:(k:Int) < (s.size:Int):=by omega
    have HA:=hide (HAt.out k hlt)
    obtain ⟨c,hc⟩:∃ c,c=(atB L k).toNat:=⟨_,rfl⟩
    have hck:((s[k]'hlt).toNat:Int)=(c:Int):=by rw [HA.out,hc]
    have HDg:=hide (show dC (atB L k)=(decide (48≤c) && decide (c≤57)) by unfold dC;rw [hc])
    clear hc
    by_cases hd:48≤c∧c≤57
    case neg =>
     have hno:=HNo.out k hlt (by rw [HDg.out];simp;omega)
     have HE:=hide (show t=false by rw [HP.out,hno,Bool.false_and])
     clear hno
     by_cases h48:c < 48
     case pos =>
      have q1:decide ((c:Int) < 48)=true:=by simp;omega
      clear h48 hd
      go_wp2_with fail
      go_ret
      exact ⟨by rw [HE.out];rfl,rfl⟩
     case neg =>
      have q1:decide ((c:Int) < 48)=false:=by simp;omega
      have q2:decide ((57:Int) < (c:Int))=true:=by simp;omega
      clear h48 hd
      go_wp2_with fail
      go_ret
      exact ⟨by rw [HE.out];rfl,rfl⟩
    case pos =>
     have q1:decide ((c:Int) < 48)=false:=by simp;omega
     have q2:decide ((57:Int) < (c:Int))=false:=by simp;omega
     have HN:=hide (show ∀ j,j < k + 1→dC (atB L j)=true from fun j hj=>by
      by_cases e:j=k
      ·subst e;rw [HDg.out];simp;omega
      ·exact hall.out j (by omega))
     go_wp2_with fail
     go_round
     case rel=>exact ⟨k + 1,by omega,by go_num,HN⟩
     case measure=>simp [intOf];omega
def ErrV (w:World):Prop:=∃ ev,w.cell? ⟨8,0,none⟩=some ev∧(ev=.nilIface∨∃ te pe,ev=.iface te pe)
theorem ErrV.below {w w':World} (h:ErrV w) (hb:Below w.heap.size w w'):ErrV w':=by
 obtain ⟨ev,h1,h2⟩:=h
 exact ⟨ev,wI hb h1,h2⟩
theorem sA {L:List UInt8} (hn:L≠cK) (hp:iM L=false):cZ L=(0,2):=by
 unfold cZ
 rw [if_neg hn]
 unfold iM at hp
 by_cases h:L.length=0∨(1 < L.length∧atB L 0=48)
 ·rw [if_pos h]
 ·rw [if_neg h]
  have h1:(decide (L.length=0) || (decide (1 < L.length) && decide (atB L 0=48)))=false:=by
   rw [← Bool.not_eq_true]
   intro hh
   apply h
   simpa using hh
  rw [h1] at hp
  rw [if_pos (by simpa using hp)]
theorem qV {L:List UInt8} (hn:L≠cK) (hp:iM L=true):L.all dC=true∧L≠[]∧cZ L=if 9223372036854775807≤bB 0 L then (0,12) else (((bB 0 L:Nat):Int),0):=by
 unfold iM at hp
 rw [Bool.and_eq_true] at hp
 obtain ⟨h1,h2⟩:=hp
 have h3:¬ (L.length=0∨(1 < L.length∧atB L 0=48)):=by
  rintro (h | ⟨h,h'⟩)
  ·rw [decide_eq_true h] at h2;simp at h2
  ·rw [decide_eq_true h,decide_eq_true h'] at h2;simp at h2
 refine ⟨h1,fun h=>h3 (Or.inl (by rw [h];rfl)),?_⟩
 unfold cZ
 rw [if_neg hn,if_neg h3,if_neg (by rw [h1];simp)]
set_option maxRecDepth 100000 in
theorem tick_c (s:ByteArray) (w:World) (hs:s.size≤1000000000) (hev:ErrV w):Calls Tryz.prog 180 #[.string s] w fun e w'=>e=.returned (.tuple #[.int .i64 (cZ s.data.toList).1,.int .i64 (cZ s.data.toList).2])∧Below w.heap.size w w':=by
 by_cases hn:s.data.toList=cK
 case pos =>
  have HE:=hide (show cZ s.data.toList=(9223372036854775807,0) by unfold cZ;rw [if_pos hn])
  obtain rfl:=sT hn
  clear hn
  go_enter Tryz.func180,Tryz.ntmps180
  go_wp2_with fail
  refine bodyPost_ret (v:=.tuple #[.int .i64 9223372036854775807,.int .i64 0]) (by simp [results,Tryz.results180,go_sem];try rfl) rfl ?_
  exact ⟨by rw [HE.out];rfl,Below.refl _ _⟩
 case neg =>
  have hnv:=oC hn
  obtain ⟨L,hL⟩:∃ L,L=s.data.toList:=⟨_,rfl⟩
  have hLn:L.length=s.size:=by rw [hL];simp
  have HC:=hide (fun w=>tplain_c s w hs)
  have HOk:=hide (fun v h w=>Tryz.strconv_ParseInt_10_at64_ok s (by omega) v h w)
  have HRg:=hide (fun h ev w hv hev=>Tryz.strconv_ParseInt_10_at64_range s (by omega) h ev w hv hev)
  rw [← hL] at hn ⊢ HC HOk HRg
  cases hp:iM L with
  | false =>
   have HE:=hide (sA hn hp)
   rw [hp] at HC
   clear hL hn hp
   go_enter Tryz.func180,Tryz.ntmps180
   go_wp2_with (go_at_call 205;refine (HC.out _).mono ?_;rintro e wq ⟨rfl,hwq⟩;rw [hwq];clear hwq)
   refine bodyPost_ret (v:=.tuple #[.int .i64 0,.int .i64 2]) (by simp [results,Tryz.results180,go_sem];try rfl) rfl ?_
   exact ⟨by rw [HE.out];rfl,Below.refl _ _⟩
  | true =>
   obtain ⟨hall,hne,hE⟩:=qV hn hp
   have hI:=intB_val L hall hne
   rw [hp] at HC
   by_cases hv:bB 0 L < 9223372036854775808
   case pos =>
    rw [if_pos hv] at hI
    have HO:=hide (HOk.out _ hI)
    by_cases hm:bB 0 L=9223372036854775807
    case pos =>
     rw [if_pos (by omega)] at hE
     have HE:=hide hE
     rw [hm] at HO
     have q1:(((9223372036854775807:Nat):Int) == 9223372036854775807)=true:=rfl
     clear hE hI hn hp hall hne hv hm hL HRg HOk
     go_enter Tryz.func180,Tryz.ntmps180
     go_wp2_with (first
      | (go_at_call 205;refine (HC.out _).mono ?_;rintro e wq ⟨rfl,hwq⟩;rw [hwq];clear hwq)
      | (go_at_call 206;refine (HO.out _).mono ?_;rintro e wq ⟨rfl,hwq⟩))
     refine bodyPost_ret (v:=.tuple #[.int .i64 0,.int .i64 12]) (by simp [results,Tryz.results180,go_sem];try rfl) rfl ?_
     refine ⟨by rw [HE.out];rfl,?_⟩
     rcases hwq with rfl | ⟨t,rfl⟩
     ·exact Below.refl _ _
     ·exact Lib.bytesWorld_below _ _ _
    case neg =>
     rw [if_neg (by omega)] at hE
     have HE:=hide hE
     obtain ⟨m,hmm⟩:∃ m,m=bB 0 L:=⟨_,rfl⟩
     rw [← hmm] at HO HE hm
     have q1:((m:Int) == 9223372036854775807)=false:=beq_eq_false_iff_ne.2 (by omega)
     clear hE hI hn hp hall hne hv hm hL HRg HOk hmm
     go_enter Tryz.func180,Tryz.ntmps180
     go_wp2_with (first
      | (go_at_call 205;refine (HC.out _).mono ?_;rintro e wq ⟨rfl,hwq⟩;rw [hwq];clear hwq)
      | (go_at_call 206;refine (HO.out _).mono ?_;rintro e wq ⟨rfl,hwq⟩))
     refine bodyPost_ret (v:=.tuple #[.int .i64 m,.int .i64 0]) (by simp [results,Tryz.results180,go_sem];try rfl) rfl ?_
     refine ⟨by rw [HE.out];rfl,?_⟩
     rcases hwq with rfl | ⟨t,rfl⟩
     ·exact Below.refl _ _
     ·exact Lib.bytesWorld_below _ _ _
   case neg =>
    rw [if_neg hv] at hI
    rw [if_pos (by omega)] at hE
    have HE:=hide hE
    obtain ⟨ev,hv1,hv2⟩:=hev
    have HR:=hide (HRg.out hI ev w hv1 hv2)
    obtain ⟨sat,hsat⟩:∃ x,x=Lib.intSat 64 L:=⟨_,rfl⟩
    rw [← hsat] at HR
    clear hE hI hn hp hall hne hv hL HRg HOk hv1 hv2 hsat
    go_enter Tryz.func180,Tryz.ntmps180
    go_wp2_with (first
     | (go_at_call 205;refine (HC.out _).mono ?_;rintro e wq ⟨rfl,hwq⟩;rw [hwq];clear hwq)
     | (go_at_call 206;refine HR.out.mono ?_;rintro e wq ⟨N,rfl,_,_,hbel⟩))
    refine bodyPost_ret (v:=.tuple #[.int .i64 0,.int .i64 12]) (by simp [results,Tryz.results180,go_sem];try rfl) rfl ?_
    exact ⟨by rw [HE.out];rfl,hbel⟩
set_option maxRecDepth 100000 in
theorem number_c (s:ByteArray) (most:Int) (w:World) (hs:s.size≤1000000000) (hev:ErrV w):Calls Tryz.prog 146 #[.string s,.int .i64 most] w fun e w'=>e=.returned (.tuple #[.int .i64 (bK s.data.toList most).1,.int .i64 (bK s.data.toList most).2])∧Below w.heap.size w w':=by
 have HC:=hide (tick_c s w hs hev)
 have HN:=hide (show bK s.data.toList most=if (cZ s.data.toList).2=0∧most≠9223372036854775807∧most < (cZ s.data.toList).1 then (0,12) else cZ s.data.toList from rfl)
 obtain ⟨r,hr⟩:∃ r,r=bK s.data.toList most:=⟨_,rfl⟩
 obtain ⟨t,ht⟩:∃ t,t=cZ s.data.toList:=⟨_,rfl⟩
 rw [← hr] at HN ⊢
 rw [← ht] at HN HC
 clear hr ht hev
 obtain ⟨tv,te⟩:=t
 simp only at HN HC
 go_enter Tryz.func146,Tryz.ntmps146
 by_cases h0:te=0
 case neg =>
  have HE:=hide (show r=(tv,te) by rw [HN.out,if_neg (fun h=>h0 h.1)])
  have q1:((te:Int) == 0)=false:=beq_eq_false_iff_ne.2 (by omega)
  clear h0
  go_wp2_with (go_at_call 180;refine HC.out.mono ?_;rintro e wq ⟨rfl,hbel⟩)
  refine bodyPost_ret (v:=.tuple #[.int .i64 tv,.int .i64 te]) (by simp [results,Tryz.results146,go_sem];try rfl) rfl ?_
  exact ⟨by rw [HE.out],hbel⟩
 case pos =>
  have q1:((te:Int) == 0)=true:=beq_iff_eq.2 (by omega)
  by_cases h1:most=9223372036854775807
  case pos =>
   have HE:=hide (show r=(tv,te) by rw [HN.out,if_neg (fun h=>h.2.1 h1)])
   have q2:(most != 9223372036854775807)=false:=by rw [h1];rfl
   clear h0 h1
   go_wp2_with (go_at_call 180;refine HC.out.mono ?_;rintro e wq ⟨rfl,hbel⟩)
   refine bodyPost_ret (v:=.tuple #[.int .i64 tv,.int .i64 te]) (by simp [results,Tryz.results146,go_sem];try rfl) rfl ?_
   exact ⟨by rw [HE.out],hbel⟩
  case neg =>
   have q2:(most != 9223372036854775807)=true:=bne_iff_ne.2 h1
   by_cases h2:most < tv
   case pos =>
    have HE:=hide (show r=(0,12) by rw [HN.out,if_pos ⟨h0,h1,h2⟩])
    have q3:decide (most < tv)=true:=decide_eq_true h2
    clear h0 h1 h2
    go_wp2_with (go_at_call 180;refine HC.out.mono ?_;rintro e wq ⟨rfl,hbel⟩)
    refine bodyPost_ret (v:=.tuple #[.int .i64 0,.int .i64 12]) (by simp [results,Tryz.results146,go_sem];try rfl) rfl ?_
    exact ⟨by rw [HE.out];rfl,hbel⟩
   case neg =>
    have HE:=hide (show r=(tv,te) by rw [HN.out,if_neg (fun h=>h2 h.2.2)])
    have q3:decide (most < tv)=false:=decide_eq_false h2
    clear h0 h1 h2
    go_wp2_with (go_at_call 180;refine HC.out.mono ?_;rintro e wq ⟨rfl,hbel⟩)
    refine bodyPost_ret (v:=.tuple #[.int .i64 tv,.int .i64 te]) (by simp [results,Tryz.results146,go_sem];try rfl) rfl ?_
    exact ⟨by rw [HE.out],hbel⟩
set_option maxRecDepth 100000 in
theorem gQ (s:ByteArray) (most:Int) (w:World) (hs:s.size≤1000000000):Calls Tryz.prog 152 #[.string s,.int .i64 most] w fun e w'=>e=.returned (.tuple #[.int .i64 (bK s.data.toList most).1,.int .i64 (bK s.data.toList most).2])∧w'=w:=by
 have HC:=hide (wV s w hs)
 have HN:=hide (show bK s.data.toList most=if (cZ s.data.toList).2=0∧most≠9223372036854775807∧most < (cZ s.data.toList).1 then (0,12) else cZ s.data.toList from rfl)
 obtain ⟨r,hr⟩:∃ r,r=bK s.data.toList most:=⟨_,rfl⟩
 obtain ⟨t,ht⟩:∃ t,t=cZ s.data.toList:=⟨_,rfl⟩
 rw [← hr] at HN ⊢
 rw [← ht] at HN HC
 clear hr ht
 obtain ⟨tv,te⟩:=t
 simp only at HN HC
 go_enter Tryz.func152,Tryz.ntmps152
 by_cases h0:te=0
 case neg =>
  have HE:=hide (show r=(tv,te) by rw [HN.out,if_neg (fun h=>h0 h.1)])
  have q1:((te:Int) == 0)=false:=beq_eq_false_iff_ne.2 (by omega)
  clear h0
  go_wp2_with (go_at_call 185;refine HC.out.mono ?_;rintro e wq ⟨rfl,hwq⟩;rw [hwq];clear hwq)
  refine bodyPost_ret (v:=.tuple #[.int .i64 tv,.int .i64 te]) (by simp [results,Tryz.results152,go_sem];try rfl) rfl ?_
  exact ⟨by rw [HE.out],rfl⟩
 case pos =>
  have q1:((te:Int) == 0)=true:=beq_iff_eq.2 (by omega)
  by_cases h1:most=9223372036854775807
  case pos =>
   have HE:=hide (show r=(tv,te) by rw [HN.out,if_neg (fun h=>h.2.1 h1)])
   have q2:(most != 9223372036854775807)=false:=by rw [h1];rfl
   clear h0 h1
   go_wp2_with (go_at_call 185;refine HC.out.mono ?_;rintro e wq ⟨rfl,hwq⟩;rw [hwq];clear hwq)
   refine bodyPost_ret (v:=.tuple #[.int .i64 tv,.int .i64 te]) (by simp [results,Tryz.results152,go_sem];try rfl) rfl ?_
   exact ⟨by rw [HE.out],rfl⟩
  case neg =>
   have q2:(most != 9223372036854775807)=true:=bne_iff_ne.2 h1
   by_cases h2:most < tv
   case pos =>
    have HE:=hide (show r=(0,12) by rw [HN.out,if_pos ⟨h0,h1,h2⟩])
    have q3:decide (most < tv)=true:=decide_eq_true h2
    clear h0 h1 h2
    go_wp2_with (go_at_call 185;refine HC.out.mono ?_;rintro e wq ⟨rfl,hwq⟩;rw [hwq];clear hwq)
    refine bodyPost_ret (v:=.tuple #[.int .i64 0,.int .i64 12]) (by simp [results,Tryz.results152,go_sem];try rfl) rfl ?_
    exact ⟨by rw [HE.out];rfl,rfl⟩
   case neg =>
    have HE:=hide (show r=(tv,te) by rw [HN.out,if_neg (fun h=>h2 h.2.2)])
    have q3:decide (most < tv)=false:=decide_eq_false h2
    clear h0 h1 h2
    go_wp2_with (go_at_call 185;refine HC.out.mono ?_;rintro e wq ⟨rfl,hwq⟩;rw [hwq];clear hwq)
    refine bodyPost_ret (v:=.tuple #[.int .i64 tv,.int .i64 te]) (by simp [results,Tryz.results152,go_sem];try rfl) rfl ?_
    exact ⟨by rw [HE.out],rfl⟩
structure Fr where
 a0:Value
 a1:Value
 a2:Value
 a3:Value
 a4:Value
 a5:Value
 a6:Value
 a7:Value
 a8:Value
 a9:Value
 line:Int
 wA:Option Addr
 ws:List WordM
 wc:Nat
 width:Int
def pvV (f:Fr) (s:St):Array Value:=#[f.a0,f.a1,f.a2,f.a3,f.a4,f.a5,f.a6,f.a7,f.a8,f.a9,.int .i64 f.line,.slice f.wA f.ws.length f.wc,.int .i64 f.width,.int .i64 s.nx,.int .i64 s.sl,.int .i64 s.sc,.int .i64 s.bad]
structure FrOk (f:Fr):Prop where
 len:f.ws.length≤1000000000
 at_:∀ x ∈ f.ws,x.at_≤1000000000
 txt:∀ x ∈ f.ws,x.text.length≤1000000000
 lo:0≤f.width
 hi:f.width≤1000000000
abbrev PBlk (w:World) (a:Nat) (f:Fr) (s:St):Prop:=Blk w a 76 (pvV f s)
theorem PBlk.cells {w:World} {a:Nat} {f:Fr} {s:St} (h:PBlk w a f s) :
 w.cell? ⟨a,10,none⟩=some (.int .i64 f.line)∧w.cell? ⟨a,11,none⟩=some (.slice f.wA f.ws.length f.wc)∧w.cell? ⟨a,12,none⟩=some (.int .i64 f.width)∧w.cell? ⟨a,13,none⟩=some (.int .i64 s.nx) ∧
 w.cell? ⟨a,14,none⟩=some (.int .i64 s.sl)∧w.cell? ⟨a,15,none⟩=some (.int .i64 s.sc)∧w.cell? ⟨a,16,none⟩=some (.int .i64 s.bad) :=
 ⟨by rw [h.cell];rfl,by rw [h.cell];rfl,by rw [h.cell];rfl,by rw [h.cell];rfl,by rw [h.cell];rfl,by rw [h.cell];rfl,by rw [h.cell];rfl⟩
theorem PBlk.fail {w:World} {a:Nat} {f:Fr} {s:St} (h:PBlk w a f s) (x y z:Int):PBlk (((w.setCell ⟨a,14,none⟩ (.int .i64 x)).setCell ⟨a,15,none⟩ (.int .i64 y)).setCell ⟨a,16,none⟩ (.int .i64 z)) a f ⟨s.nx,x,y,z⟩:=((h.set_ 14 _).set_ 15 _).set_ 16 _
theorem PBlk.next {w:World} {a:Nat} {f:Fr} {s:St} (h:PBlk w a f s) (k:Nat):PBlk (w.setCell ⟨a,13,none⟩ (.int .i64 k)) a f ⟨k,s.sl,s.sc,s.bad⟩:=h.set_ 13 _
theorem cG {w w':World} {a:Nat} (h:Only (· = a) w w') (i:Nat) (v:Value):Only (· = a) w (w'.setCell ⟨a,i,none⟩ v):=Only.setCell (S:=(· = a)) h (Or.inl rfl) v
set_option maxRecDepth 100000 in
theorem eA (a:Nat) (f:Fr) (s:St) (col e:Int) (w:World) (h:PBlk w a f s) (hc0:0≤col) (hc1:col≤1000000000):Calls Tryz.prog 39 #[.pointer (some ⟨a,0,none⟩),.int .i64 col,.int .i64 e] w fun x w'=>x=.returned (.tuple #[])∧PBlk w' a f (bE f.line s col e)∧Only (· = a) w w':=by
 obtain ⟨c10,c11,c12,c13,c14,c15,c16⟩:=h.cells
 have f14:=Blk.frozen h 14
 have f15:=Blk.frozen h 15
 have f16:=Blk.frozen h 16
 have H:=hide h
 have w1:IntKind.i64.wrap (col + 1)=col + 1:=IntWalk.i64_in _ (by omega)
 have HF:=hide (show bE f.line s col e=if s.bad=0 then ⟨s.nx,f.line,col + 1,e⟩ else s from rfl)
 obtain ⟨t,ht⟩:∃ t,t=bE f.line s col e:=⟨_,rfl⟩
 rw [← ht] at HF ⊢
 clear ht h
 by_cases h0:s.bad=0
 case pos =>
  have HE:=hide (show t=⟨s.nx,f.line,col + 1,e⟩ by rw [HF.out,if_pos h0])
  have q:(s.bad == 0)=true:=beq_iff_eq.2 h0
  clear h0
  go_enter Tryz.func39,Tryz.ntmps39
  go_wp2_with fail
  go_end0
  refine ⟨rfl,?_,?_⟩
  ·rw [HE.out];exact H.out.fail _ _ _
  ·exact cG (cG (cG (Only.refl _ w) _ _) _ _) _ _
 case neg =>
  have HE:=hide (show t=s by rw [HF.out,if_neg h0])
  have q:(s.bad == 0)=false:=beq_eq_false_iff_ne.2 h0
  clear h0
  go_enter Tryz.func39,Tryz.ntmps39
  go_wp2_with fail
  go_end0
  refine ⟨rfl,?_,?_⟩
  ·rw [HE.out];exact H.out
  ·exact Only.refl _ w
theorem kL {w:World} {M:Nat→Prop} {A:Option Addr} {l:List WordM} (hr:Rd w M A (flat encW l)) (k:Nat) (hk:k < l.length):∃ b o,A=some ⟨b,o,none⟩∧¬ M b∧b < w.heap.size ∧
 w.cell? ⟨b,o + k * 3,none⟩=some (.string (bs (aC l k).text))∧w.cell? ⟨b,o + k * 3 + 1,none⟩=some (.bool (aC l k).quoted)∧w.cell? ⟨b,o + k * 3 + 2,none⟩=some (.int .i64 (aC l k).at_):=by
 obtain ⟨b,o,hA,hm,hb,hc⟩:=cR (n:=3) (enc:=encW) (fun _=>rfl) hr k _ (lZ hk) (by omega)
 exact ⟨b,o,hA,hm,hb,hc 0 (by omega),hc 1 (by omega),hc 2 (by omega)⟩
theorem PBlk.nextI {w:World} {a:Nat} {f:Fr} {s:St} (h:PBlk w a f s) {k:Nat} {v:Int} (hv:v=(k:Nat)):PBlk (w.setCell ⟨a,13,none⟩ (.int .i64 v)) a f ⟨k,s.sl,s.sc,s.bad⟩:=by subst hv;exact h.next k
theorem PBlk.allocd {w:World} {a:Nat} {f:Fr} {s:St} (h:PBlk w a f s) (o:Obj):PBlk (w.alloc o) a f s:=Blk.alloc h o
theorem pP {w wq V:World} {a:Nat} {f:Fr} {s:St} {T:TypeId} {x y z x' y' z':Value} (h:Blk wq w.heap.size T #[x,y,z]) (hb:PBlk wq a f s) (ho:Only (· = a) w wq) (ha:a < w.heap.size)
 (hV:((wq.setCell ⟨w.heap.size,0,none⟩ x').setCell ⟨w.heap.size,1,none⟩ y').setCell ⟨w.heap.size,2,none⟩ z'=V):Blk V w.heap.size T #[x',y',z']∧PBlk V a f s∧Only (· = a) w V:=by
 subst hV
 refine ⟨((h.set_ 0 _).set_ 1 _).set_ 2 _,((Blk.far hb (by simp;omega) _).far (by simp;omega) _).far (by simp;omega) _,?_⟩
 exact Only.setCell (S:=(· = a)) (Only.setCell (S:=(· = a)) (Only.setCell (S:=(· = a)) ho (Or.inr (Nat.le_refl _)) _) (Or.inr (Nat.le_refl _)) _) (Or.inr (Nat.le_refl _)) _
theorem word_mid {w W:World} {a:Nat} {f:Fr} {s:St} {T T':TypeId} {x y z x' y' z':Value} (hb:PBlk w a f s)
 (hW:((w.alloc (.cells #[x,y,z] T)).alloc (.cells #[x',y',z'] T')).drew.drew=W):Blk W w.heap.size T #[x,y,z]∧Blk W (w.heap.size + 1) T' #[x',y',z']∧PBlk W a f s∧Only (· = a) w W:=by
 subst hW
 exact ⟨((Blk.new w T _).alloc _).drew.drew,(Blk.new' (by simp)).drew.drew,(Blk.alloc (Blk.alloc hb _) _).drew.drew,((((Only.refl _ w).alloc _).alloc _).drew).drew⟩
set_option maxRecDepth 100000 in
theorem nE (a:Nat) (f:Fr) (s:St) (q:Bool) (w:World) (h:PBlk w a f s) (hf:FrOk f) (hr:Rd w (· = a) f.wA (flat encW f.ws)) (hnx:s.nx≤1000000000) :
 Calls Tryz.prog 112 #[.pointer (some ⟨a,0,none⟩),.bool q] w fun e w' =>
  e=.returned (.tuple #[.agg #[.string (bs (aJ f.line f.width f.ws s q).1.1.text),.bool (aJ f.line f.width f.ws s q).1.1.quoted,.int .i64 (aJ f.line f.width f.ws s q).1.1.at_],.bool (aJ f.line f.width f.ws s q).1.2]) ∧
  PBlk w' a f (aJ f.line f.width f.ws s q).2∧Only (· = a) w w':=by
 obtain ⟨c10,c11,c12,c13,c14,c15,c16⟩:=h.cells
 have hal:a < w.heap.size:=h.lt
 have f13:=Blk.frozen h 13
 have H:=hide h
 have HFl:=hide (fun (s:St) (col e:Int) (w:World) (h:PBlk w a f s) (hc0:0≤col) (hc1:col≤1000000000)=>eA a f s col e w h hc0 hc1)
 have HS:=hide (show aJ f.line f.width f.ws s q=(if s.bad≠0 then ((w0,false),s)
  else if f.ws.length≤s.nx then ((w0,false),⟨s.nx,f.line,f.width + 1,3⟩)
  else if (aC f.ws s.nx).quoted≠q then ((aC f.ws s.nx,false),⟨s.nx + 1,f.line,(aC f.ws s.nx).at_ + 1,2⟩)
  else ((aC f.ws s.nx,true),⟨s.nx + 1,s.sl,s.sc,s.bad⟩)) from rfl)
 obtain ⟨R,hR⟩:∃ R,R=aJ f.line f.width f.ws s q:=⟨_,rfl⟩
 rw [← hR] at HS ⊢
 obtain ⟨⟨x,ok⟩,s2⟩:=R
 clear hR h
 simp only
 have hlen:=hf.len
 have hwid:=hf.lo
 have hwid2:=hf.hi
 obtain ⟨n,hn⟩:∃ n,n=f.ws.length:=⟨_,rfl⟩
 rw [← hn] at c11 HS hlen
 obtain ⟨nx,hnxe⟩:∃ nx,nx=s.nx:=⟨_,rfl⟩
 rw [← hnxe] at c13 HS hnx
 by_cases hb:s.bad=0
 case neg =>
  have HE:=hide (show ((x,ok),s2)=((w0,false),s) by rw [HS.out,if_pos hb])
  have q1:(s.bad != 0)=true:=bne_iff_ne.2 hb
  clear hb HS hr hf hn hnxe
  go_enter Tryz.func112,Tryz.ntmps112
  go_wp2_with fail
  refine bodyPost_ret (v:=.tuple #[.agg #[.string ⟨#[]⟩,.bool false,.int .i64 0],.bool false]) (by simp [results,Tryz.results112,go_sem];try rfl) rfl ?_
  have he:=HE.out
  injection he with h1 h2
  injection h1 with h3 h4
  refine ⟨by rw [h3,h4];rfl,by rw [h2];exact H.out.allocd _,(Only.refl _ w).alloc _⟩
 case pos =>
  have q1:(s.bad != 0)=false:=by rw [hb];rfl
  by_cases hend:n≤nx
  case pos =>
   have q2:decide ((n:Int)≤(nx:Int))=true:=by simp;omega
   have q3:decide (n≤nx)=true:=by simp;omega
   have HE:=hide (show ((x,ok),s2)=((w0,false),⟨s.nx,f.line,f.width + 1,3⟩) by rw [HS.out,if_neg (by simpa using hb),if_pos hend,hnxe])
   have HF:=hide (show bE f.line s f.width 3=⟨s.nx,f.line,f.width + 1,3⟩ by unfold bE;rw [if_pos hb])
   clear hb HS hr hf hn hnxe hend
   go_enter Tryz.func112,Tryz.ntmps112
   go_upto_region 3 with fail
   go_region
   go_wp2_with fail
   generalize hW:World.drew (w.alloc _)=W
   have hB:PBlk W a f s:=by rw [← hW];exact (H.out.allocd _).drew
   have hN:Blk W w.heap.size 128 #[.string ⟨#[]⟩,.bool false,.int .i64 0]:=by rw [← hW];exact (Blk.new _ _ _).drew
   have hO:Only (· = a) w W:=by rw [← hW];exact ((Only.refl _ w).alloc _).drew
   clear hW
   refine (HFl.out s f.width 3 _ hB hwid hwid2).mono ?_
   rintro e wq ⟨rfl,hb2,ho2⟩
   rw [HF.out] at hb2
   have HB2:=hide hb2
   have HO2:=hide (hO.trans ho2)
   have hN2:=hN.only ho2 (by omega)
   obtain ⟨⟨y0,y1,y2⟩,f0,f1,f2⟩:=hN2.three
   have HN2:=hide hN2
   clear hb2 ho2 hO hB hN hN2
   go_wp2_with fail
   generalize hV:World.setCell (World.setCell (World.setCell wq _ _) _ _) _ _=V
   obtain ⟨hN3,hB3,hO3⟩:=pP HN2.out HB2.out HO2.out hal hV
   obtain ⟨⟨y0,y1,y2⟩,_⟩:=hN3.three
   refine bodyPost_ret (v:=.tuple #[.agg #[.string ⟨#[]⟩,.bool false,.int .i64 0],.bool false]) (by simp [results,Tryz.results112,go_sem,y0,y1,y2];try rfl) rfl ?_
   have he:=HE.out
   injection he with h1 h2
   injection h1 with h3 h4
   exact ⟨by rw [h3,h4];rfl,by rw [h2];exact hB3,hO3⟩
  case neg =>
   have q2:decide ((n:Int)≤(nx:Int))=false:=by simp;omega
   have q3:decide (n≤nx)=false:=by simp;omega
   have j1:(0:Int)≤(nx:Int):=by omega
   have j2:(nx:Int) < (n:Int):=by omega
   have w1:IntKind.i64.wrap ((nx:Int) + 1)=(nx:Int) + 1:=IntWalk.i64_in _ (by omega)
   obtain ⟨b,o,hA,hba,hbl,k0,k1,k2⟩:=kL hr nx (by omega)
   have hat:=hf.at_ _ (eC (l:=f.ws) (k:=nx) (by omega))
   obtain ⟨y,hy⟩:∃ y,y=aC f.ws nx:=⟨_,rfl⟩
   rw [← hy] at k0 k1 k2 hat HS
   obtain ⟨yt,yq,ya⟩:=y
   simp only at k0 k1 k2 hat HS
   rw [hA] at c11
   replace HS:=hide (HS.out.trans ((if_neg (by simpa using hb)).trans (if_neg hend)))
   have Hnx:=hide hnxe
   have HB0:=hide hb
   clear hr hf hn hy hend hA hnxe hb
   go_enter Tryz.func112,Tryz.ntmps112
   go_upto_region 3 with fail
   go_region
   go_upto_region 6 with fail
   go_region
   generalize hW:World.drew (World.drew (World.alloc (World.alloc _ _) _))=W
   obtain ⟨hN,hX,hB,hO⟩:=word_mid H.out hW
   obtain ⟨⟨v0,v1,v2⟩,u0,u1,u2⟩:=hN.three
   obtain ⟨⟨x0,x1,x2⟩,_⟩:=hX.three
   obtain ⟨d10,d11,d12,d13,d14,d15,d16⟩:=hB.cells
   have e13:=Blk.frozen hB 13
   have hsz:=hN.lt
   have hsz2:=hX.lt
   have hsa:=hB.lt
   have HN:=hide hN
   have HX:=hide hX
   have HB:=hide hB
   have HO:=hide hO
   rw [← Hnx.out] at d13
   clear hW hN hX hB hO c10 c11 c12 c13 c14 c15 c16 f13
   by_cases hq:yq=q
   case neg =>
    have q4:(yq == q)=false:=beq_eq_false_iff_ne.2 hq
    have HE:=hide (show ((x,ok),s2)=((⟨yt,yq,ya⟩,false),⟨nx + 1,f.line,ya + 1,2⟩) by rw [HS.out,if_pos hq])
    clear hq HS
    go_wp2_with fail
    generalize hV:World.setCell _ _ _=V
    have hB2:PBlk V a f ⟨nx + 1,s.sl,s.sc,s.bad⟩:=by rw [← hV];exact HB.out.nextI (by omega)
    have hN2:Blk V w.heap.size 128 #[.string ⟨#[]⟩,.bool false,.int .i64 0]:=by rw [← hV];exact HN.out.far (by simp;omega) _
    have hX2:Blk V (w.heap.size + 1) 128 #[.string (bs yt),.bool yq,.int .i64 ya]:=by rw [← hV];exact HX.out.far (by simp;omega) _
    have hO2:Only (· = a) w V:=by rw [← hV];exact cG HO.out _ _
    clear hV
    refine (HFl.out _ ya 2 _ hB2 (by omega) (by omega)).mono ?_
    rintro e wq ⟨rfl,hb3,ho3⟩
    rw [show bE f.line ⟨nx + 1,s.sl,s.sc,s.bad⟩ ya 2=⟨nx + 1,f.line,(ya:Int) + 1,2⟩ by unfold bE;rw [HB0.out];rfl] at hb3
    have hN3:=hN2.only ho3 (by omega)
    have hX3:=hX2.only ho3 (by omega)
    obtain ⟨⟨z0,z1,z2⟩,t0,t1,t2⟩:=hN3.three
    obtain ⟨⟨r0,r1,r2⟩,_⟩:=hX3.three
    obtain ⟨b10,b11,b12,b13,b14,b15,b16⟩:=hb3.cells
    have HN3:=hide hN3
    have HB3:=hide hb3
    have HO3:=hide (hO2.trans ho3)
    clear hB2 hN2 hX2 hO2 hb3 ho3 hN3 hX3 v0 v1 v2 u0 u1 u2 x0 x1 x2 d10 d11 d12 d13 d14 d15 d16 e13 hsz hsz2 hsa
    have hsz3:=HN3.out.lt
    have hsa3:=HB3.out.lt
    go_upto_region 10 with fail
    go_region
    go_wp2_with fail
    generalize hV:World.setCell (World.setCell (World.setCell wq _ _) _ _) _ _=V
    obtain ⟨hN4,hB4,hO4⟩:=pP HN3.out HB3.out HO3.out hal hV
    have hN5:=hN4.drew
    obtain ⟨⟨y0,y1,y2⟩,_⟩:=hN5.three
    refine bodyPost_ret (v:=.tuple #[.agg #[.string (bs yt),.bool yq,.int .i64 ya],.bool false]) (by simp [results,Tryz.results112,go_sem,y0,y1,y2];try rfl) rfl ?_
    have he:=HE.out
    injection he with h1 h2
    injection h1 with h3 h4
    exact ⟨by rw [h3,h4],by rw [h2];exact hB4.drew,hO4.drew⟩
   case pos =>
    have q4:(yq == q)=true:=beq_iff_eq.2 hq
    have HE:=hide (show ((x,ok),s2)=((⟨yt,yq,ya⟩,true),⟨nx + 1,s.sl,s.sc,s.bad⟩) by rw [HS.out,if_neg (by simpa using hq)])
    clear hq HS
    go_upto_region 10 with fail
    generalize hV2:World.setCell _ _ _=V2
    have hB2:PBlk V2 a f ⟨nx + 1,s.sl,s.sc,s.bad⟩:=by rw [← hV2];exact HB.out.nextI (by omega)
    have hN2:Blk V2 w.heap.size 128 #[.string ⟨#[]⟩,.bool false,.int .i64 0]:=by rw [← hV2];exact HN.out.far (by simp;omega) _
    have hX2:Blk V2 (w.heap.size + 1) 128 #[.string (bs yt),.bool yq,.int .i64 ya]:=by rw [← hV2];exact HX.out.far (by simp;omega) _
    have hO2:Only (· = a) w V2:=by rw [← hV2];exact cG HO.out _ _
    obtain ⟨⟨z0,z1,z2⟩,t0,t1,t2⟩:=hN2.three
    obtain ⟨⟨r0,r1,r2⟩,_⟩:=hX2.three
    obtain ⟨b10,b11,b12,b13,b14,b15,b16⟩:=hB2.cells
    rw [HB0.out] at b16
    have HN3:=hide hN2
    have HB3:=hide hB2
    have HO3:=hide hO2
    clear hV2 hB2 hN2 hX2 hO2 v0 v1 v2 u0 u1 u2 x0 x1 x2 d10 d11 d12 d13 d14 d15 d16 e13 hsz hsz2 hsa
    have hsz3:=HN3.out.lt
    have hsa3:=HB3.out.lt
    go_region
    go_wp2_with fail
    generalize hV:World.setCell (World.setCell (World.setCell V2 _ _) _ _) _ _=V
    obtain ⟨hN4,hB4,hO4⟩:=pP HN3.out HB3.out HO3.out hal hV
    have hN5:=hN4.drew
    obtain ⟨⟨y0,y1,y2⟩,_⟩:=hN5.three
    refine bodyPost_ret (v:=.tuple #[.agg #[.string (bs yt),.bool yq,.int .i64 ya],.bool true]) (by simp [results,Tryz.results112,go_sem,y0,y1,y2];try rfl) rfl ?_
    have he:=HE.out
    injection he with h1 h2
    injection h1 with h3 h4
    exact ⟨by rw [h3,h4],by rw [h2];exact hB4.drew,hO4.drew⟩
end Go.Proofs.YtaioaojfdngfdaaGreatDoor
