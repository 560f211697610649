/- Parts of a chain of lemmas: RefNum, ShelfP. Conditions: those of each theorem. -/
import Derived.Test.YtaioaojfdngfdaaGreatDoorPg05
import Derived.Test.YtaioaojfdngfdaaGreatDoorPg15
import Derived.Shelf.Strconv.ParseIntPublic10
import Derived.Shelf.LaysC
import Derived.Shelf.LaysM
import Derived.Shelf.Strings.Split
import Derived.Ground.Names2Prog
import Derived.Test.YtaioaojfdngfdaaGreatDoorPg01
set_option linter.unusedVariables false
set_option linter.unusedSimpArgs false
set_option maxHeartbeats 6400000
namespace Go.Proofs.YtaioaojfdngfdaaGreatDoor
open Go.RowKit
theorem sT {s:ByteArray} (h:s.data.toList=cK):s=⟨#[110,101,118,101,114]⟩:=by
 apply rS
 rw [h]
 rfl
theorem oC {s:ByteArray} (h:s.data.toList≠cK):(s.toList == [110,101,118,101,114])=false:=by
 rw [ByteArray.toList_eq]
 exact beq_eq_false_iff_ne.2 h
set_option maxRecDepth 100000 in
theorem wV (s:ByteArray) (w:World) (hs:s.size≤1000000000):Calls Tryz.prog 185 #[.string s] w fun e w'=>e=.returned (.tuple #[.int .i64 (cZ s.data.toList).1,.int .i64 (cZ s.data.toList).2])∧w'=w:=by
 by_cases hn:s.data.toList=cK
 case pos =>
  have HE:=hide (show cZ s.data.toList=(9223372036854775807,0) by unfold cZ;rw [if_pos hn])
  obtain rfl:=sT hn
  clear hn
  go_enter Tryz.func185,Tryz.ntmps185
  go_wp2_with fail
  refine bodyPost_ret (v:=.tuple #[.int .i64 9223372036854775807,.int .i64 0]) (by simp [results,Tryz.results185,go_sem];try rfl) rfl ?_
  exact ⟨by rw [HE.out];rfl,rfl⟩
 case neg =>
  have hnv:=oC hn
  obtain ⟨L,hL⟩:∃ L,L=s.data.toList:=⟨_,rfl⟩
  have hLn:L.length=s.size:=by rw [hL];simp
  have HAt:=hide (show ∀ k (h:k < s.size),s[k]'h=atB L k from fun k h=>by rw [hL];exact byte_at s k h)
  rw [← hL] at hn ⊢
  have HT:=hide (show cZ L=(if s.size=0∨(1 < s.size∧atB L 0=48) then ((0:Int),(2:Nat)) else if L.all dC=false then (0,2) else if 9223372036854775807≤bB 0 L then (0,12) else (((bB 0 L:Nat):Int),0)) by unfold cZ;rw [if_neg hn,hLn])
  have HNo:=hide (show ∀ k,k < s.size→dC (atB L k)=false→L.all dC=false from fun k h h2=>by
   have hm:atB L k ∈ L:=by unfold atB;rw [List.getD_eq_getElem?_getD,List.getElem?_eq_getElem (by omega)];exact List.getElem_mem _
   cases hh:L.all dC with
   | false=>rfl
   | true=>rw [List.all_eq_true.1 hh _ hm] at h2;cases h2)
  have HAll:=hide (show (∀ k,k < s.size→dC (atB L k)=true)→L.all dC=true from fun h=>List.all_eq_true.2 fun x hx=>by
   obtain ⟨i,hi,rfl⟩:=List.getElem_of_mem hx
   have:=h i (by omega)
   unfold atB at this
   rw [List.getD_eq_getElem?_getD,List.getElem?_eq_getElem hi] at this
   exact this)
  have HVs:=hide (show ∀ k,k < s.size→bB 0 (L.take (k + 1))=10 * bB 0 (L.take k) + ((atB L k).toNat - 48) from fun k h=>qT L k (by omega))
  have HVe:=hide (show L.take s.size=L by rw [← hLn,List.take_length])
  obtain ⟨⟨tv,te⟩,hT⟩:∃ T,T=cZ L:=⟨_,rfl⟩
  rw [← hT] at HT ⊢
  simp only
  clear hL hT hLn hn
  by_cases hz:s.size=0
  case pos =>
   have HE:=hide (show ((tv,te):Int × Nat)=(0,2) by rw [HT.out,if_pos (Or.inl hz)])
   obtain rfl:=fE hz
   clear hz
   go_enter Tryz.func185,Tryz.ntmps185
   go_wp2_with fail
   refine bodyPost_ret (v:=.tuple #[.int .i64 0,.int .i64 2]) (by simp [results,Tryz.results185,go_sem];try rfl) rfl ?_
   have he:=HE.out
   injection he with h1 h2
   exact ⟨by rw [h1,h2];rfl,rfl⟩
  case neg =>
   have hne:=str_some hz
   have h0:0 < s.size:=by omega
   have HA0:=hide (HAt.out 0 h0)
   have hc0:((s[0]'h0).toNat:Int)=((atB L 0).toNat:Int):=by rw [HA0.out]
   by_cases hlz:1 < s.size∧atB L 0=48
   case pos =>
    have e1:decide ((1:Int) < (s.size:Int))=true:=by simp;omega
    have e2:decide (1 < s.size)=true:=by simp;omega
    have hc48:((atB L 0).toNat:Int)=48:=by rw [hlz.2];rfl
    have q1:(((atB L 0).toNat:Int) == 48)=true:=beq_iff_eq.2 hc48
    have HE:=hide (show ((tv,te):Int × Nat)=(0,2) by rw [HT.out,if_pos (Or.inr hlz)])
    clear hlz hz hc48
    go_enter Tryz.func185,Tryz.ntmps185
    go_wp2_with fail
    refine bodyPost_ret (v:=.tuple #[.int .i64 0,.int .i64 2]) (by simp [results,Tryz.results185,go_sem];try rfl) rfl ?_
    have he:=HE.out
    injection he with h1 h2
    exact ⟨by rw [h1,h2];rfl,rfl⟩
   case neg =>
    have HT2:=hide (show ((tv,te):Int × Nat)=(if L.all dC=false then ((0:Int),(2:Nat)) else if 9223372036854775807≤bB 0 L then (0,12) else (((bB 0 L:Nat):Int),0)) by rw [HT.out,if_neg (fun h=>h.elim hz hlz)])
    have hfr:¬ 1 < s.size∨(1 < s.size∧(atB L 0).toNat≠48):=by
     by_cases h:1 < s.size
     ·exact Or.inr ⟨h,fun h2=>hlz ⟨h,by apply UInt8.toNat_inj.1;rw [h2];rfl⟩⟩
     ·exact Or.inl h
    clear HT hlz hz
    go_enter Tryz.func185,Tryz.ntmps185
    go_upto_region 3 with fail
    go_cut [21] from 10 to 56 (fun v wx=>v=.bool false∧Hid (wx=w))
    case first =>
     rcases hfr with h | ⟨h,h2⟩
     ·have e1:decide ((1:Int) < (s.size:Int))=false:=by simp;omega
      have e2:decide (1 < s.size)=false:=by simp;omega
      clear h
      go_wp2_with fail
      go_meet
      exact ⟨rfl,hide (by first | rfl | trivial)⟩
     ·have e1:decide ((1:Int) < (s.size:Int))=true:=by simp;omega
      have e2:decide (1 < s.size)=true:=by simp;omega
      have q1:(((atB L 0).toNat:Int) == 48)=false:=beq_eq_false_iff_ne.2 (by omega)
      clear h h2
      go_wp2_with fail
      go_meet
      exact ⟨rfl,hide (by first | rfl | trivial)⟩
    case rest =>
     obtain ⟨rfl,hw⟩:=hcut
     rw [hw.out]
     clear hw hfr hc0 HA0
     go_wp2_with fail
     go_loopw [4,5,6] (fun n b i wr=>∃ (k m:Nat) (big:Bool),k≤s.size∧m≤9223372036854775806∧i=.int .i64 k∧n=.int .i64 m∧b=.bool big∧Hid (∀ j,j < k→dC (atB L j)=true)∧Hid (if big=true then 9223372036854775807≤bB 0 (L.take k) else bB 0 (L.take k)=m)∧Hid (wr=w)) (fun _ _ i _=>s.size - (intOf i).toNat)
     case atStart=>exact ⟨0,0,false,Nat.zero_le _,by omega,rfl,rfl,rfl,hide (fun j hj=>absurd hj (by omega)),hide (by rw [if_neg (by simp)];rfl),hide rfl⟩
     case round =>
      obtain ⟨k,m,big,hk,hm,rfl,rfl,rfl,hall,hv,hw⟩:=hrel
      rw [hw.out]
      clear hw
      have w1:IntKind.i64.wrap ((k:Int) + 1)=(k:Int) + 1:=IntWalk.i64_in _ (by omega)
      by_cases hlt:k < s.size
      case neg =>
       have hke:k=s.size:=by omega
       have e1:decide ((k:Int) < (s.size:Int))=false:=by simp;omega
       have e2:decide (k < s.size)=false:=by simp;omega
       have hda:=HAll.out (fun j hj=>hall.out j (by omega))
       have hv':=hv.out
       rw [hke,HVe.out] at hv'
       have HT3:=HT2.out
       rw [if_neg (by rw [hda];simp)] at HT3
       cases big with
       | true =>
        rw [if_pos rfl] at hv'
        rw [if_pos hv'] at HT3
        injection HT3 with h1 h2
        have HE:=hide (And.intro h1 h2)
        clear h1 h2 hv' hda hke HT2 hv
        go_wp2_with fail
        refine bodyPost_ret (v:=.tuple #[.int .i64 0,.int .i64 12]) (by simp [results,Tryz.results185,go_sem];try rfl) rfl ?_
        exact ⟨by rw [HE.out.1,HE.out.2];rfl,rfl⟩
       | false =>
        rw [if_neg (by simp)] at hv'
        rw [hv',if_neg (by omega)] at HT3
        injection HT3 with h1 h2
        have HE:=hide (And.intro h1 h2)
        clear h1 h2 hv' hda hke HT2 hv
        go_wp2_with fail
        refine bodyPost_ret (v:=.tuple #[.int .i64 m,.int .i64 0]) (by simp [results,Tryz.results185,go_sem];try rfl) rfl ?_
        exact ⟨by rw [HE.out.1,HE.out.2];rfl,rfl⟩
      case pos =>
       have e1:decide ((k:Int) < (s.size:Int))=true:=by simp;omega
       have e2:decide (k < s.size)=true:=by simp;omega
       have j1:(0:Int)≤(k:Int):=by omega
       have j2:(k:Int) < (s.size:Int):=by omega
       have HA:=hide (HAt.out k hlt)
       have HVk:=HVs.out k hlt
       obtain ⟨c,hc⟩:∃ c,c=(atB L k).toNat:=⟨_,rfl⟩
       have hck:((s[k]'hlt).toNat:Int)=(c:Int):=by rw [HA.out,hc]
       have HDg:=hide (show dC (atB L k)=(decide (48≤c) && decide (c≤57)) by unfold dC;rw [hc])
       rw [← hc] at HVk
       clear hc
       by_cases hd:48≤c∧c≤57
       case neg =>
        have hno:=HNo.out k hlt (by rw [HDg.out];simp;omega)
        have HT3:=HT2.out
        rw [if_pos hno] at HT3
        injection HT3 with h1 h2
        have HE:=hide (And.intro h1 h2)
        clear h1 h2 hno HT2 HVk
        by_cases h48:c < 48
        case pos =>
         have q1:decide ((c:Int) < 48)=true:=by simp;omega
         clear h48 hd
         go_wp2_with fail
         refine bodyPost_ret (v:=.tuple #[.int .i64 0,.int .i64 2]) (by simp [results,Tryz.results185,go_sem];try rfl) rfl ?_
         exact ⟨by rw [HE.out.1,HE.out.2];rfl,rfl⟩
        case neg =>
         have q1:decide ((c:Int) < 48)=false:=by simp;omega
         have q2:decide ((57:Int) < (c:Int))=true:=by simp;omega
         clear h48 hd
         go_wp2_with fail
         refine bodyPost_ret (v:=.tuple #[.int .i64 0,.int .i64 2]) (by simp [results,Tryz.results185,go_sem];try rfl) rfl ?_
         exact ⟨by rw [HE.out.1,HE.out.2];rfl,rfl⟩
       case pos =>
        have q1:decide ((c:Int) < 48)=false:=by simp;omega
        have q2:decide ((57:Int) < (c:Int))=false:=by simp;omega
        have HN:=hide (show ∀ j,j < k + 1→dC (atB L j)=true from fun j hj=>by
         by_cases e:j=k
         ·subst e;rw [HDg.out];simp;omega
         ·exact hall.out j (by omega))
        have hvv:=hv.out
        have HVh:=hide HVk
        cases big with
        | false =>
         rw [if_neg (by simp)] at hvv
         by_cases hov:(9223372036854775806 - ((c:Int) - 48)) / 10 < (m:Int)
         case pos =>
          have q3:decide ((9223372036854775806 - ((c:Int) - 48)) / 10 < (m:Int))=true:=decide_eq_true hov
          have HV2:=hide (show (if true=true then 9223372036854775807≤bB 0 (L.take (k + 1)) else bB 0 (L.take (k + 1))=m) by rw [if_pos rfl,HVk,hvv];omega)
          clear hov hvv HVk hv
          go_wp2_with fail
          go_roundw
          case rel=>exact ⟨k + 1,m,true,by omega,hm,by go_num,rfl,rfl,HN,HV2,hide (by first | rfl | trivial)⟩
          case measure=>simp [intOf];omega
         case neg =>
          have q3:decide ((9223372036854775806 - ((c:Int) - 48)) / 10 < (m:Int))=false:=decide_eq_false hov
          have hm2:10 * m + (c - 48)≤9223372036854775806:=by omega
          have HV2:=hide (show (if false=true then 9223372036854775807≤bB 0 (L.take (k + 1)) else bB 0 (L.take (k + 1))=10 * m + (c - 48)) by rw [if_neg (by simp),HVk,hvv])
          have w8:IntKind.i64.wrap (10 * (m:Int))=10 * (m:Int):=IntWalk.i64_in _ (by omega)
          have w9:IntKind.i64.wrap (10 * (m:Int) + ((c:Int) - 48))=10 * (m:Int) + ((c:Int) - 48):=IntWalk.i64_in _ (by omega)
          clear hov hvv HVk hv
          go_wp2_with fail
          go_roundw
          case rel=>exact ⟨k + 1,10 * m + (c - 48),false,by omega,hm2,by go_num,by congr 1;omega,rfl,HN,HV2,hide (by first | rfl | trivial)⟩
          case measure=>simp [intOf];omega
        | true =>
         rw [if_pos rfl] at hvv
         have HV2:=hide (show (if true=true then 9223372036854775807≤bB 0 (L.take (k + 1)) else bB 0 (L.take (k + 1))=m) by rw [if_pos rfl,HVk];omega)
         clear hvv HVk hv
         go_wp2_with fail
         go_roundw
         case rel=>exact ⟨k + 1,m,true,by omega,hm,by go_num,rfl,rfl,HN,HV2,hide (by first | rfl | trivial)⟩
         case measure=>simp [intOf];omega
end Go.Proofs.YtaioaojfdngfdaaGreatDoor
namespace Go.Proofs
open Go.Shelf
def Tryz.laysC174_ren:Go.Shelf.Ren:=⟨fun | 174=>206 | 247=>221 | 245=>222 | 287=>228 | 279=>229 | 280=>230 | 281=>231 | 282=>232 | 321=>241 | 322=>242 | 316=>243 | 171=>54 | 205=>244 | 243=>88 | 246=>128 | 283=>155 | 284=>156 | 285=>157 | 286=>158 | 129=>174 | 317=>187 | 318=>188 | 319=>189 | 320=>190 | 337=>216 | 338=>217 | n=>n,fun | 9=>9 | 3=>3 | 2=>2 | 75=>62 | 85=>270 | 4=>4 | 167=>303 | 5=>5 | 53=>224 | 175=>304 | 46=>213 | 168=>306 | 37=>47 | 0=>0 | 210=>316 | 21=>21 | 127=>176 | 145=>325 | 143=>323 | 171=>223 | 173=>227 | 212=>258 | 51=>239 | 20=>20 | 213=>259 | 232=>301 | 233=>302 | 80=>37 | n=>n,fun | 15=>7 | 16=>8 | 17=>1 | 18=>5 | 19=>6 | n=>n⟩
theorem Tryz.laysC174:Go.Proofs.LaysC.n174 Tryz.prog Tryz.laysC174_ren:={
 mixed:=by kernel_rfl
 f129:=Tryz.func174.trans (congrArg some (by kernel_rfl))
 f171:=Tryz.func54.trans (congrArg some (by kernel_rfl))
 f174:=Tryz.func206.trans (congrArg some (by kernel_rfl))
 f205:=Tryz.func244.trans (congrArg some (by kernel_rfl))
 f243:=Tryz.func88.trans (congrArg some (by kernel_rfl))
 f245:=Tryz.func222.trans (congrArg some (by kernel_rfl))
 f246:=Tryz.func128.trans (congrArg some (by kernel_rfl))
 f247:=Tryz.func221.trans (congrArg some (by kernel_rfl))
 f279:=Tryz.func229.trans (congrArg some (by kernel_rfl))
 f280:=Tryz.func230.trans (congrArg some (by kernel_rfl))
 f281:=Tryz.func231.trans (congrArg some (by kernel_rfl))
 f282:=Tryz.func232.trans (congrArg some (by kernel_rfl))
 f283:=Tryz.func155.trans (congrArg some (by kernel_rfl))
 f284:=Tryz.func156.trans (congrArg some (by kernel_rfl))
 f285:=Tryz.func157.trans (congrArg some (by kernel_rfl))
 f286:=Tryz.func158.trans (congrArg some (by kernel_rfl))
 f287:=Tryz.func228.trans (congrArg some (by kernel_rfl))
 f316:=Tryz.func243.trans (congrArg some (by kernel_rfl))
 f317:=Tryz.func187.trans (congrArg some (by kernel_rfl))
 f318:=Tryz.func188.trans (congrArg some (by kernel_rfl))
 f319:=Tryz.func189.trans (congrArg some (by kernel_rfl))
 f320:=Tryz.func190.trans (congrArg some (by kernel_rfl))
 f321:=Tryz.func241.trans (congrArg some (by kernel_rfl))
 f322:=Tryz.func242.trans (congrArg some (by kernel_rfl))
 f337:=Tryz.func216.trans (congrArg some (by kernel_rfl))
 f338:=Tryz.func217.trans (congrArg some (by kernel_rfl))
 t0:=Tryz.underlying0
 a0:=Tryz.isAgg0
 z0:=Tryz.sizeOf0
 v0:=Tryz.zeroValue0
 t2:=Tryz.underlying2
 a2:=Tryz.isAgg2
 z2:=Tryz.sizeOf2
 v2:=Tryz.zeroValue2
 t3:=Tryz.underlying3
 a3:=Tryz.isAgg3
 z3:=Tryz.sizeOf3
 v3:=Tryz.zeroValue3
 t4:=Tryz.underlying4
 a4:=Tryz.isAgg4
 z4:=Tryz.sizeOf4
 v4:=Tryz.zeroValue4
 t5:=Tryz.underlying5
 a5:=Tryz.isAgg5
 z5:=Tryz.sizeOf5
 v5:=Tryz.zeroValue5
 t9:=Tryz.underlying9
 a9:=Tryz.isAgg9
 z9:=Tryz.sizeOf9
 v9:=Tryz.zeroValue9
 t20:=Tryz.underlying20
 a20:=Tryz.isAgg20
 z20:=Tryz.sizeOf20
 v20:=Tryz.zeroValue20
 t21:=Tryz.underlying21
 a21:=Tryz.isAgg21
 z21:=Tryz.sizeOf21
 v21:=Tryz.zeroValue21
 t37:=Tryz.underlying47
 a37:=Tryz.isAgg47
 z37:=Tryz.sizeOf47
 v37:=Tryz.zeroValue47
 t46:=Tryz.underlying213
 a46:=Tryz.isAgg213
 z46:=Tryz.sizeOf213
 v46:=Tryz.zeroValue213
 t51:=Tryz.underlying239
 a51:=Tryz.isAgg239
 z51:=Tryz.sizeOf239
 v51:=Tryz.zeroValue239
 t53:=Tryz.underlying224
 a53:=Tryz.isAgg224
 z53:=Tryz.sizeOf224
 v53:=Tryz.zeroValue224
 t75:=Tryz.underlying62
 a75:=Tryz.isAgg62
 z75:=Tryz.sizeOf62
 v75:=Tryz.zeroValue62
 t85:=Tryz.underlying270
 a85:=Tryz.isAgg270
 z85:=Tryz.sizeOf270
 v85:=Tryz.zeroValue270
 t127:=Tryz.underlying176
 a127:=Tryz.isAgg176
 z127:=Tryz.sizeOf176
 v127:=Tryz.zeroValue176
 t143:=Tryz.underlying323
 a143:=Tryz.isAgg323
 z143:=Tryz.sizeOf323
 v143:=Tryz.zeroValue323
 t145:=Tryz.underlying325
 a145:=Tryz.isAgg325
 z145:=Tryz.sizeOf325
 v145:=Tryz.zeroValue325
 t167:=Tryz.underlying303
 a167:=Tryz.isAgg303
 z167:=Tryz.sizeOf303
 v167:=Tryz.zeroValue303
 t168:=Tryz.underlying306
 a168:=Tryz.isAgg306
 z168:=Tryz.sizeOf306
 v168:=Tryz.zeroValue306
 t171:=Tryz.underlying223
 a171:=Tryz.isAgg223
 z171:=Tryz.sizeOf223
 v171:=Tryz.zeroValue223
 t173:=Tryz.underlying227
 a173:=Tryz.isAgg227
 z173:=Tryz.sizeOf227
 v173:=Tryz.zeroValue227
 t175:=Tryz.underlying304
 a175:=Tryz.isAgg304
 z175:=Tryz.sizeOf304
 v175:=Tryz.zeroValue304
 t210:=Tryz.underlying316
 a210:=Tryz.isAgg316
 z210:=Tryz.sizeOf316
 v210:=Tryz.zeroValue316
 t212:=Tryz.underlying258
 a212:=Tryz.isAgg258
 z212:=Tryz.sizeOf258
 v212:=Tryz.zeroValue258
 t213:=Tryz.underlying259
 a213:=Tryz.isAgg259
 z213:=Tryz.sizeOf259
 t232:=Tryz.underlying301
 a232:=Tryz.isAgg301
 z232:=Tryz.sizeOf301
 v232:=Tryz.zeroValue301
 t233:=Tryz.underlying302
 a233:=Tryz.isAgg302
 z233:=Tryz.sizeOf302
 v233:=Tryz.zeroValue302
 g15:=by kernel_rfl
 g16:=by kernel_rfl
 g17:=by kernel_rfl
 g18:=by kernel_rfl
 g19:=by kernel_rfl
 t80:=Tryz.underlying37
 a80:=Tryz.isAgg37
 z80:=Tryz.sizeOf37
 v80:=Tryz.zeroValue37
 i0:=by kernel_rfl
 i2:=by kernel_rfl
 i3:=by kernel_rfl
 i4:=by kernel_rfl
 i5:=by kernel_rfl
 i9:=by kernel_rfl
 i20:=by kernel_rfl
 i21:=by kernel_rfl
 i37:=by kernel_rfl
 i46:=by kernel_rfl
 i51:=by kernel_rfl
 i53:=by kernel_rfl
 i75:=by kernel_rfl
 i80:=by kernel_rfl
 i85:=by kernel_rfl
 i127:=by kernel_rfl
 i143:=by kernel_rfl
 i145:=by kernel_rfl
 i167:=by kernel_rfl
 i168:=by kernel_rfl
 i171:=by kernel_rfl
 i173:=by kernel_rfl
 i175:=by kernel_rfl
 i210:=by kernel_rfl
 i212:=by kernel_rfl
 i232:=by kernel_rfl
 i233:=by kernel_rfl
 m15:=by kernel_rfl
 m16:=by kernel_rfl
 m17:=by kernel_rfl
 m18:=by kernel_rfl
 m19:=by kernel_rfl
 c0:=by kernel_rfl
 c2:=by kernel_rfl
 c3:=by kernel_rfl
 c4:=by kernel_rfl
 c5:=by kernel_rfl
 c9:=by kernel_rfl
 c20:=by kernel_rfl
 c21:=by kernel_rfl
 c37:=by kernel_rfl
 c46:=by kernel_rfl
 c51:=by kernel_rfl
 c53:=by kernel_rfl
 c75:=by kernel_rfl
 c80:=by kernel_rfl
 c85:=by kernel_rfl
 c127:=by kernel_rfl
 c143:=by kernel_rfl
 c145:=by kernel_rfl
 c167:=by kernel_rfl
 c168:=by kernel_rfl
 c171:=by kernel_rfl
 c173:=by kernel_rfl
 c175:=by kernel_rfl
 c210:=by kernel_rfl
 c212:=by kernel_rfl
 c213:=by kernel_rfl
 c232:=by kernel_rfl
 c233:=by kernel_rfl }
open Go.RowKit in
theorem Tryz.strconv_ParseInt_10_at64_ok (s:ByteArray) (hmax:s.size≤9223372036854775806) (v:Int) (h:Lib.parseIntB 64 s.data.toList=.ok v) (w:World) :
 Calls Tryz.prog 206 #[.string s,.int .i64 10,.int .i64 64] w fun e w'=>e=.returned (.tuple #[.int .i64 v,.nilIface])∧(w'=w∨∃ t,w'=Lib.bytesWorld w 5 t):=Any.strconv_ParseInt_10_at64_ok Tryz.laysC174 s hmax v h w
open Go.RowKit in
theorem Tryz.strconv_ParseInt_10_at64_range (s:ByteArray) (hlim:s.size≤281474976710656) (h:Lib.parseIntB 64 s.data.toList=.range) (ev:Value) (w:World) (hv:w.cell? ⟨8,0,none⟩=some ev) (hev:ev=.nilIface∨∃ te pe,ev=.iface te pe) :
 Calls Tryz.prog 206 #[.string s,.int .i64 10,.int .i64 64] w fun e w'=>∃ N,e=.returned (.tuple #[.int .i64 (Lib.intSat 64 s.data.toList),.iface 306 (.pointer (some ⟨N,0,none⟩))])∧w.heap.size≤N∧w'.heap[N]?=some (.cells #[.string ⟨#[80,97,114,115,101,73,110,116]⟩,.string s,ev] 316 (0,0))∧Below w.heap.size w w':=Any.strconv_ParseInt_10_at64_range Tryz.laysC174 s hlim h ev w hv hev
def Tryz.lays146_ren:Go.Shelf.Ren:=⟨fun | 146=>67 | 221=>107 | 268=>141 | 138=>142 | 143=>143 | 195=>175 | 197=>176 | 218=>177 | 219=>178 | 260=>199 | 217=>200 | 225=>201 | 224=>202 | 267=>203 | 266=>219 | 314=>220 | n=>n,fun | 9=>9 | 31=>35 | 3=>3 | 4=>4 | 0=>0 | 105=>240 | 21=>21 | 5=>5 | 46=>213 | 119=>286 | 139=>289 | 138=>288 | 146=>290 | 51=>239 | n=>n,fun | 1=>2 | 3=>3 | 4=>4 | n=>n⟩
theorem Tryz.lays146:Go.Proofs.Lays.n146 Tryz.prog Tryz.lays146_ren:={
 mixed:=by kernel_rfl
 f138:=Tryz.func142.trans (congrArg some (by kernel_rfl))
 f143:=Tryz.func143.trans (congrArg some (by kernel_rfl))
 f146:=Tryz.func67.trans (congrArg some (by kernel_rfl))
 f195:=Tryz.func175.trans (congrArg some (by kernel_rfl))
 f197:=Tryz.func176.trans (congrArg some (by kernel_rfl))
 f217:=Tryz.func200.trans (congrArg some (by kernel_rfl))
 f218:=Tryz.func177.trans (congrArg some (by kernel_rfl))
 f219:=Tryz.func178.trans (congrArg some (by kernel_rfl))
 f221:=Tryz.func107.trans (congrArg some (by kernel_rfl))
 f224:=Tryz.func202.trans (congrArg some (by kernel_rfl))
 f225:=Tryz.func201.trans (congrArg some (by kernel_rfl))
 f260:=Tryz.func199.trans (congrArg some (by kernel_rfl))
 f266:=Tryz.func219.trans (congrArg some (by kernel_rfl))
 f267:=Tryz.func203.trans (congrArg some (by kernel_rfl))
 f268:=Tryz.func141.trans (congrArg some (by kernel_rfl))
 f314:=Tryz.func220.trans (congrArg some (by kernel_rfl))
 t0:=Tryz.underlying0
 a0:=Tryz.isAgg0
 z0:=Tryz.sizeOf0
 v0:=Tryz.zeroValue0
 t3:=Tryz.underlying3
 a3:=Tryz.isAgg3
 z3:=Tryz.sizeOf3
 v3:=Tryz.zeroValue3
 t4:=Tryz.underlying4
 a4:=Tryz.isAgg4
 z4:=Tryz.sizeOf4
 v4:=Tryz.zeroValue4
 t5:=Tryz.underlying5
 a5:=Tryz.isAgg5
 z5:=Tryz.sizeOf5
 v5:=Tryz.zeroValue5
 t9:=Tryz.underlying9
 a9:=Tryz.isAgg9
 z9:=Tryz.sizeOf9
 v9:=Tryz.zeroValue9
 t21:=Tryz.underlying21
 a21:=Tryz.isAgg21
 z21:=Tryz.sizeOf21
 v21:=Tryz.zeroValue21
 t31:=Tryz.underlying35
 a31:=Tryz.isAgg35
 z31:=Tryz.sizeOf35
 v31:=Tryz.zeroValue35
 t46:=Tryz.underlying213
 a46:=Tryz.isAgg213
 z46:=Tryz.sizeOf213
 v46:=Tryz.zeroValue213
 t51:=Tryz.underlying239
 a51:=Tryz.isAgg239
 z51:=Tryz.sizeOf239
 v51:=Tryz.zeroValue239
 t105:=Tryz.underlying240
 a105:=Tryz.isAgg240
 z105:=Tryz.sizeOf240
 v105:=Tryz.zeroValue240
 t119:=Tryz.underlying286
 a119:=Tryz.isAgg286
 z119:=Tryz.sizeOf286
 t138:=Tryz.underlying288
 a138:=Tryz.isAgg288
 z138:=Tryz.sizeOf288
 v138:=Tryz.zeroValue288
 t139:=Tryz.underlying289
 a139:=Tryz.isAgg289
 z139:=Tryz.sizeOf289
 v139:=Tryz.zeroValue289
 t146:=Tryz.underlying290
 a146:=Tryz.isAgg290
 z146:=Tryz.sizeOf290
 v146:=Tryz.zeroValue290
 g1:=by kernel_rfl
 g3:=by kernel_rfl
 g4:=by kernel_rfl }
open Go.RowKit Go.Lib in
theorem Tryz.strings_Split (s sep:ByteArray) (m:Int) (w:World) (hs:s.size < 4294967281) (hm:w.cell? ⟨2,0,none⟩=some (.int .i64 m)) (h1:1≤sep.size) :
 Calls Tryz.prog 67 #[.string s,.string sep] w fun e w' =>
  e=.returned (.slice (some ⟨w.heap.size,0,none⟩) (Lib.countB s sep + 1) (Lib.countB s sep + 1))∧w'=w.alloc (.cells ((Lib.splitB sep 0 (Lib.countB s sep) s).map Value.string).toArray 9):=Any.strings_Split Tryz.lays146 (by kernel_rfl) s sep m w hs hm h1
end Go.Proofs
