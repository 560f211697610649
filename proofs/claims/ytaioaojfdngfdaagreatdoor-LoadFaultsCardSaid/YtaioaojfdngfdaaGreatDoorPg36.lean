/- Parts of a chain of lemmas: ShelfO, Bld, BldL, Quo, RefQ, RefRd1, RefRd2. Conditions: those of each theorem. -/
import Derived.Shelf.Strings.Builder1
import Derived.Shelf.Small.Bits
import Derived.Shelf.Strings.BuilderF
import Derived.Shelf.Strings.BuilderK
import Derived.Ground.Names2Prog
import Derived.Test.YtaioaojfdngfdaaGreatDoorPg01
import Derived.Test.YtaioaojfdngfdaaGreatDoorPg14
import Derived.Test.YtaioaojfdngfdaaGreatDoorPg04
import Derived.Test.YtaioaojfdngfdaaGreatDoorPg03
import Derived.Deep.QuietTactic
set_option linter.unusedVariables false
set_option linter.unusedSimpArgs false
set_option maxHeartbeats 12800000
namespace Go.Proofs
open Go.Shelf
end Go.Proofs
namespace Go.Proofs.YtaioaojfdngfdaaGreatDoor
open Go.RowKit
theorem hex_at (d:Nat) (h:d < 16):(⟨#[48,49,50,51,52,53,54,55,56,57,97,98,99,100,101,102]⟩:ByteArray).data[d]?=some (hexD d):=by
 have:∀ d:Fin 16,(⟨#[48,49,50,51,52,53,54,55,56,57,97,98,99,100,101,102]⟩:ByteArray).data[d.val]?=some (hexD d.val):=by decide
 exact this ⟨d,h⟩
theorem hex_nat (d:Nat) (hd:d < (⟨#[48,49,50,51,52,53,54,55,56,57,97,98,99,100,101,102]⟩:ByteArray).size):((((⟨#[48,49,50,51,52,53,54,55,56,57,97,98,99,100,101,102]⟩:ByteArray)[d]'hd).toNat:Nat):Int)=((hexD d).toNat:Nat):=by
 have h:=hex_at d hd
 have h2:(⟨#[48,49,50,51,52,53,54,55,56,57,97,98,99,100,101,102]⟩:ByteArray).data[d]?=some ((⟨#[48,49,50,51,52,53,54,55,56,57,97,98,99,100,101,102]⟩:ByteArray)[d]'hd):=Array.getElem?_eq_getElem hd
 rw [h] at h2
 injection h2 with h2
 rw [h2]
theorem hex_fin:∀ d:Fin 16,((⟨#[48,49,50,51,52,53,54,55,56,57,97,98,99,100,101,102]⟩:ByteArray).extract d.val (d.val + 1))=bs [hexD d.val]:=by decide
theorem v7 {d:Nat} (h:d < 16):((⟨#[48,49,50,51,52,53,54,55,56,57,97,98,99,100,101,102]⟩:ByteArray).extract d (d + 1))=bs [hexD d]:=hex_fin ⟨d,h⟩
set_option maxRecDepth 100000 in
theorem wZ (c:UInt8) (m:Int) (hm:m=c.toNat) (w:World):Calls Tryz.prog 209 #[.int .u8 m] w fun e w'=>e=.returned (.string (bs (fH c)))∧Below w.heap.size w w':=by
 subst hm
 have hc:=c.toNat_lt
 obtain ⟨n,hn⟩:∃ n,n=c.toNat:=⟨_,rfl⟩
 have e34:c=34↔n=34:=by rw [hn,← UInt8.toNat_inj];rfl
 have e92:c=92↔n=92:=by rw [hn,← UInt8.toNat_inj];rfl
 have e10:c=10↔n=10:=by rw [hn,← UInt8.toNat_inj];rfl
 have e13:c=13↔n=13:=by rw [hn,← UInt8.toNat_inj];rfl
 have e9:c=9↔n=9:=by rw [hn,← UInt8.toNat_inj];rfl
 have eL:c < 32↔n < 32:=by rw [hn,UInt8.lt_iff_toNat_lt];rfl
 have eG:126 < c↔126 < n:=by rw [hn,UInt8.lt_iff_toNat_lt];rfl
 have HT:=hide (show fH c=if n=34∨n=92 then [92,c] else if n=10 then [92,110] else if n=13 then [92,114] else if n=9 then [92,116] else if n < 32∨126 < n then [92,120,hexD (n / 16),hexD (n % 16)] else [c] by unfold fH;simp only [e34,e92,e10,e13,e9,eL,eG,← hn])
 have HN:=hide hn
 have HCv:=hide (show c=UInt8.ofNat n by rw [hn];simp)
 rw [← hn] at hc ⊢
 clear hn e34 e92 e10 e13 e9 eL eG
 have hway:n=34∨n=92∨n=10∨n=13∨n=9∨((n < 32∨126 < n)∧n≠34∧n≠92∧n≠10∧n≠13∧n≠9)∨(32≤n∧n≤126∧n≠34∧n≠92):=by omega
 rcases hway with rfl | rfl | rfl | rfl | rfl | ⟨h1,n1,n2,n3,n4,n5⟩ | ⟨h1,h2,n1,n2⟩
 ·have HV:=hide (show fH c=[92,34] by rw [HT.out,HCv.out];rfl)
  go_enter Tryz.func209,Tryz.ntmps209
  go_wp2_with fail
  go_ret
  exact ⟨by rw [HV.out];rfl,Below.refl _ _⟩
 ·have HV:=hide (show fH c=[92,92] by rw [HT.out,HCv.out];rfl)
  go_enter Tryz.func209,Tryz.ntmps209
  go_wp2_with fail
  go_ret
  exact ⟨by rw [HV.out];rfl,Below.refl _ _⟩
 ·have HV:=hide (show fH c=[92,110] by rw [HT.out];rfl)
  go_enter Tryz.func209,Tryz.ntmps209
  go_wp2_with fail
  go_ret
  exact ⟨by rw [HV.out];rfl,Below.refl _ _⟩
 ·have HV:=hide (show fH c=[92,114] by rw [HT.out];rfl)
  go_enter Tryz.func209,Tryz.ntmps209
  go_wp2_with fail
  go_ret
  exact ⟨by rw [HV.out];rfl,Below.refl _ _⟩
 ·have HV:=hide (show fH c=[92,116] by rw [HT.out];rfl)
  go_enter Tryz.func209,Tryz.ntmps209
  go_wp2_with fail
  go_ret
  exact ⟨by rw [HV.out];rfl,Below.refl _ _⟩
 ·have HV:=hide (show fH c=[92,120,hexD (n / 16),hexD (n % 16)] by rw [HT.out,if_neg (by omega),if_neg n3,if_neg n4,if_neg n5,if_pos h1])
  have q1:((n:Int) == 34)=false:=beq_eq_false_iff_ne.2 (by omega)
  have q2:((n:Int) == 92)=false:=beq_eq_false_iff_ne.2 (by omega)
  have q3:((n:Int) == 10)=false:=beq_eq_false_iff_ne.2 (by omega)
  have q4:((n:Int) == 13)=false:=beq_eq_false_iff_ne.2 (by omega)
  have q5:((n:Int) == 9)=false:=beq_eq_false_iff_ne.2 (by omega)
  have hx:=v7 (d:=n / 16) (by omega)
  have hy:=v7 (d:=n % 16) (by omega)
  by_cases h3:n < 32
  case pos =>
   have q6:decide ((32:Int)≤(n:Int))=false:=by simp;omega
   go_enter Tryz.func209,Tryz.ntmps209
   go_upto_region 14 with fail
   go_quiet (fail)
   go_wp2_with fail
   go_ret
   exact ⟨by rw [HV.out];rfl,below_drewN _ _⟩
  case neg =>
   have q6:decide ((32:Int)≤(n:Int))=true:=by simp;omega
   have q7:decide ((n:Int) < 127)=false:=by simp;omega
   go_enter Tryz.func209,Tryz.ntmps209
   go_upto_region 14 with fail
   go_quiet (fail)
   go_wp2_with fail
   go_ret
   exact ⟨by rw [HV.out];rfl,below_drewN _ _⟩
 ·have HV:=hide (show fH c=[c] by rw [HT.out,if_neg (by omega),if_neg (by omega),if_neg (by omega),if_neg (by omega),if_neg (by omega)])
  have q1:((n:Int) == 34)=false:=beq_eq_false_iff_ne.2 (by omega)
  have q2:((n:Int) == 92)=false:=beq_eq_false_iff_ne.2 (by omega)
  have q3:((n:Int) == 10)=false:=beq_eq_false_iff_ne.2 (by omega)
  have q4:((n:Int) == 13)=false:=beq_eq_false_iff_ne.2 (by omega)
  have q5:((n:Int) == 9)=false:=beq_eq_false_iff_ne.2 (by omega)
  have q6:decide ((32:Int)≤(n:Int))=true:=by simp;omega
  have q7:decide ((n:Int) < 127)=true:=by simp;omega
  have hconv:(convert 47 9 (.slice (some ⟨w.heap.size,0,none⟩) 1 1)).run Tryz.prog (w.alloc (.cells #[.int .u8 n] 5))=.ok (.string (bs [c])) (w.alloc (.cells #[.int .u8 n] 5)):=by
   refine run_convert_bytes_back (P:=Tryz.prog) (w.alloc (.cells #[.int .u8 n] 5)) 47 9 5 ⟨w.heap.size,0,none⟩ 1 [c] Tryz.underlying47 Tryz.underlying5 Tryz.underlying9 (fun j hj=>?_)
   obtain rfl:j=0:=by simp at hj;omega
   rw [Addr.add_lit,(Blk.new w 5 #[.int .u8 n]).cell,HN.out]
   rfl
  go_enter Tryz.func209,Tryz.ntmps209
  go_wp2_with fail
  go_ret
  exact ⟨by rw [HV.out];rfl,aK _ _⟩
theorem wP (k:Nat) (h:k < 16):dF (hexD k)=k:=by
 have:∀ k:Fin 16,dF (hexD k.val)=(k.val:Int):=by decide
 exact this ⟨k,h⟩
set_option maxRecDepth 100000 in
theorem yJ (b:UInt8) (h:0≤dF b):hexD (dF b).toNat=b∧(dF b).toNat < 16:=by
 have h1:∀ x:Fin 256,0≤dF (UInt8.ofNat x.val)→hexD (dF (UInt8.ofNat x.val)).toNat=UInt8.ofNat x.val∧(dF (UInt8.ofNat x.val)).toNat < 16:=by decide
 have h2:UInt8.ofNat b.toNat=b:=by simp
 have h3:=h1 ⟨b.toNat,b.toNat_lt⟩
 simp only [h2] at h3
 exact h3 h
set_option maxRecDepth 100000 in
theorem value_c (b:UInt8) (m:Int) (hm:m=b.toNat) (w:World):Calls Tryz.prog 210 #[.int .u8 m] w fun e w'=>e=.returned (.int .i64 (dF b))∧w'=w:=by
 subst hm
 have HYes:=hide (show ∀ k,k < 16→hexD k=b→dF b=k from fun k h h2=>by rw [← h2];exact wP k h)
 have HNo:=hide (show (∀ k,k < 16→hexD k≠b)→dF b = -1 from fun h=>by
  by_cases h0:0≤dF b
  ·have h1:=yJ b h0
   exact absurd h1.1 (h _ h1.2)
  ·have:=fP b
   omega)
 obtain ⟨V,hV⟩:∃ V,V=dF b:=⟨_,rfl⟩
 rw [← hV] at HYes HNo ⊢
 have HEq:=hide (show ∀ k,hexD k=b↔(hexD k).toNat=b.toNat from fun k=>UInt8.toNat_inj.symm)
 obtain ⟨n,hn⟩:∃ n,n=b.toNat:=⟨_,rfl⟩
 rw [← hn] at HEq ⊢
 have hsz:(⟨#[48,49,50,51,52,53,54,55,56,57,97,98,99,100,101,102]⟩:ByteArray).size=16:=rfl
 have HHx:=hide (fun (k:Nat) (h:k < 16)=>hex_nat k (by rw [hsz];exact h))
 clear hV hn
 go_enter Tryz.func210,Tryz.ntmps210
 go_wp2_with fail
 go_loopw [3] (fun i wr=>∃ k:Nat,k≤16∧i=.int .i64 k∧Hid (∀ j,j < k→hexD j≠b)∧Hid (wr=w)) (fun i _=>16 - (intOf i).toNat)
 case atStart=>exact ⟨0,Nat.zero_le _,rfl,hide (fun j hj=>absurd hj (by omega)),hide rfl⟩
 case round =>
  obtain ⟨k,hk,rfl,hno,hw⟩:=hrel
  rw [hw.out]
  clear hw
  have w1:IntKind.i64.wrap ((k:Int) + 1)=(k:Int) + 1:=IntWalk.i64_in _ (by omega)
  by_cases hlt:k < 16
  ·have d1:decide ((k:Int) < 16)=true:=by simp;omega
   have d2:decide (k < 16)=true:=by simp;omega
   have j1:(0:Int)≤(k:Int):=by omega
   have j2:(k:Int) < 16:=by omega
   have hx:=HHx.out k hlt
   by_cases he:(hexD k).toNat=n
   ·have d3:(((hexD k).toNat:Int) == (n:Int))=true:=beq_iff_eq.2 (by omega)
    have HE:=hide (HYes.out k hlt ((HEq.out k).2 he))
    clear he
    go_wp2_with fail
    go_ret
    exact ⟨by rw [HE.out];rfl,rfl⟩
   ·have d3:(((hexD k).toNat:Int) == (n:Int))=false:=beq_eq_false_iff_ne.2 (by omega)
    have HN:=hide (show ∀ j,j < k + 1→hexD j≠b from fun j hj=>by
     by_cases e:j=k
     ·subst e;exact fun h=>he ((HEq.out j).1 h)
     ·exact hno.out j (by omega))
    clear he
    go_wp2_with fail
    go_roundw
    case rel=>exact ⟨k + 1,by omega,by go_num,HN,hide (by first | rfl | trivial)⟩
    case measure=>simp [intOf];omega
  ·have hke:k=16:=by omega
   subst hke
   have HE:=hide (HNo.out hno.out)
   go_wp2_with fail
   go_ret
   exact ⟨by rw [HE.out];rfl,rfl⟩
theorem sub_two (s:ByteArray) (h:2≤s.size):s.extract 0 2=bs [atB s.data.toList 0,atB s.data.toList 1]:=by
 apply rS
 rw [mM]
 show _=[_,_]
 have hl:s.data.toList.length=s.size:=by simp
 cases hx:s.data.toList with
 | nil=>rw [hx] at hl;simp at hl;omega
 | cons a r =>
  cases r with
  | nil=>rw [hx] at hl;simp at hl;omega
  | cons b r=>rfl
theorem bs_eq (X Y:List UInt8):((bs X).toList == (bs Y).toList)=decide (X=Y):=by
 rw [ByteArray.toList_eq,ByteArray.toList_eq]
 show (X == Y)=_
 by_cases h:X=Y<;>simp [h]
set_option maxRecDepth 100000 in
theorem one_c (s:ByteArray) (w:World) (hs:s.size≤1000000000):Calls Tryz.prog 182 #[.string s] w fun e w'=>e=.returned (.tuple #[.int .u8 (bD s.data.toList 0).1.toNat,.int .i64 (bD s.data.toList 0).2.1,.bool (bD s.data.toList 0).2.2])∧Below w.heap.size w w':=by
 obtain ⟨L,hL⟩:∃ L,L=s.data.toList:=⟨_,rfl⟩
 have hLn:L.length=s.size:=by rw [hL];simp
 have HAt:=hide (show ∀ k (h:k < s.size),s[k]'h=atB L k from fun k h=>by rw [hL];exact byte_at s k h)
 have HSub:=hide (show 2≤s.size→s.extract 0 2=bs [atB L 0,atB L 1] from fun h=>by rw [hL];exact sub_two s h)
 have HSg:=hide (fun (c:UInt8) (m:Int) (hm:m=c.toNat) (w':World)=>wZ c m hm w')
 have HVl:=hide (fun (b:UInt8) (m:Int) (hm:m=b.toNat) (w':World)=>value_c b m hm w')
 rw [← hL]
 have h1:=qL L 0
 rw [hLn] at h1
 obtain ⟨R,hR⟩:∃ R,R=bD L 0:=⟨_,rfl⟩
 rw [← hR] at h1 ⊢
 have HR:=hide h1
 have HHx:=hide (show cU L 2=if s.size≤2 then (0,0,false) else if dF (atB L 2) < 0 then (0,0,false) else if s.size≤3 then (0,1,false) else if dF (atB L 3) < 0 then (0,1,false) else (16 * dF (atB L 2) + dF (atB L 3),2,true) by unfold cU;rw [hLn])
 clear h1 hR hL hLn
 by_cases hz:s.size=0
 case pos =>
  obtain rfl:=fE hz
  have HE:=hide (show R=(0,0,false) by rw [HR.out];rfl)
  go_enter Tryz.func182,Tryz.ntmps182
  go_wp2_with fail
  refine bodyPost_ret (v:=.tuple #[.int .u8 0,.int .i64 0,.bool false]) (by simp [results,Tryz.results182,go_sem];try rfl) rfl ?_
  exact ⟨by rw [HE.out];rfl,Below.refl _ _⟩
 case neg =>
  have hne:=str_some hz
  have h0:0 < s.size:=by omega
  have HA0:=hide (HAt.out 0 h0)
  obtain ⟨n0,hn0⟩:∃ n0,n0=(atB L 0).toNat:=⟨_,rfl⟩
  have hc0:((s[0]'h0).toNat:Int)=(n0:Int):=by rw [hn0,HA0.out]
  have i34:atB L 0=34↔n0=34:=by rw [hn0,← UInt8.toNat_inj];rfl
  have i92:atB L 0=92↔n0=92:=by rw [hn0,← UInt8.toNat_inj];rfl
  have HR1:=hide (show R=if n0 < 32∨126 < n0∨n0=34 then (0,0,false) else if ¬ n0=92 then (atB L 0,1,true) else if s.size≤1 then (0,1,false) else match kG (atB L 1) with
   | some b=>(b,2,true)
   | none=>if atB L 1≠120 then (0,1,false) else ((UInt8.ofNat (cU L 2).1.toNat),2 + (cU L 2).2.1,(cU L 2).2.2) by
   rw [HR.out,if_neg (by omega),← hn0]
   simp only [i34,i92,ne_eq]
   rfl)
  have HN0:=hide hn0
  have HI92:=hide i92
  clear HR hz hn0 i34 i92
  by_cases hb:n0 < 32∨126 < n0∨n0=34
  case pos =>
   have HE:=hide (show R=(0,0,false) by rw [HR1.out,if_pos hb])
   have hway:n0 < 32∨(32≤n0∧126 < n0)∨(32≤n0∧n0≤126∧n0=34):=by omega
   clear hb
   rcases hway with h3 | ⟨h3,h4⟩ | ⟨h3,h4,h5⟩
   ·skip
    have d0:decide ((n0:Int) < 32)=true:=by simp;omega
    clear h3
    go_enter Tryz.func182,Tryz.ntmps182
    go_wp2_with fail
    refine bodyPost_ret (v:=.tuple #[.int .u8 0,.int .i64 0,.bool false]) (by simp [results,Tryz.results182,go_sem];try rfl) rfl ?_
    exact ⟨by rw [HE.out];rfl,Below.refl _ _⟩
   ·skip
    have d0:decide ((n0:Int) < 32)=false:=by simp;omega
    have d1:decide ((126:Int) < (n0:Int))=true:=by simp;omega
    clear h3 h4
    go_enter Tryz.func182,Tryz.ntmps182
    go_wp2_with fail
    refine bodyPost_ret (v:=.tuple #[.int .u8 0,.int .i64 0,.bool false]) (by simp [results,Tryz.results182,go_sem];try rfl) rfl ?_
    exact ⟨by rw [HE.out];rfl,Below.refl _ _⟩
   ·skip
    have d0:decide ((n0:Int) < 32)=false:=by simp;omega
    have d1:decide ((126:Int) < (n0:Int))=false:=by simp;omega
    have d2:((n0:Int) == 34)=true:=by simp;omega
    clear h3 h4 h5
    go_enter Tryz.func182,Tryz.ntmps182
    go_wp2_with fail
    refine bodyPost_ret (v:=.tuple #[.int .u8 0,.int .i64 0,.bool false]) (by simp [results,Tryz.results182,go_sem];try rfl) rfl ?_
    exact ⟨by rw [HE.out];rfl,Below.refl _ _⟩
  case neg =>
   have d0:decide ((n0:Int) < 32)=false:=by simp;omega
   have d1:decide ((126:Int) < (n0:Int))=false:=by simp;omega
   have d2:((n0:Int) == 34)=false:=by simp;omega
   by_cases h92:n0=92
   case neg =>
    have d3:((n0:Int) == 92)=false:=by simp;omega
    have d4:((n0:Int) != 92)=true:=by simp;omega
    have HE:=hide (show R=(atB L 0,1,true) by rw [HR1.out,if_neg hb,if_pos h92])
    clear hb h92
    go_enter Tryz.func182,Tryz.ntmps182
    go_wp2_with fail
    refine bodyPost_ret (v:=.tuple #[.int .u8 n0,.int .i64 1,.bool true]) (by simp [results,Tryz.results182,go_sem];try rfl) rfl ?_
    exact ⟨by rw [HE.out,HN0.out];rfl,Below.refl _ _⟩
   case pos =>
    have d3:((n0:Int) == 92)=true:=by simp;omega
    have d4:((n0:Int) != 92)=false:=by simp;omega
    by_cases hs1:s.size=1
    case pos =>
     have d5:((s.size:Int) == 1)=true:=by simp;omega
     have HE:=hide (show R=(0,1,false) by rw [HR1.out,if_neg hb,if_neg (by omega),if_pos (by omega)])
     clear hb h92 hs1
     go_enter Tryz.func182,Tryz.ntmps182
     go_wp2_with fail
     refine bodyPost_ret (v:=.tuple #[.int .u8 0,.int .i64 1,.bool false]) (by simp [results,Tryz.results182,go_sem];try rfl) rfl ?_
     exact ⟨by rw [HE.out];rfl,Below.refl _ _⟩
    case neg =>
     have d5:((s.size:Int) == 1)=false:=by simp;omega
     have hs2:2≤s.size:=by omega
     have HSb:=hide (HSub.out hs2)
     have HA1:=hide (HAt.out 1 (by omega))
     have ha92:atB L 0=92:=HI92.out.2 h92
     rw [ha92] at HSb
     have HR2:=hide (show R=match kG (atB L 1) with
      | some b=>(b,2,true)
      | none=>if atB L 1≠120 then (0,1,false) else ((UInt8.ofNat (cU L 2).1.toNat),2 + (cU L 2).2.1,(cU L 2).2.2) by rw [HR1.out,if_neg hb,if_neg (by omega),if_neg (by omega)])
     obtain ⟨E,hE⟩:∃ E,E=atB L 1:=⟨_,rfl⟩
     rw [← hE] at HSb HR2 HA1
     have HEs:=hide (show ∀ b,fH b=[92,E]↔kG E=some b from fun b=>sign_two b E)
     have h1s:1 < s.size:=by omega
     have hc1:((s[1]'h1s).toNat:Int)=(E.toNat:Int):=by rw [HA1.out]
     clear hb h92 hs1 HR1 ha92 hE HA0 HI92
     go_enter Tryz.func182,Tryz.ntmps182
     go_wp2_with fail
     go_loopw [5] (fun i wr=>∃ k:Nat,k≤256∧i=.int .i64 k∧Hid (∀ j,j < k→kG E≠some (UInt8.ofNat j))∧Hid (Below w.heap.size w wr)) (fun i _=>256 - (intOf i).toNat)
     case atStart=>exact ⟨0,Nat.zero_le _,rfl,hide (fun j hj=>absurd hj (by omega)),hide (Below.refl _ _)⟩
     case round =>
      obtain ⟨k,hk,rfl,hno,HB⟩:=hrel
      have w1:IntKind.i64.wrap ((k:Int) + 1)=(k:Int) + 1:=IntWalk.i64_in _ (by omega)
      by_cases hlt:k < 256
      case pos =>
       have e1:decide ((k:Int) < 256)=true:=by simp;omega
       have e2:decide (k < 256)=true:=by simp;omega
       have w2:IntKind.u8.wrap (k:Int)=(k:Int):=IntWalk.u8_in _ (by omega)
       have HSk:=hide (fun (w':World)=>HSg.out (UInt8.ofNat k) (k:Int) (by simp;omega) w')
       have HEk:=hide (HEs.out (UInt8.ofNat k))
       have hlen:=sign_len (UInt8.ofNat k)
       obtain ⟨X,hX⟩:∃ X,X=fH (UInt8.ofNat k):=⟨_,rfl⟩
       rw [← hX] at HSk HEk hlen
       clear hX
       have hxs:(bs X).size=X.length:=bJ X
       have hx0:0 < (bs X).size:=by omega
       have HXb:=hide (show ((bs X)[0]'hx0)=atB X 0 from byte_at (bs X) 0 hx0)
       obtain ⟨m0,hm0⟩:∃ m0,m0=(atB X 0).toNat:=⟨_,rfl⟩
       have hcx:(((bs X)[0]'hx0).toNat:Int)=(m0:Int):=by rw [hm0,HXb.out]
       have HM:=hide (show X=[92,E]↔(m0=92∧X.length=2∧X=[92,E]) from ⟨fun h=>⟨by rw [hm0,h];rfl,by rw [h];rfl,h⟩,fun h=>h.2.2⟩)
       have HSt:=hide (show ¬ X=[92,E]→∀ j,j < k + 1→kG E≠some (UInt8.ofNat j) from fun h j hj=>by
        by_cases e:j=k
        ·subst e;exact fun h2=>h (HEk.out.2 h2)
        ·exact hno.out j (by omega))
       have hcmp:((bs X).toList == (s.extract 0 2).toList)=decide (X=[92,E]):=by rw [HSb.out,bs_eq]
       have HCm:=hide hcmp
       clear hm0 hxs hcmp
       by_cases a1:m0=92
       case neg =>
        have q1:((m0:Int) == 92)=false:=by simp;omega
        have HN:=hide (HSt.out (fun h=>a1 (HM.out.1 h).1))
        clear a1
        go_wp2_with fail
        refine (HSk.out _).mono ?_
        rintro e w3 ⟨rfl,hb3⟩
        have HB3:=hide (HB.out.trans (hb3.mono HB.out.size))
        clear hb3
        go_wp2_with fail
        go_roundw
        case rel=>exact ⟨k + 1,by omega,by go_num,HN,HB3⟩
        case measure=>simp [intOf];omega
       case pos =>
        have q1:((m0:Int) == 92)=true:=by simp;omega
        by_cases a2:X.length=2
        case neg =>
         have q2:((X.length:Int) == 2)=false:=by simp;omega
         have q3:(((bs X).size:Int) == 2)=false:=by rw [bJ];exact q2
         have HN:=hide (HSt.out (fun h=>a2 (HM.out.1 h).2.1))
         clear a1 a2
         go_wp2_with fail
         refine (HSk.out _).mono ?_
         rintro e w3 ⟨rfl,hb3⟩
         have HB3:=hide (HB.out.trans (hb3.mono HB.out.size))
         clear hb3
         go_wp2_with fail
         go_roundw
         case rel=>exact ⟨k + 1,by omega,by go_num,HN,HB3⟩
         case measure=>simp [intOf];omega
        case pos =>
         have q2:((X.length:Int) == 2)=true:=by simp;omega
         have q3:(((bs X).size:Int) == 2)=true:=by rw [bJ];exact q2
         by_cases a3:X=[92,E]
         case neg =>
          have q4:((bs X).toList == (s.extract 0 2).toList)=false:=by rw [HCm.out,decide_eq_false a3]
          have q5:(X == (s.extract 0 2).toList)=false:=by have h:=q4;rw [ByteArray.toList_eq (bs X)] at h;exact h
          have HN:=hide (HSt.out a3)
          clear a1 a2 a3
          go_wp2_with fail
          refine (HSk.out _).mono ?_
          rintro e w3 ⟨rfl,hb3⟩
          have HB3:=hide (HB.out.trans (hb3.mono HB.out.size))
          clear hb3
          go_wp2_with fail
          go_roundw
          case rel=>exact ⟨k + 1,by omega,by go_num,HN,HB3⟩
          case measure=>simp [intOf];omega
         case pos =>
          have q4:((bs X).toList == (s.extract 0 2).toList)=true:=by rw [HCm.out,decide_eq_true a3]
          have q5:(X == (s.extract 0 2).toList)=true:=by have h:=q4;rw [ByteArray.toList_eq (bs X)] at h;exact h
          have HE:=hide (show R=(UInt8.ofNat k,2,true) by rw [HR2.out,HEk.out.1 a3])
          have HKk:=hide (show (UInt8.ofNat k).toNat=k by simp;omega)
          clear a1 a2 a3
          go_wp2_with fail
          refine (HSk.out _).mono ?_
          rintro e w3 ⟨rfl,hb3⟩
          have HB3:=hide (HB.out.trans (hb3.mono HB.out.size))
          clear hb3
          go_wp2_with fail
          refine bodyPost_ret (v:=.tuple #[.int .u8 k,.int .i64 2,.bool true]) (by simp [results,Tryz.results182,go_sem];try rfl) rfl ?_
          exact ⟨by rw [HE.out];simp only;rw [HKk.out];rfl,HB3.out⟩
      case neg =>
       have e1:decide ((k:Int) < 256)=false:=by simp;omega
       have e2:decide (k < 256)=false:=by simp;omega
       have hke:256≤k:=by omega
       have HNo:=hide (show kG E=none by
        cases he:kG E with
        | none=>rfl
        | some b=>exact absurd (by rw [he];simp) (hno.out b.toNat (Nat.lt_of_lt_of_le b.toNat_lt hke)))
       have HR3:=hide (show R=if E≠120 then (0,1,false) else ((UInt8.ofNat (cU L 2).1.toNat),2 + (cU L 2).2.1,(cU L 2).2.2) by rw [HR2.out,HNo.out])
       obtain ⟨n1,hn1⟩:∃ n1,n1=E.toNat:=⟨_,rfl⟩
       have i120:E=120↔n1=120:=by rw [hn1,← UInt8.toNat_inj];rfl
       have HI:=hide i120
       rw [← hn1] at hc1
       clear hn1 i120 HR2 hno HSb HEs
       by_cases a1:n1=120
       case neg =>
        have q1:((n1:Int) == 120)=false:=by simp;omega
        have q2:((n1:Int) != 120)=true:=by simp;omega
        have HE:=hide (show R=(0,1,false) by rw [HR3.out,if_pos (fun h=>a1 (HI.out.1 h))])
        clear a1
        go_wp2_with fail
        refine bodyPost_ret (v:=.tuple #[.int .u8 0,.int .i64 1,.bool false]) (by simp [results,Tryz.results182,go_sem];try rfl) rfl ?_
        exact ⟨by rw [HE.out];rfl,HB.out⟩
       case pos =>
        have q2:((n1:Int) != 120)=false:=by simp;omega
        have HR4:=hide (show R=(UInt8.ofNat (cU L 2).1.toNat,2 + (cU L 2).2.1,(cU L 2).2.2) by rw [HR3.out,if_neg (fun h=>h (HI.out.2 a1))])
        obtain ⟨v1,hv1⟩:∃ v1,v1=dF (atB L 2):=⟨_,rfl⟩
        obtain ⟨v2,hv2⟩:∃ v2,v2=dF (atB L 3):=⟨_,rfl⟩
        have b1:=fP (atB L 2)
        have b2:=fP (atB L 3)
        rw [← hv1,← hv2] at HHx
        rw [← hv1] at b1
        rw [← hv2] at b2
        have HV1:=hide (show 2 < s.size→∀ w',Calls Tryz.prog 210 #[.int .u8 (atB L 2).toNat] w' fun e w2=>e=.returned (.int .i64 v1)∧w2=w' from fun _ w'=>by rw [hv1];exact HVl.out (atB L 2) _ rfl w')
        have HV2:=hide (show 3 < s.size→∀ w',Calls Tryz.prog 210 #[.int .u8 (atB L 3).toNat] w' fun e w2=>e=.returned (.int .i64 v2)∧w2=w' from fun _ w'=>by rw [hv2];exact HVl.out (atB L 3) _ rfl w')
        clear a1 hv1 hv2 HR3 HVl
        have HBq:=HB
        obtain ⟨Wb,hWb⟩:∃ Wb,Wb=wr:=⟨_,rfl⟩
        rw [← hWb] at HB HBq ⊢
        clear hWb HB
        go_wp2_with fail
        go_loopw [7,8] (fun n q wr=>((q=.int .i64 2∧n=.int .i64 0)∨(q=.int .i64 3∧n=.int .i64 v1∧2 < s.size∧0≤v1)∨(q=.int .i64 4∧n=.int .i64 (16 * v1 + v2)∧3 < s.size∧0≤v1∧0≤v2))∧Hid (wr=Wb)) (fun _ q _=>4 - (intOf q).toNat)
        case atStart=>exact ⟨Or.inl ⟨rfl,rfl⟩,hide rfl⟩
        case round =>
         obtain ⟨hk9,hw⟩:=hrel
         rw [hw.out]
         clear hw
         rcases hk9 with ⟨rfl,rfl⟩ | ⟨rfl,rfl,h1,h2⟩ | ⟨rfl,rfl,h1,h2,h3⟩
         ·skip
          by_cases c1:s.size=2
          case pos =>
           have q3:(2:Int) == (s.size:Int):=by simp;omega
           have q4:((2:Int) == (s.size:Int))=true:=by simp;omega
           have HE:=hide (show R=(0,2,false) by rw [HR4.out,HHx.out,if_pos (by omega)];rfl)
           clear c1 q3
           go_wp2_with fail
           refine bodyPost_ret (v:=.tuple #[.int .u8 0,.int .i64 2,.bool false]) (by simp [results,Tryz.results182,go_sem];try rfl) rfl ?_
           exact ⟨by rw [HE.out];rfl,HBq.out⟩
          case neg =>
           have q4:((2:Int) == (s.size:Int))=false:=by simp;omega
           have hks:2 < s.size:=by omega
           have HA:=hide (HAt.out 2 hks)
           have hcq:((s[2]'hks).toNat:Int)=((atB L 2).toNat:Int):=by rw [HA.out]
           have j2:(2:Int) < (s.size:Int):=by omega
           clear c1
           by_cases c2:0≤v1
           case neg =>
            have q5:decide (v1 < 0)=true:=by simp;omega
            have HE:=hide (show R=(0,2,false) by rw [HR4.out,HHx.out,if_neg (by omega),if_pos (by omega)];rfl)
            clear c2
            go_wp2_with fail
            refine (HV1.out hks _).mono ?_
            rintro e wq ⟨rfl,hwq⟩
            rw [hwq]
            clear hwq
            go_wp2_with fail
            refine bodyPost_ret (v:=.tuple #[.int .u8 0,.int .i64 2,.bool false]) (by simp [results,Tryz.results182,go_sem];try rfl) rfl ?_
            exact ⟨by rw [HE.out];rfl,HBq.out⟩
           case pos =>
            have q5:decide (v1 < 0)=false:=by simp;omega
            have w8:IntKind.i64.wrap v1=v1:=IntWalk.i64_in _ (by omega)
            go_wp2_with fail
            refine (HV1.out hks _).mono ?_
            rintro e wq ⟨rfl,hwq⟩
            rw [hwq]
            clear hwq
            go_wp2_with fail
            refine (HV1.out hks _).mono ?_
            rintro e wq ⟨rfl,hwq⟩
            rw [hwq]
            clear hwq
            go_wp2_with fail
            go_roundw
            case rel =>
             exact ⟨Or.inr (Or.inl ⟨rfl,by first | rfl | simp,hks,c2⟩),hide (by first | rfl | trivial)⟩
            case measure=>simp [intOf]
         ·skip
          by_cases c1:s.size=3
          case pos =>
           have q3:(3:Int) == (s.size:Int):=by simp;omega
           have q4:((3:Int) == (s.size:Int))=true:=by simp;omega
           have HE:=hide (show R=(0,3,false) by rw [HR4.out,HHx.out,if_neg (by omega),if_neg (by omega),if_pos (by omega)];rfl)
           clear c1 q3
           go_wp2_with fail
           refine bodyPost_ret (v:=.tuple #[.int .u8 0,.int .i64 3,.bool false]) (by simp [results,Tryz.results182,go_sem];try rfl) rfl ?_
           exact ⟨by rw [HE.out];rfl,HBq.out⟩
          case neg =>
           have q4:((3:Int) == (s.size:Int))=false:=by simp;omega
           have hks:3 < s.size:=by omega
           have HA:=hide (HAt.out 3 hks)
           have hcq:((s[3]'hks).toNat:Int)=((atB L 3).toNat:Int):=by rw [HA.out]
           have j2:(3:Int) < (s.size:Int):=by omega
           clear c1
           by_cases c2:0≤v2
           case neg =>
            have q5:decide (v2 < 0)=true:=by simp;omega
            have HE:=hide (show R=(0,3,false) by rw [HR4.out,HHx.out,if_neg (by omega),if_neg (by omega),if_neg (by omega),if_pos (by omega)];rfl)
            clear c2
            go_wp2_with fail
            refine (HV2.out hks _).mono ?_
            rintro e wq ⟨rfl,hwq⟩
            rw [hwq]
            clear hwq
            go_wp2_with fail
            refine bodyPost_ret (v:=.tuple #[.int .u8 0,.int .i64 3,.bool false]) (by simp [results,Tryz.results182,go_sem];try rfl) rfl ?_
            exact ⟨by rw [HE.out];rfl,HBq.out⟩
           case pos =>
            have q5:decide (v2 < 0)=false:=by simp;omega
            have w8:IntKind.i64.wrap (16 * v1 + v2)=16 * v1 + v2:=IntWalk.i64_in _ (by omega)
            have w9:IntKind.i64.wrap (16 * v1)=16 * v1:=IntWalk.i64_in _ (by omega)
            go_wp2_with fail
            refine (HV2.out hks _).mono ?_
            rintro e wq ⟨rfl,hwq⟩
            rw [hwq]
            clear hwq
            go_wp2_with fail
            refine (HV2.out hks _).mono ?_
            rintro e wq ⟨rfl,hwq⟩
            rw [hwq]
            clear hwq
            go_wp2_with fail
            go_roundw
            case rel =>
             exact ⟨Or.inr (Or.inr ⟨rfl,by first | rfl | simp,hks,h2,c2⟩),hide (by first | rfl | trivial)⟩
            case measure=>simp [intOf]
         ·have HE:=hide (show R=(UInt8.ofNat (16 * v1 + v2).toNat,4,true) by rw [HR4.out,HHx.out,if_neg (by omega),if_neg (by omega),if_neg (by omega),if_neg (by omega)];rfl)
          have HN:=hide (show ((UInt8.ofNat (16 * v1 + v2).toNat).toNat:Int)=16 * v1 + v2 by simp;omega)
          have w8:IntKind.u8.wrap (16 * v1 + v2)=16 * v1 + v2:=IntWalk.u8_in _ (by omega)
          go_wp2_with fail
          refine bodyPost_ret (v:=.tuple #[.int .u8 (16 * v1 + v2),.int .i64 4,.bool true]) (by simp [results,Tryz.results182,go_sem];try rfl) rfl ?_
          exact ⟨by rw [HE.out];simp only;rw [HN.out];rfl,HBq.out⟩
end Go.Proofs.YtaioaojfdngfdaaGreatDoor
