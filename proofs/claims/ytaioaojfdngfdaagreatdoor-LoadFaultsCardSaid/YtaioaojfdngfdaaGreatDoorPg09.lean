/- Parts of a chain of lemmas: Tk, Rd1, Ids31, Name, Put, Cls1, Cls2. Conditions: those of each theorem. -/
import Derived.Test.YtaioaojfdngfdaaGreatDoorPg01
import Derived.OrdersHeld
import Derived.KernelRfl
import Derived.Deep.RegionHeld
import Derived.Test.YtaioaojfdngfdaaGreatDoorPg04
import Derived.Test.YtaioaojfdngfdaaGreatDoorPg03
import Derived.Shelf.Slices.In.SortNone
set_option linter.unusedVariables false
set_option linter.unusedSimpArgs false
set_option maxHeartbeats 3200000
namespace Go.Proofs.YtaioaojfdngfdaaGreatDoor
open Go.RowKit
theorem ga {α:Type}:(∀ (l:List α) (i:Nat) (h:i < l.toArray.size),l.toArray[i]'h=l[i]'(by simpa using h))∧(∀ (a:α) (l:List α) (h:0 < (a :: l).length),(a :: l)[0]'h=a)∧(∀ (a:α) (l:List α) (i:Nat) (h:i + 1 < (a :: l).length),(a :: l)[i + 1]'h=l[i]'(by simpa using h)) :=
 ⟨fun _ _ _=>List.getElem_toArray ..,fun _ _ _=>rfl,fun _ _ _ _=>rfl⟩
theorem gp {α:Type}:(∀ (l:List α) (i:Nat) (v:α),l.toArray.setIfInBounds i v=(l.set i v).toArray)∧(∀ (a v:α) (l:List α),(a :: l).set 0 v=v :: l)∧(∀ (a v:α) (l:List α) (i:Nat),(a :: l).set (i + 1) v=a :: l.set i v)∧(∀ (l:List α) (i:Nat) (h:i < l.toArray.size),l.toArray[i]'h=l[i]'(by simpa using h))∧(∀ (a:α) (l:List α) (h:0 < (a :: l).length),(a :: l)[0]'h=a)∧(∀ (a:α) (l:List α) (i:Nat) (h:i + 1 < (a :: l).length),(a :: l)[i + 1]'h=l[i]'(by simpa using h)) :=
 ⟨fun _ _ _=>List.setIfInBounds_toArray ..,fun _ _ _=>rfl,fun _ _ _ _=>rfl,ga⟩
theorem tk {P:Program} {ops:Array Oper} {Q:Exit→Act→World→Prop} {md:Region.Mode} {S:World→Prop} (i:Nat) (v:Value) {oi:Oper} {fuel:Nat} {listed:Array Bool} {a:Act} {w:World} (hi:ops[i]?=some oi)
 (hy:∀ w,S w→(execOp a.eval oi).run P w=.ok (.value v) w) (h:wpAnyH P md ops Q S fuel (listed.setIfInBounds i true) (a.put oi.dst v) w)
 (hs:Region.noSelect ops=true:=by kernel_rfl) (hf:Region.free md ops listed i=true:=by kernel_rfl) (hr:(Region.ready md ops listed).contains i=true:=by kernel_rfl)
 (hQ:∀ c a w,Q (.panic c) (a.put oi.dst v) w→Q (.panic c) a w:=by exact fun _ _ _ h=>h) (hw:Region.wanted oi (yielded ops a.tmps)=true:=by rfl) (hS:S w:=by assumption):wpAnyH P md ops Q S (fuel + 1) listed a w :=
 wpAnyH_take hi hs hf hr hQ (Or.inl ⟨hw,hy⟩) hS h
theorem rdy {P:Program} {ops:Array Oper} {Q:Exit→Act→World→Prop} {md:Region.Mode} {S:World→Prop} (i:Nat) {oi:Oper} {fuel:Nat} {listed:Array Bool} {a:Act} {w:World} (ho:ops[i]?=some oi)
 (h:∀ K':Act→World→Prop,Shut (∀ a w,S w→(S w→wpAnyH P md ops Q S fuel (listed.setIfInBounds i true) a w)→K' a w)→if Region.wanted oi (yielded ops a.tmps)=true then Oper.wp P oi a w K' Q else K' (a.put oi.dst undef) w)
 (hr:Region.ready md ops listed=[i]:=by kernel_rfl):wpAnyH P md ops Q S (fuel + 1) listed a w :=
 wpAnyH_ready hr (by simp) (AllReadyH.cons ho h AllReadyH.nil)
theorem fP (b:UInt8):dF b≤15∧-1≤dF b:=by
 unfold dF
 split
 ·omega
 split<;>omega
theorem digit_c (b:UInt8) (m:Int) (hm:m=b.toNat) (w:World):Calls Tryz.prog 204 #[.int .u8 m] w fun e w'=>e=.returned (.tuple #[.int .u8 (max (dF b) 0),.bool (decide (0≤dF b))])∧w'=w:=by
 subst hm
 have hb:=b.toNat_lt
 obtain ⟨n,hn⟩:∃ n,n=b.toNat:=⟨_,rfl⟩
 have HV:=hide (show dF b=if 48≤n∧n≤57 then (n:Int) - 48 else if 97≤n∧n≤102 then (n:Int) - 87 else -1 by unfold dF;rw [← hn])
 rw [← hn] at hb ⊢
 obtain ⟨v,hv⟩:∃ v,v=dF b:=⟨_,rfl⟩
 rw [← hv] at HV ⊢
 clear hn hv
 by_cases h1:48≤n∧n≤57
 ·have HE:=hide (show v=(n:Int) - 48 by rw [HV.out,if_pos h1])
  have d1:decide ((48:Int)≤(n:Int))=true:=by simp;omega
  have d2:decide ((n:Int)≤57)=true:=by simp;omega
  have w1:IntKind.u8.wrap ((n:Int) - 48)=(n:Int) - 48:=IntWalk.u8_in _ (by omega)
  go_enter Tryz.func204,Tryz.ntmps204
  go_wp2_with fail
  refine bodyPost_ret (v:=.tuple #[.int .u8 ((n:Int) - 48),.bool true]) (by simp [results,Tryz.results204,go_sem]) rfl ?_
  exact ⟨by rw [HE.out,show max ((n:Int) - 48) 0=(n:Int) - 48 by omega,show decide (0≤(n:Int) - 48)=true by simp;omega],rfl⟩
 ·by_cases h2:97≤n∧n≤102
  ·have HE:=hide (show v=(n:Int) - 87 by rw [HV.out,if_neg h1,if_pos h2])
   have d1:decide ((48:Int)≤(n:Int))=true:=by simp;omega
   have d2:decide ((n:Int)≤57)=false:=by simp;omega
   have d3:decide ((97:Int)≤(n:Int))=true:=by simp;omega
   have d4:decide ((n:Int)≤102)=true:=by simp;omega
   have w1:IntKind.u8.wrap ((n:Int) - 97)=(n:Int) - 97:=IntWalk.u8_in _ (by omega)
   have w2:IntKind.u8.wrap ((n:Int) - 97 + 10)=(n:Int) - 97 + 10:=IntWalk.u8_in _ (by omega)
   go_enter Tryz.func204,Tryz.ntmps204
   go_wp2_with fail
   refine bodyPost_ret (v:=.tuple #[.int .u8 ((n:Int) - 97 + 10),.bool true]) (by simp [results,Tryz.results204,go_sem]) rfl ?_
   exact ⟨by rw [HE.out,show max ((n:Int) - 87) 0=(n:Int) - 97 + 10 by omega,show decide (0≤(n:Int) - 87)=true by simp;omega],rfl⟩
  ·have HE:=hide (show v = -1 by rw [HV.out,if_neg h1,if_neg h2])
   have hway:n < 48∨(57 < n∧n < 97)∨102 < n:=by omega
   clear h1 h2
   rcases hway with h3 | ⟨h3,h4⟩ | h3
   ·skip
    have d1:decide ((48:Int)≤(n:Int))=false:=by simp;omega
    have d2:decide ((97:Int)≤(n:Int))=false:=by simp;omega
    go_enter Tryz.func204,Tryz.ntmps204
    go_wp2_with fail
    refine bodyPost_ret (v:=.tuple #[.int .u8 0,.bool false]) (by simp [results,Tryz.results204,go_sem]) rfl ?_
    exact ⟨by rw [HE.out];rfl,rfl⟩
   ·skip
    have d1:decide ((48:Int)≤(n:Int))=true:=by simp;omega
    have d2:decide ((n:Int)≤57)=false:=by simp;omega
    have d3:decide ((97:Int)≤(n:Int))=false:=by simp;omega
    go_enter Tryz.func204,Tryz.ntmps204
    go_wp2_with fail
    refine bodyPost_ret (v:=.tuple #[.int .u8 0,.bool false]) (by simp [results,Tryz.results204,go_sem]) rfl ?_
    exact ⟨by rw [HE.out];rfl,rfl⟩
   ·skip
    have d1:decide ((48:Int)≤(n:Int))=true:=by simp;omega
    have d2:decide ((n:Int)≤57)=false:=by simp;omega
    have d3:decide ((97:Int)≤(n:Int))=true:=by simp;omega
    have d4:decide ((n:Int)≤102)=false:=by simp;omega
    go_enter Tryz.func204,Tryz.ntmps204
    go_wp2_with fail
    refine bodyPost_ret (v:=.tuple #[.int .u8 0,.bool false]) (by simp [results,Tryz.results204,go_sem]) rfl ?_
    exact ⟨by rw [HE.out];rfl,rfl⟩
theorem or_zero (v:Int) (h:0≤v) (h2:v≤15):bits BinOp.or IntKind.u8 0 v=v:=by
 obtain ⟨x,rfl⟩:∃ x:Nat,v=x:=⟨v.toNat,by omega⟩
 have:∀ y:Fin 16,bits BinOp.or IntKind.u8 0 ((y.val:Nat):Int)=((y.val:Nat):Int):=by decide
 exact this ⟨x,by omega⟩
set_option maxRecDepth 10000 in
theorem or_four (v u:Int) (h:0≤v) (h2:v≤15) (h3:0≤u) (h4:u≤15):bits BinOp.or IntKind.u8 (v * 16) u=16 * v + u:=by
 obtain ⟨x,rfl⟩:∃ x:Nat,v=x:=⟨v.toNat,by omega⟩
 obtain ⟨y,rfl⟩:∃ y:Nat,u=y:=⟨u.toNat,by omega⟩
 have:∀ a b:Fin 16,bits BinOp.or IntKind.u8 (((a.val:Nat):Int) * 16) ((b.val:Nat):Int)=16 * ((a.val:Nat):Int) + ((b.val:Nat):Int):=by decide
 exact this ⟨x,by omega⟩ ⟨y,by omega⟩
def cU (L:List UInt8) (j:Nat):Int × Nat × Bool :=
 if L.length≤j then (0,0,false) else if dF (atB L j) < 0 then (0,0,false)
 else if L.length≤j + 1 then (0,1,false) else if dF (atB L (j + 1)) < 0 then (0,1,false)
 else (16 * dF (atB L j) + dF (atB L (j + 1)),2,true)
theorem byte_at (s:ByteArray) (k:Nat) (h:k < s.size):s[k]'h=atB s.data.toList k:=by
 unfold atB
 have h2:k < s.data.toList.length:=by simpa using h
 rw [List.getD_eq_getElem?_getD,List.getElem?_eq_getElem h2]
 rfl
set_option maxRecDepth 100000 in
theorem hex_c (s:ByteArray) (j:Nat) (w:World) (hj:j≤s.size) (hs:s.size≤1000000000):Calls Tryz.prog 179 #[.string s,.int .i64 j] w fun e w'=>e=.returned (.tuple #[.int .u8 (cU s.data.toList j).1,.int .i64 (j + (cU s.data.toList j).2.1:Nat),.bool (cU s.data.toList j).2.2])∧w'=w:=by
 obtain ⟨L,hL⟩:∃ L,L=s.data.toList:=⟨_,rfl⟩
 have hLn:L.length=s.size:=by rw [hL];simp
 have HAt:=hide (show ∀ k (h:k < s.size),s[k]'h=atB L k from fun k h=>by rw [hL];exact byte_at s k h)
 have HDg:=hide (fun (b:UInt8) (m:Int) (hm:m=b.toNat) (w':World)=>digit_c b m hm w')
 rw [← hL]
 obtain ⟨R,hR⟩:∃ R,R=cU L j:=⟨_,rfl⟩
 have HR:=hide (show R=if s.size≤j then (0,0,false) else if dF (atB L j) < 0 then (0,0,false) else if s.size≤j + 1 then (0,1,false) else if dF (atB L (j + 1)) < 0 then (0,1,false) else (16 * dF (atB L j) + dF (atB L (j + 1)),2,true) by rw [hR];unfold cU;rw [hLn])
 rw [← hR]
 obtain ⟨v1,hv1⟩:∃ v1,v1=dF (atB L j):=⟨_,rfl⟩
 obtain ⟨v2,hv2⟩:∃ v2,v2=dF (atB L (j + 1)):=⟨_,rfl⟩
 have b1:=fP (atB L j)
 have b2:=fP (atB L (j + 1))
 rw [← hv1] at HR b1
 rw [← hv2] at HR b2
 have HV1:=hide hv1
 have HV2:=hide hv2
 clear hR hL hLn hv1 hv2
 go_enter Tryz.func179,Tryz.ntmps179
 go_wp2_with fail
 go_loopw [7,11] (fun n k wr=>((k=.int .i64 0∧n=.int .u8 0)∨(k=.int .i64 1∧n=.int .u8 v1∧j < s.size∧0≤v1)∨(k=.int .i64 2∧n=.int .u8 (16 * v1 + v2)∧j + 1 < s.size∧0≤v1∧0≤v2))∧Hid (wr=w)) (fun _ k _=>2 - (intOf k).toNat)
 case atStart=>exact ⟨Or.inl ⟨rfl,rfl⟩,hide rfl⟩
 case round =>
  obtain ⟨hk,hw⟩:=hrel
  rw [hw.out]
  clear hw
  rcases hk with ⟨rfl,rfl⟩ | ⟨rfl,rfl,h1,h2⟩ | ⟨rfl,rfl,h1,h2,h3⟩
  ·have w0:IntKind.i64.wrap ((j:Int) + 0)=(j:Int):=by rw [Int.add_zero];exact IntWalk.i64_in _ (by omega)
   by_cases hlt:j < s.size
   ·have d1:decide ((s.size:Int)≤(j:Int))=false:=by simp;omega
    have d2:decide ((j:Int) ≥ (s.size:Int))=false:=by simp;omega
    have d3:decide (s.size≤j)=false:=by simp;omega
    have j1:(0:Int)≤(j:Int):=by omega
    have j2:(j:Int) < (s.size:Int):=by omega
    have HA:=hide (HAt.out j hlt)
    have HDq:=hide (HDg.out (atB L j) ((s[j]'hlt).toNat:Int) (by rw [HA.out]) w)
    rw [← HV1.out] at HDq
    by_cases h1:0≤v1
    ·have d4:decide (0≤v1)=true:=by simp;exact h1
     have m1:max v1 0=v1:=by omega
     rw [d4,m1] at HDq
     go_wp2_with fail
     refine HDq.out.mono ?_
     rintro e wq ⟨rfl,hwq⟩
     rw [hwq]
     clear hwq
     have o1:=or_zero v1 h1 b1.1
     go_wp2_with fail
     go_roundw
     case rel=>exact ⟨Or.inr (Or.inl ⟨rfl,rfl,hlt,h1⟩),hide (by first | rfl | trivial)⟩
     case measure=>simp [intOf]
    ·have d4:decide (0≤v1)=false:=by simp;omega
     have m1:max v1 0=0:=by omega
     rw [d4,m1] at HDq
     have HE:=hide (show R=(0,0,false) by rw [HR.out,if_neg (by omega),if_pos (by omega)])
     go_wp2_with fail
     refine HDq.out.mono ?_
     rintro e wq ⟨rfl,hwq⟩
     rw [hwq]
     clear hwq
     go_wp2_with fail
     refine bodyPost_ret (v:=.tuple #[.int .u8 0,.int .i64 j,.bool false]) (by simp [results,Tryz.results179,go_sem]) rfl ?_
     exact ⟨by rw [HE.out];rfl,rfl⟩
   ·have d1:decide ((s.size:Int)≤(j:Int))=true:=by simp;omega
    have d2:decide ((j:Int) ≥ (s.size:Int))=true:=by simp;omega
    have d3:decide (s.size≤j)=true:=by simp;omega
    have HE:=hide (show R=(0,0,false) by rw [HR.out,if_pos (by omega)])
    have hje:j=s.size:=by omega
    have HJ:=hide hje
    clear hje
    go_wp2_with fail
    refine bodyPost_ret (v:=.tuple #[.int .u8 0,.int .i64 s.size,.bool false]) (by simp [results,Tryz.results179,go_sem]) rfl ?_
    exact ⟨by rw [HE.out,← HJ.out];rfl,rfl⟩
  ·have w0:IntKind.i64.wrap ((j:Int) + 1)=((j + 1:Nat):Int):=by rw [IntWalk.i64_in _ (by omega)];omega
   by_cases hlt:j + 1 < s.size
   ·have d1:decide ((s.size:Int)≤((j + 1:Nat):Int))=false:=by simp;omega
    have d2:decide (((j + 1:Nat):Int) ≥ (s.size:Int))=false:=by simp;omega
    have d3:decide (s.size≤j + 1)=false:=by simp;omega
    have j1:(0:Int)≤((j + 1:Nat):Int):=by omega
    have j2:((j + 1:Nat):Int) < (s.size:Int):=by omega
    have HA:=hide (HAt.out (j + 1) hlt)
    have HDq:=hide (HDg.out (atB L (j + 1)) ((s[j + 1]'hlt).toNat:Int) (by rw [HA.out]) w)
    rw [← HV2.out] at HDq
    by_cases h3:0≤v2
    ·have d4:decide (0≤v2)=true:=by simp;exact h3
     have m1:max v2 0=v2:=by omega
     rw [d4,m1] at HDq
     go_wp2_with fail
     refine HDq.out.mono ?_
     rintro e wq ⟨rfl,hwq⟩
     rw [hwq]
     clear hwq
     have o1:=or_four v1 v2 h2 b1.1 h3 b2.1
     go_wp2_with fail
     go_roundw
     case rel=>exact ⟨Or.inr (Or.inr ⟨rfl,rfl,hlt,h2,h3⟩),hide (by first | rfl | trivial)⟩
     case measure=>simp [intOf]
    ·have d4:decide (0≤v2)=false:=by simp;omega
     have m1:max v2 0=0:=by omega
     rw [d4,m1] at HDq
     have HE:=hide (show R=(0,1,false) by rw [HR.out,if_neg (by omega),if_neg (by omega),if_neg (by omega),if_pos (by omega)])
     go_wp2_with fail
     refine HDq.out.mono ?_
     rintro e wq ⟨rfl,hwq⟩
     rw [hwq]
     clear hwq
     go_wp2_with fail
     refine bodyPost_ret (v:=.tuple #[.int .u8 0,.int .i64 (j + 1:Nat),.bool false]) (by simp [results,Tryz.results179,go_sem]) rfl ?_
     exact ⟨by rw [HE.out],rfl⟩
   ·have d1:decide ((s.size:Int)≤((j + 1:Nat):Int))=true:=by simp;omega
    have d2:decide (((j + 1:Nat):Int) ≥ (s.size:Int))=true:=by simp;omega
    have d3:decide (s.size≤j + 1)=true:=by simp;omega
    have HE:=hide (show R=(0,1,false) by rw [HR.out,if_neg (by omega),if_neg (by omega),if_pos (by omega)])
    have hje:j + 1=s.size:=by omega
    have HJ:=hide hje
    clear hje
    go_wp2_with fail
    refine bodyPost_ret (v:=.tuple #[.int .u8 0,.int .i64 s.size,.bool false]) (by simp [results,Tryz.results179,go_sem]) rfl ?_
    exact ⟨by rw [HE.out,← HJ.out],rfl⟩
  ·have HE:=hide (show R=(16 * v1 + v2,2,true) by rw [HR.out,if_neg (by omega),if_neg (by omega),if_neg (by omega),if_neg (by omega)])
   have w0:IntKind.i64.wrap ((j:Int) + 2)=((j + 2:Nat):Int):=by rw [IntWalk.i64_in _ (by omega)];omega
   go_wp2_with fail
   refine bodyPost_ret (v:=.tuple #[.int .u8 (16 * v1 + v2),.int .i64 (j + 2:Nat),.bool true]) (by simp [results,Tryz.results179,go_sem]) rfl ?_
   exact ⟨by rw [HE.out],rfl⟩
theorem qL (L:List UInt8) (i:Nat):bD L i=if L.length≤i then (0,0,false) else if (atB L i).toNat < 32∨126 < (atB L i).toNat∨atB L i=34 then (0,0,false) else if atB L i≠92 then (atB L i,1,true) else if L.length≤i + 1 then (0,1,false)
 else match kG (atB L (i + 1)) with
 | some b=>(b,2,true)
 | none=>if atB L (i + 1)≠120 then (0,1,false) else ((UInt8.ofNat (cU L (i + 2)).1.toNat),2 + (cU L (i + 2)).2.1,(cU L (i + 2)).2.2):=by
 unfold bD cU
 cases he:kG (atB L (i + 1)) with
 | some b=>simp only
 | none =>
  simp only
  split
  ·rfl
  split
  ·rfl
  split
  ·rfl
  split
  ·rfl
  split
  ·rfl
  split
  ·rfl
  split
  ·rfl
  split
  ·rfl
  split
  ·rfl
  rename_i h1 _ h2
  have a:=fP (atB L (i + 2))
  have b:=fP (atB L (i + 3))
  simp only [show i + 2 + 1=i + 3 from rfl] at h2 ⊢
  congr 2
  omega
theorem wrong_q (s:ByteArray) (i:Nat) (w:World) (hi:i≤s.size):Calls Tryz.prog 144 #[.string s,.int .i64 i] w fun e w'=>e=.returned (.tuple #[.string ⟨#[]⟩,.int .i64 i,.int .i64 (if i=s.size then 3 else 2:Nat)])∧w'=w:=by
 by_cases h:i=s.size
 ·have d1:decide ((s.size:Int)≤(i:Int))=true:=by simp;omega
  have d2:decide ((i:Int) ≥ (s.size:Int))=true:=by simp;omega
  have d3:decide (s.size≤i)=true:=by simp;omega
  have H:=hide h
  rw [if_pos h]
  clear h hi
  go_enter Tryz.func144,Tryz.ntmps144
  go_wp2_with fail
  refine bodyPost_ret (v:=.tuple #[.string ⟨#[]⟩,.int .i64 s.size,.int .i64 3]) (by simp [results,Tryz.results144,go_sem]) rfl ?_
  exact ⟨by rw [← H.out];rfl,rfl⟩
 ·have d1:decide ((s.size:Int)≤(i:Int))=false:=by simp;omega
  have d2:decide ((i:Int) ≥ (s.size:Int))=false:=by simp;omega
  have d3:decide (s.size≤i)=false:=by simp;omega
  rw [if_neg h]
  clear h hi
  go_enter Tryz.func144,Tryz.ntmps144
  go_wp2_with fail
  refine bodyPost_ret (v:=.tuple #[.string ⟨#[]⟩,.int .i64 i,.int .i64 2]) (by simp [results,Tryz.results144,go_sem]) rfl ?_
  exact ⟨rfl,rfl⟩
end Go.Proofs.YtaioaojfdngfdaaGreatDoor
namespace Go.Proofs.YtaioaojfdngfdaaGreatDoor
open Go.RowKit Go.Sort
abbrev encI (t:Int):List Value:=[.int .i64 t]
end Go.Proofs.YtaioaojfdngfdaaGreatDoor
namespace Go.Proofs.YtaioaojfdngfdaaGreatDoor
open Go.RowKit
theorem vF {s:ByteArray} (h:s.size=0):s.toList=[]:=by
 rw [ByteArray.toList_eq]
 exact List.eq_nil_of_length_eq_zero (by rw [cT];exact h)
theorem rQ {s:ByteArray} (h:s.size≠0):s.toList.isEmpty=false:=by
 rw [ByteArray.toList_eq]
 cases hq:s.data.toList with
 | nil=>exact absurd (by rw [← cT,hq];rfl) h
 | cons a r=>rfl
theorem rR (s:ByteArray) (k:Nat) (h:k < s.size):s.data.toList[k]?=some s[k]:=by
 rw [List.getElem?_eq_getElem (by rw [cT];exact h)]
 rfl
theorem vR {s:ByteArray} {k:Nat} (h:k < s.size) (hc:okC s[k]=false):nameB s=false:=by
 unfold nameB eE
 have hm:s[k] ∈ s.data.toList:=List.mem_of_getElem? (rR s k h)
 have:s.data.toList.all okC=false:=by
  cases hq:s.data.toList.all okC with
  | false=>rfl
  | true=>rw [List.all_eq_true] at hq;rw [hq _ hm] at hc;cases hc
 rw [this];simp
theorem oD {s:ByteArray} (h:0 < s.size) (hc:s[0].toNat < 97):nameB s=false:=by
 unfold nameB eE
 have e:s.data.toList.getD 0 0=s[0]:=by rw [List.getD_eq_getElem?_getD,rR s 0 h];rfl
 rw [e]
 have:decide (97≤s[0].toNat)=false:=by simp;omega
 rw [this];simp
theorem jW {s:ByteArray} (h:s.size=0∨16 < s.size):nameB s=false:=by
 unfold nameB eE
 rcases h with h | h
 ·have e:s.data.toList=[]:=List.eq_nil_of_length_eq_zero (by rw [cT];exact h)
  rw [e];rfl
 ·have:decide (s.data.toList.length≤16)=false:=by rw [cT];simp;omega
  rw [this];simp
theorem sU {s:ByteArray} (h0:0 < s.size) (h16:s.size≤16) (hf:97≤s[0].toNat) (h:∀ k,(hk:k < s.size)→okC s[k]=true):nameB s=true:=by
 unfold nameB eE
 have e:s.data.toList.getD 0 0=s[0]:=by rw [List.getD_eq_getElem?_getD,rR s 0 h0];rfl
 have hne:s.data.toList≠[]:=fun e=>by have:=cT s;rw [e] at this;simp at this;omega
 have hall:s.data.toList.all okC=true:=by
  rw [List.all_eq_true]
  intro x hx
  obtain ⟨k,hk,rfl⟩:=List.mem_iff_getElem.1 hx
  exact h k (by rw [← cT];exact hk)
 rw [e,hall]
 simp [hne,hf,h16]
theorem okC_t {c:UInt8} (h:97≤c.toNat∧c.toNat≤122∨48≤c.toNat∧c.toNat≤57):okC c=true:=by
 unfold okC;rcases h with ⟨a,b⟩ | ⟨a,b⟩<;>simp [a,b]
theorem okC_f {c:UInt8} (h:¬ (97≤c.toNat∧c.toNat≤122∨48≤c.toNat∧c.toNat≤57)):okC c=false:=by
 cases hq:okC c with
 | false=>rfl
 | true =>
  exfalso
  apply h
  unfold okC at hq
  simp at hq
  omega
set_option maxRecDepth 100000 in
theorem Name_c (s:ByteArray) (w:World) (hs:s.size≤9223372036854775807) :
 Calls Tryz.prog 132 #[.string s] w fun e w'=>e=.returned (.bool (nameB s))∧w=w':=by
 by_cases h0:s.size=0
 ·have H:=hide (jW (Or.inl h0))
  have e1:=vF h0
  have e2:s.toList.isEmpty=true:=by rw [e1];rfl
  clear h0
  go_enter Tryz.func132,Tryz.ntmps132
  go_wp2
  go_ret
  exact ⟨by rw [H.out];rfl,rfl⟩
 ·have e2:=rQ h0
  by_cases h16:16 < s.size
  ·have H:=hide (jW (Or.inr h16))
   have d1:decide ((16:Int) < (s.size:Int))=true:=by simp;omega
   have d2:decide (16 < s.size)=true:=by simp;omega
   go_enter Tryz.func132,Tryz.ntmps132
   go_wp2
   go_ret
   exact ⟨by rw [H.out];rfl,rfl⟩
  ·have d1:decide ((16:Int) < (s.size:Int))=false:=by simp;omega
   have d2:decide (16 < s.size)=false:=by simp;omega
   have hp:0 < s.size:=by omega
   have hp2:(0:Int) < (s.size:Int):=by omega
   by_cases hf:s[0].toNat < 97
   ·have H:=hide (oD hp hf)
    have d3:decide ((s[0].toNat:Int) < 97)=true:=by simp;omega
    have d4:decide (s[0].toNat < 97)=true:=by simp;omega
    go_enter Tryz.func132,Tryz.ntmps132
    go_wp2
    go_ret
    exact ⟨by rw [H.out];rfl,rfl⟩
   ·have H:=hide (fun h=>sU hp (by omega) (by omega) h)
    have d3:decide ((s[0].toNat:Int) < 97)=false:=by simp;omega
    have d4:decide (s[0].toNat < 97)=false:=by simp;omega
    go_enter Tryz.func132,Tryz.ntmps132
    go_wp2
    go_loop [3,18] (fun _ i=>∃ k:Nat,k≤s.size∧i=.int .i64 k∧Hid (∀ j,(hj:j < s.size)→j < k→okC s[j]=true)) (fun _ i=>s.size - (intOf i).toNat)
    case atStart=>exact ⟨0,Nat.zero_le _,rfl,hide (fun j hj h=>by omega)⟩
    case round =>
     obtain ⟨k,hk,rfl,hall⟩:=hrel
     by_cases hlt:k < s.size
     ·have HF:=hide (fun h=>vR hlt (okC_f h))
      have HT:=hide (show (97≤s[k].toNat∧s[k].toNat≤122∨48≤s[k].toNat∧s[k].toNat≤57)→okC s[k]=true from okC_t)
      have hb:s[k].toNat < 256:=UInt8.toNat_lt _
      go_wp2
      all_goals first
       | (go_ret
          exact ⟨by rw [HF.out (by omega)];rfl,rfl⟩)
       | (go_round
          case rel=>exact ⟨k + 1,by omega,by go_num,hide (fun j hj h=>by
           rcases Nat.lt_or_ge j k with hjk | hjk
           ·exact hall.out j hj hjk
           ·obtain rfl:j=k:=by omega
            exact HT.out (by omega))⟩
          case measure=>simp [intOf];omega)
     ·go_wp2
      go_ret
      exact ⟨by rw [H.out (fun j hj=>hall.out j hj (by omega))];rfl,rfl⟩
def aE (w:World) (g:Nat):Nat→List Value→World
 | _,[]=>w
 | i,v :: r=>aE (w.setCell ⟨g,i,none⟩ v) g (i + 1) r
def lG (cs:Array Value):Nat→List Value→Array Value
 | _,[]=>cs
 | i,v :: r=>lG (cs.setIfInBounds i v) (i + 1) r
theorem lF:∀ (vs pre old:List Value),vs.length=old.length→lG (pre++old).toArray pre.length vs=(pre++vs).toArray
 | [],pre,old,h=>by
  obtain rfl:old=[]:=List.eq_nil_of_length_eq_zero (by simpa using h.symm)
  rfl
 | v :: r,pre,[],h=>by simp at h
 | v :: r,pre,o :: q,h=>by
  have e:(pre++o :: q).toArray.setIfInBounds pre.length v=((pre++[v])++q).toArray:=by
   apply Array.toList_inj.1
   simp
  have:=lF r (pre++[v]) q (by simpa using h)
  rw [lG,e]
  simp at this ⊢
  exact this
section
variable {w w0:World} {g:Nat} {t:TypeId} {cs:Array Value}
theorem Blk.putFrom_ (vs:List Value) (i:Nat) (h:Blk w g t cs):Blk (aE w g i vs) g t (lG cs i vs):=by
 induction vs generalizing w i cs with
 | nil=>exact h
 | cons v r ih=>exact ih (i + 1) (h.set_ i v)
theorem Blk.put (vs:List Value) (h:Blk w g t cs) (hl:vs.length=cs.size):Blk (aE w g 0 vs) g t vs.toArray:=by
 have h1:=h.putFrom_ vs 0
 have e:lG cs 0 vs=vs.toArray:=by
  have:=lF vs [] cs.toList (by simpa using hl)
  simpa using this
 rw [e] at h1
 exact h1
theorem aP (vs:List Value) (i:Nat) (w:World) (g:Nat):Only (· = g) w (aE w g i vs):=by
 induction vs generalizing w i with
 | nil=>exact Only.refl _ _
 | cons v r ih=>exact ((Only.refl (· = g) w).setCell (Or.inl rfl) v).trans (ih (i + 1) _)
theorem bX {B:Nat} (vs:List Value) (i:Nat) (h:Below B w0 w) (hg:B≤g):Below B w0 (aE w g i vs):=by
 induction vs generalizing w i with
 | nil=>exact h
 | cons v r ih=>exact ih (i + 1) (h.setCell hg v)
end
section
variable (w:World) (g:Nat) (a b c d e f h:Value)
theorem dW:(((w.setCell ⟨g,0,none⟩ a).setCell ⟨g,1,none⟩ b).setCell ⟨g,2,none⟩ c).setCell ⟨g,3,none⟩ d=aE w g 0 [a,b,c,d]:=rfl
theorem put5:((((w.setCell ⟨g,0,none⟩ a).setCell ⟨g,1,none⟩ b).setCell ⟨g,2,none⟩ c).setCell ⟨g,3,none⟩ d).setCell ⟨g,4,none⟩ e=aE w g 0 [a,b,c,d,e]:=rfl
end
theorem Blk.four {w:World} {g:Nat} {t:TypeId} {a b c d:Value} (h:Blk w g t #[a,b,c,d]) :
 (w.cell? ⟨g,0,none⟩=some a∧w.cell? ⟨g,1,none⟩=some b∧w.cell? ⟨g,2,none⟩=some c∧w.cell? ⟨g,3,none⟩=some d)∧w.frozen? ⟨g,0,none⟩=false∧w.frozen? ⟨g,1,none⟩=false∧w.frozen? ⟨g,2,none⟩=false∧w.frozen? ⟨g,3,none⟩=false :=
 ⟨⟨by rw [h.cell];rfl,by rw [h.cell];rfl,by rw [h.cell];rfl,by rw [h.cell];rfl⟩,h.frozen 0,h.frozen 1,h.frozen 2,h.frozen 3⟩
theorem Blk.five {w:World} {g:Nat} {t:TypeId} {a b c d e:Value} (h:Blk w g t #[a,b,c,d,e]) :
 (w.cell? ⟨g,0,none⟩=some a∧w.cell? ⟨g,1,none⟩=some b∧w.cell? ⟨g,2,none⟩=some c∧w.cell? ⟨g,3,none⟩=some d∧w.cell? ⟨g,4,none⟩=some e)∧w.frozen? ⟨g,0,none⟩=false∧w.frozen? ⟨g,1,none⟩=false∧w.frozen? ⟨g,2,none⟩=false∧w.frozen? ⟨g,3,none⟩=false∧w.frozen? ⟨g,4,none⟩=false :=
 ⟨⟨by rw [h.cell];rfl,by rw [h.cell];rfl,by rw [h.cell];rfl,by rw [h.cell];rfl,by rw [h.cell];rfl⟩,h.frozen 0,h.frozen 1,h.frozen 2,h.frozen 3,h.frozen 4⟩
def setA (a b c d:Int):Array Value:=#[.int .u64 a,.int .u64 b,.int .u64 c,.int .u64 d]
def fO (w:World) (e:Ending) (w':World):Prop:=∃ a b c d:Int,e=.returned (.agg (setA a b c d))∧Below w.heap.size w w'
theorem with_c (a b c d:Int) (x:Nat) (w:World) (hx:x < 256):Calls Tryz.prog 249 #[.agg (setA a b c d),.int .u8 x] w (fO w):=by
 unfold setA
 have hr1:Int.tmod (x:Int) 64=((x % 64:Nat):Int):=by rw [Int.tmod_eq_emod_of_nonneg (by omega)];omega
 have hr2:(x:Int) % 64=((x % 64:Nat):Int):=by omega
 have hr3:x % 64 < 64:=Nat.mod_lt _ (by omega)
 have h4:x / 64=0∨x / 64=1∨x / 64=2∨x / 64=3:=by omega
 rcases h4 with h4 | h4 | h4 | h4
 all_goals
  have hq1:Int.tdiv (x:Int) 64=((x / 64:Nat):Int):=by rw [Int.tdiv_eq_ediv_of_nonneg (by omega)];omega
  have hq2:(x:Int) / 64=((x / 64:Nat):Int):=by omega
  rw [h4] at hq1 hq2
  clear h4
  obtain ⟨r,hr⟩:∃ r,r=x % 64:=⟨_,rfl⟩
  rw [← hr] at hr1 hr2 hr3
  clear hr
  go_enter Tryz.func249,Tryz.ntmps249
  go_wp2
  refine bodyPost_ret (v:=.agg #[_,_,_,_]) (by simp [results,Tryz.results249,go_sem];exact ⟨rfl,rfl,rfl,rfl⟩) rfl ?_
  exact ⟨_,_,_,_,rfl,(aK _ _).alloc (by simp) _⟩
set_option maxRecDepth 100000 in
theorem span_c (x y:Nat) (w:World) (hx:x < 256) (hy:y < 256):Calls Tryz.prog 245 #[.int .u8 x,.int .u8 y] w (fO w):=by
 have w0:IntKind.i64.wrap (x:Int)=(x:Int):=IntWalk.i64_in _ (by omega)
 have w1:IntKind.i64.wrap (y:Int)=(y:Int):=IntWalk.i64_in _ (by omega)
 go_enter Tryz.func245,Tryz.ntmps245
 go_wp2
 go_loopw [6] (fun i wr=>∃ k:Nat,k≤256∧i=.int .i64 k∧Hid (∃ a b c d,Blk wr (w.heap.size + 1) 249 (setA a b c d))∧Hid (Blk wr w.heap.size 249 (setA 0 0 0 0))∧Hid (Below w.heap.size w wr)) (fun i _=>256 - (intOf i).toNat)
 case atStart=>exact ⟨x,by omega,by go_num,hide ⟨0,0,0,0,Blk.new' (by simp)⟩,hide ((Blk.new _ _ _).alloc _),hide ((aK _ _).alloc (by simp) _)⟩
 case round =>
  obtain ⟨k,hk,rfl,hb,hz,hbel⟩:=hrel
  obtain ⟨a,b,c,d,hb⟩:=hb.out
  have hlt:=hb.lt
  have HB:=hide hb
  obtain ⟨⟨g0,g1,g2,g3⟩,f0,f1,f2,f3⟩:=hb.four
  clear hb
  by_cases hle:k≤y
  ·have w2:IntKind.u8.wrap (k:Int)=(k:Int):=by
    have:IntKind.u8.wrap (k:Int)=(k:Int) % 256:=rfl
    omega
   have d1:decide ((k:Int)≤(y:Int))=true:=by simp;omega
   have d2:decide (k≤y)=true:=by simp;omega
   have HW:=hide (fun (w':World)=>show Calls Tryz.prog 249 #[.agg #[.int .u64 a,.int .u64 b,.int .u64 c,.int .u64 d],.int .u8 k] w' (fO w') from with_c a b c d k w' (by omega))
   go_wp2_with fail
   refine (HW.out _).mono ?_
   rintro e w4 ⟨a',b',c',d',rfl,hb4⟩
   unfold setA
   have hzl:=hz.out.lt
   have HZ4:=hide (hz.out.below hb4)
   have HB4:=hide (HB.out.below hb4)
   have HL4:=hide (hbel.out.trans (hb4.mono hbel.out.size))
   obtain ⟨⟨g0,g1,g2,g3⟩,f0,f1,f2,f3⟩:=HB4.out.four
   clear hb4
   go_wp2_with fail
   rw [dW]
   have r1:=HB4.out.put [.int .u64 a',.int .u64 b',.int .u64 c',.int .u64 d'] rfl
   have r2:=HZ4.out.only (aP [.int .u64 a',.int .u64 b',.int .u64 c',.int .u64 d'] 0 w4 (w.heap.size + 1)) (by omega)
   have r3:=bX [.int .u64 a',.int .u64 b',.int .u64 c',.int .u64 d'] 0 HL4.out (show w.heap.size≤w.heap.size + 1 by omega)
   obtain ⟨wz,hz⟩:∃ wz,wz=aE w4 (w.heap.size + 1) 0 [.int .u64 a',.int .u64 b',.int .u64 c',.int .u64 d']:=⟨_,rfl⟩
   rw [← hz] at r1 r2 r3 ⊢
   go_roundw
   case rel=>exact ⟨k + 1,by omega,by go_num,hide ⟨a',b',c',d',r1⟩,hide r2,hide r3⟩
   case measure=>simp [intOf];omega
  ·have d1:decide ((k:Int)≤(y:Int))=false:=by simp;omega
   have d2:decide (k≤y)=false:=by simp;omega
   obtain ⟨⟨z0,z1,z2,z3⟩,e0,e1,e2,e3⟩:=hz.out.four
   go_wp2_with fail
   rw [dW]
   have r2:=hz.out.put [.int .u64 a,.int .u64 b,.int .u64 c,.int .u64 d] rfl
   have r3:=bX [.int .u64 a,.int .u64 b,.int .u64 c,.int .u64 d] 0 hbel.out (Nat.le_refl _)
   obtain ⟨wz,hz⟩:∃ wz,wz=aE wr w.heap.size 0 [.int .u64 a,.int .u64 b,.int .u64 c,.int .u64 d]:=⟨_,rfl⟩
   rw [← hz] at r2 r3 ⊢
   obtain ⟨⟨g0,g1,g2,g3⟩,_⟩:=r2.four
   refine bodyPost_ret (v:=.agg #[.int .u64 a,.int .u64 b,.int .u64 c,.int .u64 d]) (by simp [results,Tryz.results245,go_sem,g0,g1,g2,g3]) rfl ?_
   exact ⟨a,b,c,d,rfl,r3⟩
theorem vN (x y:Nat) (w:World) (hx:x < 256) (hy:y < 256):Calls Tryz.prog 233 #[.int .u8 x,.int .u8 y] w (fO w):=by
 have HS:=hide (fun (w':World)=>span_c x y w' hx hy)
 go_enter Tryz.func233,Tryz.ntmps233
 go_wp2_with fail
 refine (HS.out _).mono ?_
 rintro e w4 ⟨a,b,c,d,rfl,hb⟩
 unfold setA
 have HB:=hide hb
 have hB:=(Blk.new w 249 (setA 0 0 0 0)).below hb
 have HZ:=hide hB
 obtain ⟨⟨g0,g1,g2,g3⟩,f0,f1,f2,f3⟩:=hB.four
 clear hb hB
 go_wp2_with fail
 rw [dW]
 have r2:=HZ.out.put [.int .u64 a,.int .u64 b,.int .u64 c,.int .u64 d] rfl
 have r3:=bX [.int .u64 a,.int .u64 b,.int .u64 c,.int .u64 d] 0 ((aK w _).trans (HB.out.mono (by simp))) (Nat.le_refl w.heap.size)
 obtain ⟨wz,hz⟩:∃ wz,wz=aE w4 w.heap.size 0 [.int .u64 a,.int .u64 b,.int .u64 c,.int .u64 d]:=⟨_,rfl⟩
 rw [← hz] at r2 r3 ⊢
 obtain ⟨⟨g0,g1,g2,g3⟩,_⟩:=r2.four
 refine bodyPost_ret (v:=.agg #[.int .u64 a,.int .u64 b,.int .u64 c,.int .u64 d]) (by simp [results,Tryz.results233,go_sem,g0,g1,g2,g3]) rfl ?_
 exact ⟨a,b,c,d,rfl,r3⟩
theorem sE (x:Nat) (w:World) (hx:x < 256):Calls Tryz.prog 235 #[.int .u8 x] w (fO w):=by
 have HS:=hide (fun (w':World)=>vN x x w' hx hx)
 go_enter Tryz.func235,Tryz.ntmps235
 go_wp2_with fail
 refine (HS.out _).mono ?_
 rintro e w4 ⟨a,b,c,d,rfl,hb⟩
 unfold setA
 have HB:=hide hb
 have hB:=(Blk.new w 249 (setA 0 0 0 0)).below hb
 have HZ:=hide hB
 obtain ⟨⟨g0,g1,g2,g3⟩,f0,f1,f2,f3⟩:=hB.four
 clear hb hB
 go_wp2_with fail
 rw [dW]
 have r2:=HZ.out.put [.int .u64 a,.int .u64 b,.int .u64 c,.int .u64 d] rfl
 have r3:=bX [.int .u64 a,.int .u64 b,.int .u64 c,.int .u64 d] 0 ((aK w _).trans (HB.out.mono (by simp))) (Nat.le_refl w.heap.size)
 obtain ⟨wz,hz⟩:∃ wz,wz=aE w4 w.heap.size 0 [.int .u64 a,.int .u64 b,.int .u64 c,.int .u64 d]:=⟨_,rfl⟩
 rw [← hz] at r2 r3 ⊢
 obtain ⟨⟨g0,g1,g2,g3⟩,_⟩:=r2.four
 refine bodyPost_ret (v:=.agg #[.int .u64 a,.int .u64 b,.int .u64 c,.int .u64 d]) (by simp [results,Tryz.results235,go_sem,g0,g1,g2,g3]) rfl ?_
 exact ⟨a,b,c,d,rfl,r3⟩
set_option maxRecDepth 100000 in
theorem negate_c (x0 x1 x2 x3:Int) (w:World):Calls Tryz.prog 254 #[.agg (setA x0 x1 x2 x3)] w (fO w):=by
 unfold setA
 go_enter Tryz.func254,Tryz.ntmps254
 go_wp2
 go_loopw [3,4] (fun _ i wr=>∃ k:Nat,k≤4∧i=.int .i64 k∧Hid (∃ a b c d,Blk wr w.heap.size 249 (setA a b c d))∧Hid (Blk wr (w.heap.size + 1) 249 (setA 0 0 0 0))∧Hid (Below w.heap.size w wr)) (fun _ i _=>4 - (intOf i).toNat)
 case atStart=>exact ⟨0,by omega,rfl,hide ⟨x0,x1,x2,x3,(Blk.new _ _ _).alloc _⟩,hide (Blk.new' (by simp)),hide ((aK _ _).alloc (by simp) _)⟩
 case round =>
  obtain ⟨k,hk,rfl,hb,hz,hbel⟩:=hrel
  obtain ⟨a,b,c,d,hb⟩:=hb.out
  have HB:=hide hb
  obtain ⟨⟨g0,g1,g2,g3⟩,f0,f1,f2,f3⟩:=hb.four
  clear hb
  by_cases hle:k < 4
  ·have h4:k=0∨k=1∨k=2∨k=3:=by omega
   rcases h4 with rfl | rfl | rfl | rfl
   all_goals
    go_wp2_with fail
    go_roundw
    case rel =>
     first
      | exact ⟨1,by omega,rfl,hide ⟨_,b,c,d,HB.out.set_ 0 _⟩,hide (hz.out.far (by simp) _),hide (hbel.out.setCell (Nat.le_refl _) _)⟩
      | exact ⟨2,by omega,rfl,hide ⟨a,_,c,d,HB.out.set_ 1 _⟩,hide (hz.out.far (by simp) _),hide (hbel.out.setCell (Nat.le_refl _) _)⟩
      | exact ⟨3,by omega,rfl,hide ⟨a,b,_,d,HB.out.set_ 2 _⟩,hide (hz.out.far (by simp) _),hide (hbel.out.setCell (Nat.le_refl _) _)⟩
      | exact ⟨4,by omega,rfl,hide ⟨a,b,c,_,HB.out.set_ 3 _⟩,hide (hz.out.far (by simp) _),hide (hbel.out.setCell (Nat.le_refl _) _)⟩
    case measure=>simp [intOf]
  ·obtain rfl:k=4:=by omega
   obtain ⟨⟨z0,z1,z2,z3⟩,e0,e1,e2,e3⟩:=hz.out.four
   go_wp2_with fail
   rw [dW]
   have r2:=hz.out.put [.int .u64 a,.int .u64 b,.int .u64 c,.int .u64 d] rfl
   have r3:=bX [.int .u64 a,.int .u64 b,.int .u64 c,.int .u64 d] 0 hbel.out (show w.heap.size≤w.heap.size + 1 by omega)
   obtain ⟨wz,hz⟩:∃ wz,wz=aE wr (w.heap.size + 1) 0 [.int .u64 a,.int .u64 b,.int .u64 c,.int .u64 d]:=⟨_,rfl⟩
   rw [← hz] at r2 r3 ⊢
   obtain ⟨⟨g0,g1,g2,g3⟩,_⟩:=r2.four
   refine bodyPost_ret (v:=.agg #[.int .u64 a,.int .u64 b,.int .u64 c,.int .u64 d]) (by simp [results,Tryz.results254,go_sem,g0,g1,g2,g3]) rfl ?_
   exact ⟨a,b,c,d,rfl,r3⟩
end Go.Proofs.YtaioaojfdngfdaaGreatDoor
