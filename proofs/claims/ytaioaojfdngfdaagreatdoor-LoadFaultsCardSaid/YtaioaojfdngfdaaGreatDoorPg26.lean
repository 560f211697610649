/- Parts of a chain of lemmas: Doc2, Pref, Few13, FewP. Conditions: those of each theorem. -/
import Derived.Test.YtaioaojfdngfdaaGreatDoorPg25
import Derived.Test.YtaioaojfdngfdaaGreatDoorPg01
import Derived.OrdersHeld
import Derived.StillTail
import Derived.RegionTactic
import Derived.Test.YtaioaojfdngfdaaGreatDoorPg19
import Derived.Test.YtaioaojfdngfdaaGreatDoorPg14
import Derived.Test.YtaioaojfdngfdaaGreatDoorPg09
import Derived.Deep.RegionHeld3
set_option linter.unusedVariables false
set_option linter.unusedSimpArgs false
set_option maxHeartbeats 6400000
namespace Go.Proofs.YtaioaojfdngfdaaGreatDoor
open Go.RowKit
set_option maxRecDepth 100000
theorem aN (w:World) (n:Nat):Only aA w (w.drewN n):=Only.drewN (Only.refl _ _) n
theorem pD (t:List UInt8) (q:Bool) (at_:Nat) (w:World) (ht:t.length≤1000000000):Calls Tryz.prog 77 #[.int .u8 110,.agg #[.string (bs t),.bool q,.int .i64 at_]] w fun e w'=>e=.returned (.int .i64 (aO 110 ⟨t,q,at_⟩:Nat))∧Only aA w w':=by
 obtain ⟨R,hR⟩:∃ R,R=aO 110 ⟨t,q,at_⟩:=⟨_,rfl⟩
 rw [← hR]
 obtain ⟨s,hs⟩:∃ s,s=bs t:=⟨_,rfl⟩
 have hsl:s.toList=t:=by rw [hs,ByteArray.toList_eq]
 have hsz:s.size=t.length:=by rw [hs];exact bJ t
 have hw:aO 110 ⟨t,q,at_⟩=if q=true then 2 else if eE t=false then 10 else 0:=by unfold aO;cases q<;>simp
 rw [hw] at hR
 have HNm:=hide (fun (w:World)=>pY (bs t) w (by rw [bJ];omega))
 rw [show nameB (bs t)=eE t from rfl,← hs] at HNm
 rw [← hs]
 clear hs hw
 cases q with
 | true =>
  have HE:=hide (show R=2 by rw [hR,if_pos rfl])
  clear hR hsl hsz
  go_enter Tryz.func77,Tryz.ntmps77
  go_wp2_with fail
  go_ret
  exact ⟨by rw [HE.out];rfl,(Only.refl aA w).alloc _⟩
 | false =>
  rw [if_neg (by simp)] at hR
  generalize eE t=nm at *
  clear hsl hsz
  go_enter Tryz.func77,Tryz.ntmps77
  go_wp2_with fail
  generalize hX:World.alloc w _=X
  have hI:Blk X w.heap.size 141 #[.string s,.bool false,.int .i64 at_]:=by rw [← hX];exact Blk.new _ _ _
  have HO:=hide (show Only aA w X by rw [← hX];exact (Only.refl aA w).alloc _)
  clear hX
  refine (HNm.out X).mono ?_
  rintro e wz ⟨rfl,k,hk⟩
  have HO2:=hide (show Only aA w wz by rw [hk];exact HO.out.drewN _)
  have hI2:Blk wz w.heap.size 141 #[.string s,.bool false,.int .i64 at_]:=hI.only (show Only aA X wz by rw [hk];exact aN _ _) (fun h=>h)
  clear hk hI
  obtain ⟨⟨x0,x1,x2⟩,_⟩:=hI2.three
  have HI:=hide hI2
  clear hI2
  cases nm with
  | false =>
   have HE:=hide (show R=10 by rw [hR,if_pos rfl])
   clear hR
   go_wp2_with fail
   go_ret
   exact ⟨by rw [HE.out];rfl,HO2.out⟩
  | true =>
   have HE:=hide (show R=0 by rw [hR,if_neg (by simp)])
   clear hR
   go_wp2_with fail
   go_ret
   exact ⟨by rw [HE.out];rfl,HO2.out⟩
theorem pE (t:List UInt8) (q:Bool) (at_:Nat) (w:World) (ht:t.length≤1000000000):Calls Tryz.prog 77 #[.int .u8 108,.agg #[.string (bs t),.bool q,.int .i64 at_]] w fun e w'=>e=.returned (.int .i64 (aO 108 ⟨t,q,at_⟩:Nat))∧Only aA w w':=by
 obtain ⟨R,hR⟩:∃ R,R=aO 108 ⟨t,q,at_⟩:=⟨_,rfl⟩
 rw [← hR]
 obtain ⟨s,hs⟩:∃ s,s=bs t:=⟨_,rfl⟩
 have hsl:s.toList=t:=by rw [hs,ByteArray.toList_eq]
 have hsz:s.size=t.length:=by rw [hs];exact bJ t
 have hw:aO 108 ⟨t,q,at_⟩=if q=true then 2 else if eE t=false then 10 else 0:=by unfold aO;cases q<;>simp
 rw [hw] at hR
 have HNm:=hide (fun (w:World)=>pY (bs t) w (by rw [bJ];omega))
 rw [show nameB (bs t)=eE t from rfl,← hs] at HNm
 rw [← hs]
 clear hs hw
 cases q with
 | true =>
  have HE:=hide (show R=2 by rw [hR,if_pos rfl])
  clear hR hsl hsz
  go_enter Tryz.func77,Tryz.ntmps77
  go_wp2_with fail
  go_ret
  exact ⟨by rw [HE.out];rfl,(Only.refl aA w).alloc _⟩
 | false =>
  rw [if_neg (by simp)] at hR
  generalize eE t=nm at *
  clear hsl hsz
  go_enter Tryz.func77,Tryz.ntmps77
  go_wp2_with fail
  generalize hX:World.alloc w _=X
  have hI:Blk X w.heap.size 141 #[.string s,.bool false,.int .i64 at_]:=by rw [← hX];exact Blk.new _ _ _
  have HO:=hide (show Only aA w X by rw [← hX];exact (Only.refl aA w).alloc _)
  clear hX
  refine (HNm.out X).mono ?_
  rintro e wz ⟨rfl,k,hk⟩
  have HO2:=hide (show Only aA w wz by rw [hk];exact HO.out.drewN _)
  have hI2:Blk wz w.heap.size 141 #[.string s,.bool false,.int .i64 at_]:=hI.only (show Only aA X wz by rw [hk];exact aN _ _) (fun h=>h)
  clear hk hI
  obtain ⟨⟨x0,x1,x2⟩,_⟩:=hI2.three
  have HI:=hide hI2
  clear hI2
  cases nm with
  | false =>
   have HE:=hide (show R=10 by rw [hR,if_pos rfl])
   clear hR
   go_wp2_with fail
   go_ret
   exact ⟨by rw [HE.out];rfl,HO2.out⟩
  | true =>
   have HE:=hide (show R=0 by rw [hR,if_neg (by simp)])
   clear hR
   go_wp2_with fail
   go_ret
   exact ⟨by rw [HE.out];rfl,HO2.out⟩
theorem pB (t:List UInt8) (q:Bool) (at_:Nat) (w:World) (ht:t.length≤1000000000):Calls Tryz.prog 77 #[.int .u8 113,.agg #[.string (bs t),.bool q,.int .i64 at_]] w fun e w'=>e=.returned (.int .i64 (aO 113 ⟨t,q,at_⟩:Nat))∧Only aA w w':=by
 obtain ⟨R,hR⟩:∃ R,R=aO 113 ⟨t,q,at_⟩:=⟨_,rfl⟩
 rw [← hR]
 obtain ⟨s,hs⟩:∃ s,s=bs t:=⟨_,rfl⟩
 have hsl:s.toList=t:=by rw [hs,ByteArray.toList_eq]
 have hsz:s.size=t.length:=by rw [hs];exact bJ t
 have hw:aO 113 ⟨t,q,at_⟩=if q=false then 2 else if t.length=0 then 9 else if 256 < t.length then 4 else 0:=by unfold aO;cases q<;>simp
 rw [hw] at hR
 rw [← hs]
 clear hs hw
 cases q with
 | false =>
  have HE:=hide (show R=2 by rw [hR,if_pos rfl])
  clear hR hsl hsz
  go_enter Tryz.func77,Tryz.ntmps77
  go_wp2_with fail
  go_ret
  exact ⟨by rw [HE.out];rfl,(Only.refl aA w).alloc _⟩
 | true =>
  rw [if_neg (by simp)] at hR
  by_cases hz:t.length=0
  case pos =>
   have q1:s.toList.isEmpty=true:=by rw [hsl,List.eq_nil_of_length_eq_zero hz];rfl
   have HE:=hide (show R=9 by rw [hR,if_pos hz])
   clear hR hsl hsz
   go_enter Tryz.func77,Tryz.ntmps77
   go_wp2_with fail
   go_ret
   exact ⟨by rw [HE.out];rfl,(Only.refl aA w).alloc _⟩
  case neg =>
   have q1:s.toList.isEmpty=false:=by
    rw [hsl]
    cases t with
    | nil=>exact absurd rfl hz
    | cons a r=>rfl
   by_cases h4:256 < t.length
   case pos =>
    have q2:decide ((256:Int) < (s.size:Int))=true:=by rw [hsz];simp;omega
    have q3:decide (256 < s.size)=true:=by rw [hsz];simp;omega
    have HE:=hide (show R=4 by rw [hR,if_neg hz,if_pos h4])
    clear hR hsl hsz
    go_enter Tryz.func77,Tryz.ntmps77
    go_wp2_with fail
    go_ret
    exact ⟨by rw [HE.out];rfl,(Only.refl aA w).alloc _⟩
   case neg =>
    have q2:decide ((256:Int) < (s.size:Int))=false:=by rw [hsz];simp;omega
    have q3:decide (256 < s.size)=false:=by rw [hsz];simp;omega
    have HE:=hide (show R=0 by rw [hR,if_neg hz,if_neg h4])
    clear hR hsl hsz
    go_enter Tryz.func77,Tryz.ntmps77
    go_wp2_with fail
    go_ret
    exact ⟨by rw [HE.out];rfl,(Only.refl aA w).alloc _⟩
theorem pC (t:List UInt8) (q:Bool) (at_:Nat) (w:World) (ht:t.length≤1000000000):Calls Tryz.prog 77 #[.int .u8 112,.agg #[.string (bs t),.bool q,.int .i64 at_]] w fun e w'=>e=.returned (.int .i64 (aO 112 ⟨t,q,at_⟩:Nat))∧Only aA w w':=by
 obtain ⟨R,hR⟩:∃ R,R=aO 112 ⟨t,q,at_⟩:=⟨_,rfl⟩
 rw [← hR]
 obtain ⟨s,hs⟩:∃ s,s=bs t:=⟨_,rfl⟩
 have hsl:s.toList=t:=by rw [hs,ByteArray.toList_eq]
 have hsz:s.size=t.length:=by rw [hs];exact bJ t
 have hw:aO 112 ⟨t,q,at_⟩=if q=false then 2 else if 64 < t.length then 4 else (bV t).2:=by unfold aO;cases q<;>simp
 rw [hw] at hR
 have HCh:=hide (fun (w:World)=>uI (bs t) w (by rw [bJ];omega))
 unfold iJ at HCh
 rw [show (bs t).data.toList=t from rfl,← hs] at HCh
 rw [← hs]
 clear hs hw
 cases q with
 | false =>
  have HE:=hide (show R=2 by rw [hR,if_pos rfl])
  clear hR hsl hsz
  go_enter Tryz.func77,Tryz.ntmps77
  go_wp2_with fail
  go_ret
  exact ⟨by rw [HE.out];rfl,(Only.refl aA w).alloc _⟩
 | true =>
  rw [if_neg (by simp)] at hR
  by_cases h4:64 < t.length
  case pos =>
   have q2:decide ((64:Int) < (s.size:Int))=true:=by rw [hsz];simp;omega
   have q3:decide (64 < s.size)=true:=by rw [hsz];simp;omega
   have HE:=hide (show R=4 by rw [hR,if_pos h4])
   clear hR hsl hsz
   go_enter Tryz.func77,Tryz.ntmps77
   go_wp2_with fail
   go_ret
   exact ⟨by rw [HE.out];rfl,(Only.refl aA w).alloc _⟩
  case neg =>
   have q2:decide ((64:Int) < (s.size:Int))=false:=by rw [hsz];simp;omega
   have q3:decide (64 < s.size)=false:=by rw [hsz];simp;omega
   have HE:=hide (show R=(bV t).2 by rw [hR,if_neg h4])
   obtain ⟨C,hC⟩:∃ C,C=bV t:=⟨_,rfl⟩
   rw [← hC] at HCh HE
   obtain ⟨C1,C2⟩:=C
   simp only at HCh HE
   clear hR hC hsl hsz h4
   go_enter Tryz.func77,Tryz.ntmps77
   go_wp2_with fail
   generalize hX:World.alloc w _=X
   have HO:=hide (show Only aA w X by rw [← hX];exact (Only.refl aA w).alloc _)
   clear hX
   refine (HCh.out X).mono ?_
   rintro e wz ⟨⟨A,n,c,rfl⟩,hbz⟩
   have HO2:=hide (HO.out.trans (Only.of_below hbz aA))
   clear hbz
   go_wp2_with fail
   go_ret
   exact ⟨by rw [HE.out];rfl,HO2.out⟩
theorem pH (t:List UInt8) (q:Bool) (at_:Nat) (w:World) (ht:t.length≤1000000000):Calls Tryz.prog 77 #[.int .u8 100,.agg #[.string (bs t),.bool q,.int .i64 at_]] w fun e w'=>e=.returned (.int .i64 (aO 100 ⟨t,q,at_⟩:Nat))∧Only aA w w':=by
 obtain ⟨R,hR⟩:∃ R,R=aO 100 ⟨t,q,at_⟩:=⟨_,rfl⟩
 rw [← hR]
 obtain ⟨s,hs⟩:∃ s,s=bs t:=⟨_,rfl⟩
 have hsl:s.toList=t:=by rw [hs,ByteArray.toList_eq]
 have hsz:s.size=t.length:=by rw [hs];exact bJ t
 have hw:aO 100 ⟨t,q,at_⟩=if q=true then 2 else (aF 100 t).2:=by unfold aO;cases q<;>simp
 rw [hw] at hR
 have HN:=hide (fun (w:World)=>jC t w ht)
 rw [← hs] at HN
 rw [← hs]
 clear hs hw
 cases q with
 | true =>
  have HE:=hide (show R=2 by rw [hR,if_pos rfl])
  clear hR hsl hsz
  go_enter Tryz.func77,Tryz.ntmps77
  go_wp2_with fail
  go_ret
  exact ⟨by rw [HE.out];rfl,(Only.refl aA w).alloc _⟩
 | false =>
  have HE:=hide (show R=(aF 100 t).2 by rw [hR,if_neg (by simp)])
  obtain ⟨C,hC⟩:∃ C,C=aF 100 t:=⟨_,rfl⟩
  rw [← hC] at HN HE
  obtain ⟨C1,C2⟩:=C
  simp only at HN HE
  clear hR hC hsl hsz
  go_enter Tryz.func77,Tryz.ntmps77
  go_wp2_with fail
  generalize hX:World.alloc w _=X
  have HO:=hide (show Only aA w X by rw [← hX];exact (Only.refl aA w).alloc _)
  clear hX
  refine (HN.out X).mono ?_
  rintro e wz ⟨rfl,rfl⟩
  go_wp2_with fail
  go_ret
  exact ⟨by rw [HE.out];rfl,HO.out⟩
theorem pG (t:List UInt8) (q:Bool) (at_:Nat) (w:World) (ht:t.length≤1000000000):Calls Tryz.prog 77 #[.int .u8 101,.agg #[.string (bs t),.bool q,.int .i64 at_]] w fun e w'=>e=.returned (.int .i64 (aO 101 ⟨t,q,at_⟩:Nat))∧Only aA w w':=by
 obtain ⟨R,hR⟩:∃ R,R=aO 101 ⟨t,q,at_⟩:=⟨_,rfl⟩
 rw [← hR]
 obtain ⟨s,hs⟩:∃ s,s=bs t:=⟨_,rfl⟩
 have hsl:s.toList=t:=by rw [hs,ByteArray.toList_eq]
 have hsz:s.size=t.length:=by rw [hs];exact bJ t
 have hw:aO 101 ⟨t,q,at_⟩=if q=true then 2 else (aF 101 t).2:=by unfold aO;cases q<;>simp
 rw [hw] at hR
 have HN:=hide (fun (w:World)=>jB t w ht)
 rw [← hs] at HN
 rw [← hs]
 clear hs hw
 cases q with
 | true =>
  have HE:=hide (show R=2 by rw [hR,if_pos rfl])
  clear hR hsl hsz
  go_enter Tryz.func77,Tryz.ntmps77
  go_wp2_with fail
  go_ret
  exact ⟨by rw [HE.out];rfl,(Only.refl aA w).alloc _⟩
 | false =>
  have HE:=hide (show R=(aF 101 t).2 by rw [hR,if_neg (by simp)])
  obtain ⟨C,hC⟩:∃ C,C=aF 101 t:=⟨_,rfl⟩
  rw [← hC] at HN HE
  obtain ⟨C1,C2⟩:=C
  simp only at HN HE
  clear hR hC hsl hsz
  go_enter Tryz.func77,Tryz.ntmps77
  go_wp2_with fail
  generalize hX:World.alloc w _=X
  have HO:=hide (show Only aA w X by rw [← hX];exact (Only.refl aA w).alloc _)
  clear hX
  refine (HN.out X).mono ?_
  rintro e wz ⟨rfl,rfl⟩
  go_wp2_with fail
  go_ret
  exact ⟨by rw [HE.out];rfl,HO.out⟩
theorem o9 (t:List UInt8) (q:Bool) (at_:Nat) (w:World) (ht:t.length≤1000000000):Calls Tryz.prog 77 #[.int .u8 116,.agg #[.string (bs t),.bool q,.int .i64 at_]] w fun e w'=>e=.returned (.int .i64 (aO 116 ⟨t,q,at_⟩:Nat))∧Only aA w w':=by
 obtain ⟨R,hR⟩:∃ R,R=aO 116 ⟨t,q,at_⟩:=⟨_,rfl⟩
 rw [← hR]
 obtain ⟨s,hs⟩:∃ s,s=bs t:=⟨_,rfl⟩
 have hsl:s.toList=t:=by rw [hs,ByteArray.toList_eq]
 have hsz:s.size=t.length:=by rw [hs];exact bJ t
 have hw:aO 116 ⟨t,q,at_⟩=if q=true then 2 else (aF 116 t).2:=by unfold aO;cases q<;>simp
 rw [hw] at hR
 have HN:=hide (fun (w:World)=>i8 t w ht)
 rw [← hs] at HN
 rw [← hs]
 clear hs hw
 cases q with
 | true =>
  have HE:=hide (show R=2 by rw [hR,if_pos rfl])
  clear hR hsl hsz
  go_enter Tryz.func77,Tryz.ntmps77
  go_wp2_with fail
  go_ret
  exact ⟨by rw [HE.out];rfl,(Only.refl aA w).alloc _⟩
 | false =>
  have HE:=hide (show R=(aF 116 t).2 by rw [hR,if_neg (by simp)])
  obtain ⟨C,hC⟩:∃ C,C=aF 116 t:=⟨_,rfl⟩
  rw [← hC] at HN HE
  obtain ⟨C1,C2⟩:=C
  simp only at HN HE
  clear hR hC hsl hsz
  go_enter Tryz.func77,Tryz.ntmps77
  go_wp2_with fail
  generalize hX:World.alloc w _=X
  have HO:=hide (show Only aA w X by rw [← hX];exact (Only.refl aA w).alloc _)
  clear hX
  refine (HN.out X).mono ?_
  rintro e wz ⟨rfl,rfl⟩
  go_wp2_with fail
  go_ret
  exact ⟨by rw [HE.out];rfl,HO.out⟩
theorem pF (t:List UInt8) (q:Bool) (at_:Nat) (w:World) (ht:t.length≤1000000000):Calls Tryz.prog 77 #[.int .u8 106,.agg #[.string (bs t),.bool q,.int .i64 at_]] w fun e w'=>e=.returned (.int .i64 (aO 106 ⟨t,q,at_⟩:Nat))∧Only aA w w':=by
 obtain ⟨R,hR⟩:∃ R,R=aO 106 ⟨t,q,at_⟩:=⟨_,rfl⟩
 rw [← hR]
 obtain ⟨s,hs⟩:∃ s,s=bs t:=⟨_,rfl⟩
 have hsl:s.toList=t:=by rw [hs,ByteArray.toList_eq]
 have hsz:s.size=t.length:=by rw [hs];exact bJ t
 have hw:aO 106 ⟨t,q,at_⟩=if q=true then 2 else (aF 106 t).2:=by unfold aO;cases q<;>simp
 rw [hw] at hR
 have HN:=hide (fun (w:World)=>jA t w ht)
 rw [← hs] at HN
 rw [← hs]
 clear hs hw
 cases q with
 | true =>
  have HE:=hide (show R=2 by rw [hR,if_pos rfl])
  clear hR hsl hsz
  go_enter Tryz.func77,Tryz.ntmps77
  go_wp2_with fail
  go_ret
  exact ⟨by rw [HE.out];rfl,(Only.refl aA w).alloc _⟩
 | false =>
  have HE:=hide (show R=(aF 106 t).2 by rw [hR,if_neg (by simp)])
  obtain ⟨C,hC⟩:∃ C,C=aF 106 t:=⟨_,rfl⟩
  rw [← hC] at HN HE
  obtain ⟨C1,C2⟩:=C
  simp only at HN HE
  clear hR hC hsl hsz
  go_enter Tryz.func77,Tryz.ntmps77
  go_wp2_with fail
  generalize hX:World.alloc w _=X
  have HO:=hide (show Only aA w X by rw [← hX];exact (Only.refl aA w).alloc _)
  clear hX
  refine (HN.out X).mono ?_
  rintro e wz ⟨rfl,rfl⟩
  go_wp2_with fail
  go_ret
  exact ⟨by rw [HE.out];rfl,HO.out⟩
theorem t7 (c:UInt8) (hc:c=110∨c=108∨c=113∨c=112∨c=100∨c=101∨c=116∨c=106) (t:List UInt8) (q:Bool) (at_:Nat) (w:World) (ht:t.length≤1000000000) :
 Calls Tryz.prog 77 #[.int .u8 c.toNat,.agg #[.string (bs t),.bool q,.int .i64 at_]] w fun e w'=>e=.returned (.int .i64 (aO c ⟨t,q,at_⟩:Nat))∧Only aA w w':=by
 rcases hc with rfl | rfl | rfl | rfl | rfl | rfl | rfl | rfl
 ·exact pD t q at_ w ht
 ·exact pE t q at_ w ht
 ·exact pB t q at_ w ht
 ·exact pC t q at_ w ht
 ·exact pH t q at_ w ht
 ·exact pG t q at_ w ht
 ·exact o9 t q at_ w ht
 ·exact pF t q at_ w ht
section
variable {P:Program} {ops:Array Oper} {Q:Exit→Act→World→Prop}
theorem nA:∀ (f:Nat) (listed:Array Bool) (a:Act) (w:World),wpAny P .any ops Q f listed a w→wpAny P .any ops Q (f + 1) listed a w
 | 0,_,_,_,h=>⟨fun _=>h.2,fun i hi=>by rw [h.1] at hi;cases hi⟩
 | f + 1,_,_,_,h=>⟨h.1,fun i hi=>wpOp_mono (fun a w h'=>nA f _ a w h') (h.2 i hi)⟩
theorem wpAny_le {f g:Nat} (hfg:f≤g) {listed:Array Bool} {a:Act} {w:World} (h:wpAny P .any ops Q f listed a w):wpAny P .any ops Q g listed a w:=by
 induction hfg with
 | refl=>exact h
 | step _ ih=>exact nA _ _ _ _ ih
theorem wO {R R':Act→World→Prop} {i:Nat} {K:Act→World→Prop} {a:Act} {w:World} (h:wpOp P ops (Exit.then R Q) i K a w):wpOp P ops (Exit.then R' Q) i K a w:=by
 unfold wpOp at h ⊢
 cases ho:ops[i]? with
 | none=>rw [ho] at h;exact h
 | some o =>
  rw [ho] at h
  by_cases hw:Region.wanted o (yielded ops a.tmps)=true
  ·simp only [hw,if_true] at h ⊢
   rcases h with h | ⟨h1,h2⟩
   ·left
    unfold Oper.wp at h ⊢
    generalize (execOp a.eval o).run P w=r at *
    cases r with
    | ok nx w'=>cases nx<;>exact h
    | halt x w'=>cases x<;>exact h
   ·exact Or.inr ⟨h1,h2⟩
  ·simp only [hw] at h ⊢
   exact h
theorem m9 {R R':Act→World→Prop} (hR:∀ a w,R a w→R' a w):∀ (f:Nat) (listed:Array Bool) (a:Act) (w:World),wpAny P .any ops (Exit.then R Q) f listed a w→wpAny P .any ops (Exit.then R' Q) f listed a w
 | 0,_,_,_,h=>⟨h.1,hR _ _ h.2⟩
 | f + 1,_,_,_,h=>⟨fun e=>hR _ _ (h.1 e),fun i hi=>wO (wpOp_mono (fun a w h'=>m9 hR f _ a w h') (h.2 i hi))⟩
def nS (ops:Array Oper) (n:Nat):Bool :=
 ((List.range n).all fun t=>match ops[t]? with
   | none=>false
   | some o=>o.guard.isNone && o.after.all (fun e=>!Region.binds .any e || decide (e.on < t))) && decide (n < ops.size) && Region.sinkB .any ops n && Region.chainB .any ops n
theorem lJ {n t:Nat} {o:Oper} (hB:nS ops n=true) (ho:ops[t]?=some o) (ht:t < n):o.guard=none∧∀ e ∈ o.after,Region.binds .any e=true→e.on < t:=by
 unfold nS at hB
 simp only [Bool.and_eq_true] at hB
 have h:=(List.all_eq_true.1 hB.1.1.1) t (List.mem_range.2 ht)
 rw [ho] at h
 simp only [Bool.and_eq_true,Option.isNone_iff_eq_none,Array.all_eq_true_iff_forall_mem,Bool.or_eq_true,Bool.not_eq_true',decide_eq_true_eq] at h
 refine ⟨h.1,fun e he hb=>?_⟩
 rcases h.2 e he with h' | h'
 ·rw [hb] at h';cases h'
 ·exact h'
theorem prefB_hi {n:Nat} {listed:Array Bool} (hB:nS ops n=true) (inv:HeadInv .any ops n listed) {i t:Nat} (hi:i < n) (hun:listed.getD i true=false) (ht:n≤t):t ∉ Region.ready .any ops listed:=by
 unfold nS at hB
 simp only [Bool.and_eq_true,decide_eq_true_eq] at hB
 exact tail_waits hB.1.2 hB.2 hB.1.1.2 inv _ i rfl hi hun t ht
def fK (l:Array Bool) (m:Nat):Array Bool:=l++Array.replicate m false
theorem lS {l:Array Bool} {m i:Nat} (d:Bool) (hi:i < l.size):(fK l m).getD i d=l.getD i d:=by
 unfold fK
 simp [Array.getD_eq_getD_getElem?,Array.getElem?_append_left hi]
theorem tC {l:Array Bool} {m i:Nat} (hi:i < l.size):(fK l m).setIfInBounds i true=fK (l.setIfInBounds i true) m:=by
 unfold fK
 rw [Array.setIfInBounds_append_left hi]
theorem tN {l:Array Bool} {n:Nat} (hs:l.size=n) (h:∀ i,i < n→l.getD i false=true):l=Array.replicate n true:=by
 apply Array.ext
 ·simp [hs]
 ·intro i h1 h2
  have:=h i (by omega)
  simp [Array.getD_eq_getD_getElem?,h1] at this
  simp [this]
theorem least_un {l:Array Bool} {n:Nat} (h:¬ ∀ i,i < n→l.getD i false=true):∃ i,i < n∧l.getD i false=false∧∀ j,j < i→l.getD j false=true:=by
 induction n with
 | zero=>exact absurd (fun i hi=>absurd hi (by omega)) h
 | succ n ih =>
  by_cases hn:∀ i,i < n→l.getD i false=true
  ·refine ⟨n,by omega,?_,hn⟩
   cases hq:l.getD n false with
   | false=>rfl
   | true =>
    exfalso
    apply h
    intro i hi
    by_cases e:i=n
    ·subst e;exact hq
    ·exact hn i (by omega)
  ·obtain ⟨i,hi,h1,h2⟩:=ih hn
   exact ⟨i,by omega,h1,h2⟩
theorem unD {l:Array Bool} {i n:Nat} (hs:l.size=n) (hi:i < n):l.getD i true=l.getD i false:=by
 have h1:i < l.size:=by omega
 simp [Array.getD_eq_getD_getElem?,h1]
theorem wN {n i:Nat} {R:Act→World→Prop} {K K':Act→World→Prop} {a:Act} {w:World} (hn:n≤ops.size) (hi:i < n) (hB:nS ops n=true) (hK:∀ a w,K a w→K' a w)
 (h:wpOp P (ops.extract 0 n) (Exit.then R Q) i K a w):wpOp P ops Q i K' a w:=by
 have hlt:i < ops.size:=by omega
 have ho:ops[i]?=some ops[i]:=Array.getElem?_eq_getElem hlt
 have he:(ops.extract 0 n)[i]?=some ops[i]:=by
  rw [Array.getElem?_extract]
  simp only [Nat.zero_add,Nat.sub_zero]
  rw [if_pos (by omega),ho]
 have hg:=(lJ hB ho hi).1
 unfold wpOp at h ⊢
 rw [he] at h
 rw [ho]
 have hw:∀ y,Region.wanted ops[i] y=true:=by intro y;simp [Region.wanted,hg]
 simp only [hw,if_true] at h ⊢
 rcases h with h | ⟨h1,h2⟩
 ·left
  refine Oper.wp_mono hK ?_
  unfold Oper.wp at h ⊢
  generalize (execOp a.eval ops[i]).run P w=r at *
  cases r with
  | ok nx w'=>cases nx<;>exact h
  | halt x w'=>cases x<;>exact h
 ·right
  exact ⟨h1,h2⟩
theorem tV {n:Nat} (hn:n≤ops.size) (hB:nS ops n=true):∀ (fuel:Nat) (l:Array Bool) (a:Act) (w:World),l.size=n→HeadInv .any ops n (fK l (ops.size - n)) →
 wpAny P .any (ops.extract 0 n) (Exit.then (fun a w=>wpAny P .any ops Q (ops.size - n) (fK (Array.replicate n true) (ops.size - n)) a w) Q) fuel l a w →
 wpAny P .any ops Q (fuel + (ops.size - n)) (fK l (ops.size - n)) a w:=by
 have hsz:(ops.extract 0 n).size=n:=by rw [Array.size_extract];omega
 have hget:∀ i,i < n→(ops.extract 0 n)[i]?=ops[i]?:=by
  intro i hi
  rw [Array.getElem?_extract]
  simp only [Nat.zero_add,Nat.sub_zero]
  rw [if_pos (by omega)]
 have key:∀ (l:Array Bool),l.size=n→HeadInv .any ops n (fK l (ops.size - n))→(¬ ∀ i,i < n→l.getD i false=true)→(∃ j,j ∈ Region.ready .any (ops.extract 0 n) l)∧(∀ j,j ∈ Region.ready .any ops (fK l (ops.size - n))→j < n∧j ∈ Region.ready .any (ops.extract 0 n) l):=by
  intro l hs hv hno
  obtain ⟨i,hi,h1,h2⟩:=least_un hno
  have hoi:ops[i]?=some (ops[i]'(by omega)):=Array.getElem?_eq_getElem (by omega)
  refine ⟨⟨i,mem_ready.2 ⟨by rw [unD hs hi];exact h1,_,by rw [hget i hi];exact hoi,fun e he hb=>h2 _ ((lJ hB hoi hi).2 e he hb)⟩⟩,fun j hj=>?_⟩
  obtain ⟨g1,o,g2,g3⟩:=mem_ready.1 hj
  have hjn:j < n:=by
   rcases Nat.lt_or_ge j n with h | h
   ·exact h
   ·exact absurd hj (prefB_hi hB hv hi (by rw [lS true (by omega),unD hs hi];exact h1) h)
  refine ⟨hjn,mem_ready.2 ⟨by rw [← lS (m:=ops.size - n) true (by omega)];exact g1,o,by rw [hget j hjn];exact g2,fun e he hb=>?_⟩⟩
  have hon:=(lJ hB g2 hjn).2 e he hb
  rw [← lS (m:=ops.size - n) false (by omega)]
  exact g3 e he hb
 intro fuel
 induction fuel with
 | zero =>
  intro l a w hs hv h
  by_cases hall:∀ i,i < n→l.getD i false=true
  ·rw [tN hs hall,Nat.zero_add]
   exact h.2
  ·obtain ⟨⟨j,hj⟩,_⟩:=key l hs hv hall
   rw [h.1] at hj;cases hj
 | succ fuel ih =>
  intro l a w hs hv h
  by_cases hall:∀ i,i < n→l.getD i false=true
  ·have hnil:Region.ready .any (ops.extract 0 n) l=[]:=by
    rw [List.eq_nil_iff_forall_not_mem]
    intro j hj
    obtain ⟨g1,o,g2,_⟩:=mem_ready.1 hj
    have hjn:j < n:=by
     have:=(Array.getElem?_eq_some_iff.1 g2).1
     omega
    rw [unD hs hjn,hall j hjn] at g1
    cases g1
   have h':=h.1 hnil
   rw [tN hs hall]
   exact wpAny_le (by omega) h'
  ·obtain ⟨⟨j0,hj0⟩,hk⟩:=key l hs hv hall
   rw [Nat.add_right_comm]
   refine ⟨fun hnil=>?_,fun i hi=>?_⟩
   ·exfalso
    obtain ⟨g1,o,g2,g3⟩:=mem_ready.1 hj0
    have hjn:j0 < n:=by
     have:=(Array.getElem?_eq_some_iff.1 g2).1
     omega
    have:j0 ∈ Region.ready .any ops (fK l (ops.size - n)):=mem_ready.2 ⟨by rw [lS true (by omega)];exact g1,o,by rw [← hget j0 hjn];exact g2,fun e he hb=>by
     have hon:=(lJ hB (by rw [← hget j0 hjn];exact g2) hjn).2 e he hb
     rw [lS false (by omega)]
     exact g3 e he hb⟩
    rw [hnil] at this;cases this
   ·obtain ⟨hin,hir⟩:=hk i hi
    refine wN hn hin hB (fun a' w' h'=>?_) (h.2 i hir)
    rw [tC (by omega)]
    exact ih (l.setIfInBounds i true) a' w' (by simp [hs]) (by rw [← tC (by omega)];exact hv.set hi hin) h'
theorem aS {id:Nat} {l l1 l2:List Oper} {a:Act} {w:World} (n:Nat) (S:World→Prop) (hm:P.follows .mixedOrders=true) (hn:n≤l.length) (hB:nS l.toArray n=true)
 (hT:Region.seqB .any l.toArray (l.length - n) n (fK (Array.replicate n true) (l.length - n))=true) (h1:l.take n=l1) (h2:l.drop n=l2) (hS:S w.drew)
 (h:S w.drew→wpAnyH P .any l1.toArray (Exit.then (fun a w=>wpList P l.toArray Q l2 a w) Q) S n (Array.replicate n false) a w.drew) :
 (Code.region id l.toArray true).wp P Q a w:=by
 refine wp_region_any hm ?_
 have hsz:l.toArray.size=l.length:=by simp
 have hn':n≤l.toArray.size:=by simpa using hn
 have hl2:l2.length=l.length - n:=by rw [← h2,List.length_drop]
 have hpre:l1.toArray=l.toArray.extract 0 n:=by rw [← h1];simp
 have h':=wpAny_of_held _ _ _ _ (h hS)
 rw [hpre] at h'
 have h3:wpAny P .any (l.toArray.extract 0 n) (Exit.then (fun a w=>wpAny P .any l.toArray Q (l.toArray.size - n) (fK (Array.replicate n true) (l.toArray.size - n)) a w) Q) n (Array.replicate n false) a w.drew:=by
  refine m9 (fun a w h=>?_) _ _ _ _ h'
  have:=wpAny_of_seq (P:=P) (md:=.any) (ops:=l.toArray) (Q':=Q) l2 n (fK (Array.replicate n true) (l.length - n)) a w (fun j=>by rw [← h2,List.getElem?_drop];simp) (by rw [hl2];exact hT) h
  rw [hl2] at this
  rw [hsz];exact this
 have e1:n + (l.toArray.size - n)=l.toArray.size:=by omega
 have e2:fK (Array.replicate n false) (l.toArray.size - n)=Array.replicate l.toArray.size false:=by
  unfold fK
  rw [Array.replicate_append_replicate,e1]
 have hv:HeadInv .any l.toArray n (fK (Array.replicate n false) (l.toArray.size - n)):=by
  rw [e2]
  refine ⟨by simp,fun j oj hj hl=>?_,fun t ht ht'=>by have h9:t < l.length:=(by simpa using ht');simp [h9]⟩
  rw [getD_replicate_false] at hl
  cases hl
 have h4:=tV hn' hB n (Array.replicate n false) a w.drew (by simp) hv h3
 rw [e1,e2] at h4
 exact h4
end
theorem Tryz.infoArm:(Tryz.prog.info? 94).map (fun i=>(i.zero,i.size,i.bytes))=some (some (.agg #[.string ⟨#[]⟩,.int .i64 0]),2,24):=by kernel_rfl
theorem Tryz.infoOp:(Tryz.prog.info? 92).map (fun i=>(i.zero,i.size,i.bytes))=some (some (.agg #[.int .i64 0,.string ⟨#[]⟩,.int .i64 0,.int .i64 0,.slice none 0 0,.int .i64 0,.int .i64 0]),7,80):=by kernel_rfl
theorem oN (a:ArmM):∀ u ∈ encArm a,u.oneCell'=true:=by intro u hu;simp [encArm] at hu;rcases hu with rfl | rfl<;>rfl
theorem eQ (v:OpV):∀ u ∈ encOp v,u.oneCell'=true:=by intro u hu;simp [encOp] at hu;rcases hu with rfl | rfl | rfl | rfl | rfl | rfl | rfl<;>rfl
structure OpMid (w:World) (base g:Nat) (k:Int) (t:ByteArray) (n gt:Int) (va:Value) (x y:Int) (l:List ArmM):Prop where
 blk:Blk w g 92 #[.int .i64 k,.string t,.int .i64 n,.int .i64 gt,va,.int .i64 x,.int .i64 y]
 own:w.ownsRow base 94 2 va l.length (flat encArm l)
section
variable {w w':World} {base g:Nat} {k:Int} {t:ByteArray} {n gt:Int} {va:Value} {x y:Int} {l:List ArmM}
end
def Mi (B:Nat) (va:Value) (k:Nat):Prop:=k < B∨va.ownBlock=some k
theorem tA {w w1:World} {B:Nat} {va va':Value} {A:Option Addr} {xs:List Value} (h:Rd w (Mi B va) A xs) (hg:w.grownBy w1 va.ownBlock) (ho:va'.ownBlock=va.ownBlock∨va'.ownBlock=some w.heap.size):Rd w1 (Mi B va') A xs:=by
 have q:Only (fun k=>va.ownBlock=some k) w w1:=(Only.refl _ w).grown hg (fun k hk=>Or.inl hk)
 rcases h with h | ⟨b,o,hA,hm,hb,hc⟩
 ·exact Or.inl h
 ·refine Or.inr ⟨b,o,hA,?_,Nat.lt_of_lt_of_le hb q.size,fun j hj=>(q.cell (p:=⟨b,o + j,none⟩) hb (fun hx=>hm (Or.inr hx))).trans (hc j hj)⟩
  rintro (hx | hx)
  ·exact hm (Or.inl hx)
  ·rcases ho with ho | ho
   ·exact hm (Or.inr (ho ▸ hx))
   ·rw [ho] at hx;injection hx with hx;omega
structure PrMid (w:World) (B:Nat) (s:ByteArray) (d j:Int) (va:Value) (L:List OpV):Prop where
 blk:Blk w B 25 #[.string s,.int .i64 d,.int .i64 j,va]
 own:w.ownsRow (B + 2) 92 7 va L.length (flat encOp L)
 inn:∀ v ∈ L,Rd w (Mi (B + 2) va) v.A (flat encArm v.o.arms)
section
variable {w w':World} {B:Nat} {s:ByteArray} {d j:Int} {va:Value} {L:List OpV}
end
end Go.Proofs.YtaioaojfdngfdaaGreatDoor
