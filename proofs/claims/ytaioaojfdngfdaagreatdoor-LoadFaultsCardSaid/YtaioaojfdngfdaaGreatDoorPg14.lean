/- Parts of a chain of lemmas: Rd2, Lex1, Add. Conditions: those of each theorem. -/
import Derived.Test.YtaioaojfdngfdaaGreatDoorPg09
import Derived.Test.YtaioaojfdngfdaaGreatDoorPg03
import Derived.Test.YtaioaojfdngfdaaGreatDoorPg13
import Derived.Test.YtaioaojfdngfdaaGreatDoorPg05
set_option linter.unusedVariables false
set_option linter.unusedSimpArgs false
set_option maxHeartbeats 6400000
namespace Go.Proofs.YtaioaojfdngfdaaGreatDoor
open Go.RowKit
theorem byte_int {b:UInt8} {n:Nat} (h:b.toNat=n) (hn:n < 256):b=UInt8.ofNat n:=by
 apply UInt8.toNat_inj.1
 rw [h]
 simp
 omega
set_option maxRecDepth 100000 in
theorem yN (s:ByteArray) (i a:Nat) (w:World) (hai:a=i + 1) (hi:i < s.size) (hs:s.size≤1000000000) (h92:atB s.data.toList i=92):Calls Tryz.prog 145 #[.string s,.int .i64 a] w fun e w'=>e=.returned (.tuple #[.int .u8 (bD s.data.toList i).1.toNat,.int .i64 (i + (bD s.data.toList i).2.1:Nat),.bool (bD s.data.toList i).2.2])∧w'=w:=by
 obtain ⟨a2,ha2⟩:∃ a2,a2=i + 2:=⟨_,rfl⟩
 obtain ⟨L,hL⟩:∃ L,L=s.data.toList:=⟨_,rfl⟩
 have hLn:L.length=s.size:=by rw [hL];simp
 have HAt:=hide (show ∀ k (h:k < s.size),s[k]'h=atB L k from fun k h=>by rw [hL];exact byte_at s k h)
 have HHx:=hide (show i + 2≤s.size→Calls Tryz.prog 179 #[.string s,.int .i64 a2] w fun e w'=>e=.returned (.tuple #[.int .u8 (cU L (i + 2)).1,.int .i64 ((i + 2) + (cU L (i + 2)).2.1:Nat),.bool (cU L (i + 2)).2.2])∧w'=w from fun h=>by rw [hL,ha2];exact hex_c s (i + 2) w h hs)
 rw [← hL] at h92 ⊢
 have h1:=qL L i
 rw [if_neg (by omega),if_neg (by rw [h92];decide),if_neg (by rw [h92];simp),hLn] at h1
 obtain ⟨R,hR⟩:∃ R,R=bD L i:=⟨_,rfl⟩
 rw [← hR] at h1 ⊢
 have hx:0≤(cU L (i + 2)).1∧(cU L (i + 2)).1≤255:=by
  unfold cU
  have a:=fP (atB L (i + 2))
  have b:=fP (atB L (i + 2 + 1))
  split
  ·simp
  split
  ·simp
  split
  ·simp
  split
  ·simp
  ·simp;omega
 obtain ⟨⟨hv,hn,hk⟩,hhx⟩:∃ X,X=cU L (i + 2):=⟨_,rfl⟩
 rw [← hhx] at h1 HHx hx
 simp only at h1 HHx hx
 have HR:=hide h1
 have w1:IntKind.i64.wrap ((a:Int) + 1)=(a2:Int):=by rw [IntWalk.i64_in _ (by omega)];omega
 clear hL hLn hR h1 h92 hhx
 by_cases hlt:i + 1 < s.size
 case neg =>
  have d1:decide ((s.size:Int)≤(a:Int))=true:=by simp;omega
  have d2:decide ((a:Int) ≥ (s.size:Int))=true:=by simp;omega
  have d3:decide (s.size≤a)=true:=by simp;omega
  have HE:=hide (show R=(0,1,false) by rw [HR.out,if_pos (by omega)])
  have HJ:=hide (show i + 1=s.size by omega)
  clear hlt hi hai ha2
  go_enter Tryz.func145,Tryz.ntmps145
  go_wp2_with fail
  refine bodyPost_ret (v:=.tuple #[.int .u8 0,.int .i64 s.size,.bool false]) (by simp [results,Tryz.results145,go_sem]) rfl ?_
  exact ⟨by rw [HE.out,← HJ.out];rfl,rfl⟩
 case pos =>
  have d1:decide ((s.size:Int)≤(a:Int))=false:=by simp;omega
  have d2:decide ((a:Int) ≥ (s.size:Int))=false:=by simp;omega
  have d3:decide (s.size≤a)=false:=by simp;omega
  have j1:(0:Int)≤(a:Int):=by omega
  have j2:(a:Int) < (s.size:Int):=by omega
  have ha9:a < s.size:=by omega
  have HA:=hide (HAt.out a ha9)
  obtain ⟨c,hc⟩:∃ c,c=s[a]'ha9:=⟨_,rfl⟩
  have HR2:=hide (show R=match kG c with
   | some b=>(b,2,true)
   | none=>if c≠120 then (0,1,false) else (UInt8.ofNat hv.toNat,2 + hn,hk) by
   have hca:c=atB L (i + 1):=by rw [hc,HA.out,hai]
   rw [HR.out,if_neg (by omega),hca]
   cases kG (atB L (i + 1))<;>rfl)
  have HX:=hide (HHx.out (by omega))
  have HA2:=hide (And.intro hai ha2)
  clear HR HA HAt HHx hai ha2 hlt hi
  have hcl:=c.toNat_lt
  obtain ⟨n,hn9⟩:∃ n,n=c.toNat:=⟨_,rfl⟩
  have HCn:=hide (show c=UInt8.ofNat n from byte_int hn9.symm (by omega))
  have hcn:((s[a]'ha9).toNat:Int)=(n:Int):=by rw [hn9,hc]
  rw [← hn9] at hcl
  clear hn9 hc
  by_cases e34:n=34
  case pos =>
   have q34:((n:Int) == 34)=true:=beq_iff_eq.2 (by omega)
   have HE:=hide (show R=(34,2,true) by rw [HR2.out,HCn.out,e34];rfl)
   have HN:=hide e34
   clear e34
   go_enter Tryz.func145,Tryz.ntmps145
   go_wp2_with fail
   refine bodyPost_ret (v:=.tuple #[.int .u8 n,.int .i64 a2,.bool true]) (by simp [results,Tryz.results145,go_sem]) rfl ?_
   exact ⟨by rw [HE.out,HN.out,HA2.out.2];rfl,rfl⟩
  case neg =>
  by_cases e92:n=92
  case pos =>
   have q34:((n:Int) == 34)=false:=beq_eq_false_iff_ne.2 (by omega)
   have q92:((n:Int) == 92)=true:=beq_iff_eq.2 (by omega)
   have HE:=hide (show R=(92,2,true) by rw [HR2.out,HCn.out,e92];rfl)
   have HN:=hide e92
   clear e92
   go_enter Tryz.func145,Tryz.ntmps145
   go_wp2_with fail
   refine bodyPost_ret (v:=.tuple #[.int .u8 n,.int .i64 a2,.bool true]) (by simp [results,Tryz.results145,go_sem]) rfl ?_
   exact ⟨by rw [HE.out,HN.out,HA2.out.2];rfl,rfl⟩
  case neg =>
  by_cases e110:n=110
  case pos =>
   have q34:((n:Int) == 34)=false:=beq_eq_false_iff_ne.2 (by omega)
   have q92:((n:Int) == 92)=false:=beq_eq_false_iff_ne.2 (by omega)
   have q110:((n:Int) == 110)=true:=beq_iff_eq.2 (by omega)
   have HE:=hide (show R=(10,2,true) by rw [HR2.out,HCn.out,e110];rfl)
   have HN:=hide e110
   clear e110
   go_enter Tryz.func145,Tryz.ntmps145
   go_wp2_with fail
   refine bodyPost_ret (v:=.tuple #[.int .u8 10,.int .i64 a2,.bool true]) (by simp [results,Tryz.results145,go_sem]) rfl ?_
   exact ⟨by rw [HE.out,HA2.out.2];rfl,rfl⟩
  case neg =>
  by_cases e114:n=114
  case pos =>
   have q34:((n:Int) == 34)=false:=beq_eq_false_iff_ne.2 (by omega)
   have q92:((n:Int) == 92)=false:=beq_eq_false_iff_ne.2 (by omega)
   have q110:((n:Int) == 110)=false:=beq_eq_false_iff_ne.2 (by omega)
   have q114:((n:Int) == 114)=true:=beq_iff_eq.2 (by omega)
   have HE:=hide (show R=(13,2,true) by rw [HR2.out,HCn.out,e114];rfl)
   have HN:=hide e114
   clear e114
   go_enter Tryz.func145,Tryz.ntmps145
   go_wp2_with fail
   refine bodyPost_ret (v:=.tuple #[.int .u8 13,.int .i64 a2,.bool true]) (by simp [results,Tryz.results145,go_sem]) rfl ?_
   exact ⟨by rw [HE.out,HA2.out.2];rfl,rfl⟩
  case neg =>
  by_cases e116:n=116
  case pos =>
   have q34:((n:Int) == 34)=false:=beq_eq_false_iff_ne.2 (by omega)
   have q92:((n:Int) == 92)=false:=beq_eq_false_iff_ne.2 (by omega)
   have q110:((n:Int) == 110)=false:=beq_eq_false_iff_ne.2 (by omega)
   have q114:((n:Int) == 114)=false:=beq_eq_false_iff_ne.2 (by omega)
   have q116:((n:Int) == 116)=true:=beq_iff_eq.2 (by omega)
   have HE:=hide (show R=(9,2,true) by rw [HR2.out,HCn.out,e116];rfl)
   have HN:=hide e116
   clear e116
   go_enter Tryz.func145,Tryz.ntmps145
   go_wp2_with fail
   refine bodyPost_ret (v:=.tuple #[.int .u8 9,.int .i64 a2,.bool true]) (by simp [results,Tryz.results145,go_sem]) rfl ?_
   exact ⟨by rw [HE.out,HA2.out.2];rfl,rfl⟩
  case neg =>
  have hesc:kG c=none:=by
   unfold kG
   have nn:∀ m:Nat,m < 256→n≠m→c≠UInt8.ofNat m:=fun m hm hne h=>hne (by
    have:=congrArg UInt8.toNat (HCn.out.symm.trans h)
    simp at this
    omega)
   rw [if_neg (show c≠34 from nn 34 (by omega) (by omega)),if_neg (show c≠92 from nn 92 (by omega) (by omega)),if_neg (show c≠110 from nn 110 (by omega) (by omega)),if_neg (show c≠114 from nn 114 (by omega) (by omega)),if_neg (show c≠116 from nn 116 (by omega) (by omega))]
  have HR3:=hide (show R=if c≠120 then (0,1,false) else (UInt8.ofNat hv.toNat,2 + hn,hk) by rw [HR2.out,hesc])
  clear hesc HR2
  by_cases e120:n=120
  case pos =>
   have q34:((n:Int) == 34)=false:=beq_eq_false_iff_ne.2 (by omega)
   have q92:((n:Int) == 92)=false:=beq_eq_false_iff_ne.2 (by omega)
   have q110:((n:Int) == 110)=false:=beq_eq_false_iff_ne.2 (by omega)
   have q114:((n:Int) == 114)=false:=beq_eq_false_iff_ne.2 (by omega)
   have q116:((n:Int) == 116)=false:=beq_eq_false_iff_ne.2 (by omega)
   have q120:((n:Int) == 120)=true:=beq_iff_eq.2 (by omega)
   have HE:=hide (show R=(UInt8.ofNat hv.toNat,2 + hn,hk) by rw [HR3.out,if_neg (by rw [HCn.out,e120];simp)])
   have HN:=hide (show ((UInt8.ofNat hv.toNat).toNat:Int)=hv by simp;omega)
   clear e34 e92 e110 e114 e116 e120
   go_enter Tryz.func145,Tryz.ntmps145
   go_wp2_with fail
   refine HX.out.mono ?_
   rintro e wq ⟨rfl,rfl⟩
   go_wp2_with fail
   refine bodyPost_ret (v:=.tuple #[.int .u8 hv,.int .i64 (i + 2 + hn:Nat),.bool hk]) (by simp [results,Tryz.results145,go_sem]) rfl ?_
   exact ⟨by rw [HE.out];simp only;rw [HN.out,Nat.add_assoc],rfl⟩
  case neg =>
   have q34:((n:Int) == 34)=false:=beq_eq_false_iff_ne.2 (by omega)
   have q92:((n:Int) == 92)=false:=beq_eq_false_iff_ne.2 (by omega)
   have q110:((n:Int) == 110)=false:=beq_eq_false_iff_ne.2 (by omega)
   have q114:((n:Int) == 114)=false:=beq_eq_false_iff_ne.2 (by omega)
   have q116:((n:Int) == 116)=false:=beq_eq_false_iff_ne.2 (by omega)
   have q120:((n:Int) == 120)=false:=beq_eq_false_iff_ne.2 (by omega)
   have HE:=hide (show R=(0,1,false) by
    rw [HR3.out,if_pos (fun h=>e120 (by
     have:=congrArg UInt8.toNat (HCn.out.symm.trans h)
     simp at this
     omega))])
   clear e34 e92 e110 e114 e116 e120
   go_enter Tryz.func145,Tryz.ntmps145
   go_wp2_with fail
   refine bodyPost_ret (v:=.tuple #[.int .u8 0,.int .i64 a,.bool false]) (by simp [results,Tryz.results145,go_sem]) rfl ?_
   exact ⟨by rw [HE.out,HA2.out.1];rfl,rfl⟩
theorem Tryz.infoU8:(Tryz.prog.info? 5).map (fun i=>(i.zero,i.size,i.bytes))=some (some (.int .u8 0),1,1):=by kernel_rfl
theorem oV (X:List UInt8) (b:UInt8):bys (X++[b])=bys X++[.int .u8 b.toNat]:=by simp [bys]
set_option maxRecDepth 100000 in
theorem tL {w:World} {base n:Nat} {A:Option Addr} {c:Nat} {X:List UInt8} (h:w.ownsRow base 5 1 (.slice A n c) n (bys X)):(convert 47 9 (.slice A n c)).run Tryz.prog w=.ok (.string (bs X)) w:=by
 have hl:X.length=n:=by have:=h.1;rw [rO] at this;omega
 have hrd:=Rd.of_own (M:=aA) h (fun _ h=>h.elim)
 rcases h.2 with ⟨hv,h0⟩ | ⟨g,cap,cur,hv,_⟩
 ·injection hv with h1 h2 h3
  subst h1
  obtain rfl:X=[]:=List.eq_nil_of_length_eq_zero (by omega)
  subst h0;subst h3
  show (convert 47 9 (.slice none 0 0)).run Tryz.prog w=.ok (.string ⟨#[]⟩) w
  rfl
 ·injection hv with h1 h2 h3
  subst h1
  subst hl
  refine run_convert_bytes_back (P:=Tryz.prog) w 47 9 5 ⟨g,0,none⟩ c X Tryz.underlying47 Tryz.underlying5 Tryz.underlying9 (fun j hj=>?_)
  obtain ⟨b,o,hA,_,_,hc⟩:=hrd.at_ (j:=j) (by rw [rO];exact hj)
  injection hA with hA
  injection hA with e1 e2 _
  subst e1;subst e2
  rw [Addr.add_lit,hc j (by rw [rO];exact hj),bys_at X j hj]
set_option maxRecDepth 100000 in
theorem read_c (s:ByteArray) (w:World) (hs:s.size≤1000000000):Calls Tryz.prog 108 #[.string s] w fun e w'=>e=.returned (.tuple #[.string (bs (bR s.data.toList).1),.int .i64 (bR s.data.toList).2.1,.int .i64 (bR s.data.toList).2.2])∧Below w.heap.size w w':=by
 obtain ⟨L,hL⟩:∃ L,L=s.data.toList:=⟨_,rfl⟩
 have hLn:L.length=s.size:=by rw [hL];simp
 have HAt:=hide (show ∀ k (h:k < s.size),s[k]'h=atB L k from fun k h=>by rw [hL];exact byte_at s k h)
 have HWr:=hide (fun (i:Nat) (w':World) (hi:i≤s.size)=>wrong_q s i w' hi)
 have HEs:=hide (show ∀ (i a:Nat) (w':World),a=i + 1→i < s.size→atB L i=92→Calls Tryz.prog 145 #[.string s,.int .i64 a] w' fun e w2=>e=.returned (.tuple #[.int .u8 (bD L i).1.toNat,.int .i64 (i + (bD L i).2.1:Nat),.bool (bD L i).2.2])∧w2=w' from fun i a w' h1 h2 h3=>by rw [hL] at h3 ⊢;exact yN s i a w' h1 h2 hs h3)
 rw [← hL]
 obtain ⟨R,hR⟩:∃ R,R=bR L:=⟨_,rfl⟩
 have HR:=hide hR
 obtain ⟨i0,hi,hz0,hz1,hz2⟩:=info_parts Tryz.infoU8
 rw [← hR]
 have HRd:=hide (show R=if 0 < s.size∧atB L 0=34 then bU (s.size + 1) L 1 [] else ([],0,if s.size=0 then 3 else 2) by rw [hR];unfold bR;rw [hLn])
 have HG0:=hide (show ∀ f k out,s.size≤k→bU (f + 1) L k out=([],k,if k=s.size then 3 else 2) from fun f k out h=>by
  have h1:bD L k=(0,0,false):=by unfold bD;rw [if_pos (by omega)]
  unfold bU
  rw [if_neg (fun h2=>by omega),h1,if_neg (by simp),hLn]
  simp)
 have HG1:=hide (show ∀ f k out,k < s.size→atB L k=34→bU (f + 1) L k out=(out,k + 1,0) from fun f k out h h2=>by
  unfold bU
  rw [if_pos ⟨by omega,h2⟩])
 have HG2:=hide (show ∀ f k out,(bD L k).2.2=true→bU (f + 1) L k out=bU f L (k + (bD L k).2.1) (out++[(bD L k).1]) from fun f k out h=>by
  have h3:¬ (k < L.length∧atB L k=34):=fun h2=>by
   have h1:bD L k=(0,0,false):=by unfold bD;rw [if_neg (by omega),if_pos (Or.inr (Or.inr h2.2))]
   rw [h1] at h;cases h
  rw [bU,if_neg h3,if_pos h])
 have HG3:=hide (show ∀ f k out,¬ atB L k=34→(bD L k).2.2=false→bU (f + 1) L k out=([],k + (bD L k).2.1,if k + (bD L k).2.1=s.size then 3 else 2) from fun f k out h h2=>by
  rw [bU,if_neg (fun h3=>h h3.2),if_neg (by rw [h2];simp),hLn])
 have HO1:=hide (show ∀ k,k < s.size→((atB L k).toNat < 32∨126 < (atB L k).toNat)→bD L k=(0,0,false) from fun k h h2=>by
  unfold bD;rw [if_neg (by omega),if_pos (h2.elim Or.inl (fun h=>Or.inr (Or.inl h)))])
 have HO2:=hide (show ∀ k,k < s.size→32≤(atB L k).toNat→(atB L k).toNat≤126→¬ atB L k=34→¬ atB L k=92→bD L k=(atB L k,1,true) from fun k h h2 h3 h4 h5=>by
  unfold bD;rw [if_neg (by omega),if_neg (fun h6=>by
   rcases h6 with h6 | h6 | h6
   ·omega
   ·omega
   ·exact h4 h6),if_pos h5])
 have HOle:=hide (show ∀ k,k≤s.size→k + (bD L k).2.1≤s.size from fun k h=>by have:=lO L k (by omega);omega)
 have HOpos:=hide (show ∀ k,(bD L k).2.2=true→1≤(bD L k).2.1 from fun k h=>(mC L k h).1)
 clear hL hR hLn
 by_cases hz:s.size=0
 case pos =>
  obtain rfl:=fE hz
  have HE:=hide (show R=([],0,3) by rw [HRd.out,if_neg (fun h=>absurd h.1 (by decide))];rfl)
  go_enter Tryz.func108,Tryz.ntmps108
  go_wp2_with fail
  refine (HWr.out 0 _ (Nat.zero_le _)).mono ?_
  rintro e wq ⟨rfl,rfl⟩
  go_wp2_with fail
  refine bodyPost_ret (v:=.tuple #[.string ⟨#[]⟩,.int .i64 0,.int .i64 3]) (by simp [results,Tryz.results108,go_sem];try rfl) rfl ?_
  exact ⟨by rw [HE.out];rfl,Below.refl _ _⟩
 case neg =>
  have hne:=str_some hz
  have h0:0 < s.size:=by omega
  have HA:=hide (HAt.out 0 h0)
  obtain ⟨n0,hn0⟩:∃ n0,n0=(atB L 0).toNat:=⟨_,rfl⟩
  have hc0:((s[0]'h0).toNat:Int)=(n0:Int):=by rw [hn0,HA.out]
  by_cases h34:n0=34
  case neg =>
   have d1:((n0:Int) == 34)=false:=beq_eq_false_iff_ne.2 (by omega)
   have d2:((n0:Int) != 34)=true:=by simp;omega
   have HE:=hide (show R=([],0,2) by rw [HRd.out,if_neg (fun h=>h34 (by rw [hn0,h.2];rfl)),if_neg hz])
   have HZ:=hide (show ¬ (0=s.size) by omega)
   clear h34 hn0 hz
   go_enter Tryz.func108,Tryz.ntmps108
   go_wp2_with fail
   refine (HWr.out 0 _ (Nat.zero_le _)).mono ?_
   rintro e wq ⟨rfl,rfl⟩
   rw [if_neg HZ.out]
   go_wp2_with fail
   refine bodyPost_ret (v:=.tuple #[.string ⟨#[]⟩,.int .i64 0,.int .i64 2]) (by simp [results,Tryz.results108,go_sem];try rfl) rfl ?_
   exact ⟨by rw [HE.out];rfl,Below.refl _ _⟩
  case pos =>
   have d1:((n0:Int) == 34)=true:=beq_iff_eq.2 (by omega)
   have d2:((n0:Int) != 34)=false:=by simp;omega
   have HE:=hide (show R=bU (s.size + 1) L 1 [] by rw [HRd.out,if_pos ⟨h0,by apply UInt8.toNat_inj.1;rw [← hn0,h34];rfl⟩])
   clear h34 hn0 hz HRd
   go_enter Tryz.func108,Tryz.ntmps108
   go_wp2_with fail
   go_loopw [5,6] (fun v i wr=>∃ (f k:Nat) (out:List UInt8),k≤s.size∧out.length≤k∧s.size < f + k∧i=.int .i64 k∧Hid (R=bU f L k out)∧Hid (wr.ownsRow w.heap.size 5 1 v out.length (bys out))∧Hid (Below w.heap.size w wr)) (fun _ i _=>s.size - (intOf i).toNat)
   case atStart=>exact ⟨s.size + 1,1,[],h0,by simp,by omega,rfl,HE,hide ⟨rfl,Or.inl ⟨rfl,rfl⟩⟩,hide (Below.refl _ _)⟩
   case round =>
    clear HE
    obtain ⟨f,k,out,hk,hok,hf,rfl,HRg,HOw,HB⟩:=hrel
    obtain ⟨VA,vc,rfl,hvc⟩:=aW HOw.out
    have HCv:=tL HOw.out
    have w1:IntKind.i64.wrap ((k:Int) + 1)=(k:Int) + 1:=IntWalk.i64_in _ (by omega)
    obtain ⟨f,rfl⟩:∃ f',f=f' + 1:=⟨f - 1,by omega⟩
    have hr0:hi=hi:=rfl
    clear hr0
    have RB:∀ v:Value,True:=fun _=>trivial
    clear RB
    by_cases hlt:k < s.size
    case neg =>
     have hke:k=s.size:=by omega
     have HK:=hide hke
     have e1:decide ((k:Int) < (s.size:Int))=false:=by simp;omega
     have e2:decide (k < s.size)=false:=by simp;omega
     have HE:=hide (show R=([],s.size,3) by rw [HRg.out,HG0.out f k out (by omega),if_pos hke,hke])
     clear hke
     go_wp2_with fail
     refine (HWr.out s.size _ (Nat.le_refl _)).mono ?_
     rintro e wq ⟨rfl,hwq⟩
     rw [hwq,if_pos rfl]
     clear hwq
     go_wp2_with fail
     refine bodyPost_ret (v:=.tuple #[.string ⟨#[]⟩,.int .i64 s.size,.int .i64 3]) (by simp [results,Tryz.results108,go_sem];try rfl) rfl ?_
     exact ⟨by rw [HE.out];rfl,HB.out⟩
    case pos =>
     have e1:decide ((k:Int) < (s.size:Int))=true:=by simp;omega
     have e2:decide (k < s.size)=true:=by simp;omega
     have j1:(0:Int)≤(k:Int):=by omega
     have j2:(k:Int) < (s.size:Int):=by omega
     have HA:=hide (HAt.out k hlt)
     obtain ⟨c,hc⟩:∃ c,c=atB L k:=⟨_,rfl⟩
     obtain ⟨n,hn9⟩:∃ n,n=c.toNat:=⟨_,rfl⟩
     have hck:((s[k]'hlt).toNat:Int)=(n:Int):=by rw [hn9,hc,HA.out]
     have hcl:=c.toNat_lt
     rw [← hn9] at hcl
     have HC:=hide hc
     have HN9:=hide hn9
     have HC34:=hide (show n=34↔atB L k=34 by rw [hn9,hc,← UInt8.toNat_inj];rfl)
     have HC92:=hide (show n=92↔atB L k=92 by rw [hn9,hc,← UInt8.toNat_inj];rfl)
     have HNN:=hide (show (atB L k).toNat=n by rw [hn9,hc])
     clear hn9 hc HA
     by_cases e34:n=34
     case pos =>
      have q1:((n:Int) == 34)=true:=beq_iff_eq.2 (by omega)
      have HE:=hide (show R=(out,k + 1,0) by rw [HRg.out,HG1.out f k out hlt (HC34.out.1 e34)])
      clear e34
      go_wp2_with fail
      refine bodyPost_ret (v:=.tuple #[.string (bs out),.int .i64 ((k:Int) + 1),.int .i64 0]) (by simp [results,Tryz.results108,go_sem];try rfl) rfl ?_
      exact ⟨by rw [HE.out];rfl,HB.out⟩
     case neg =>
      have q1:((n:Int) == 34)=false:=beq_eq_false_iff_ne.2 (by omega)
      by_cases e92:n=92
      case pos =>
       have q2:((n:Int) == 92)=true:=beq_iff_eq.2 (by omega)
       have HEq:=HEs.out k (k + 1)
       obtain ⟨k1,hk1⟩:∃ k1,k1=k + 1:=⟨_,rfl⟩
       have w2:IntKind.i64.wrap ((k:Int) + 1)=(k1:Int):=by rw [IntWalk.i64_in _ (by omega)];omega
       have HEk:=hide (fun (w':World)=>HEs.out k k1 w' hk1 hlt (HC92.out.1 e92))
       have hle:=HOle.out k hk
       have HG2k:=hide (HG2.out f k out)
       have HG3k:=hide (HG3.out f k out (fun h=>e34 (HC34.out.2 h)))
       have HOp:=hide (HOpos.out k)
       obtain ⟨⟨ob,on_,oo⟩,hO⟩:∃ X,X=bD L k:=⟨_,rfl⟩
       rw [← hO] at HEk hle HG2k HG3k HOp
       simp only at HEk hle HG2k HG3k HOp
       clear hO e34 e92 w1 HEq
       have HK1:=hide hk1
       clear hk1
       obtain ⟨kn,hkn⟩:∃ kn,kn=k + on_:=⟨_,rfl⟩
       rw [← hkn] at HEk hle HG2k HG3k
       have HKn:=hide hkn
       clear hkn
       go_wp2_with fail
       refine (HEk.out _).mono ?_
       rintro e wq ⟨rfl,hwq⟩
       rw [hwq]
       clear hwq
       cases oo with
       | false =>
        obtain ⟨er,her⟩:∃ er:Nat,er=if kn=s.size then 3 else 2:=⟨_,rfl⟩
        have HE:=hide (show R=([],kn,er) by rw [HRg.out,HG3k.out rfl,her])
        have HWk:=hide (fun w'=>HWr.out kn w' hle)
        rw [← her] at HWk
        clear her
        go_wp2_with fail
        refine (HWk.out _).mono ?_
        rintro e wq ⟨rfl,hwq⟩
        rw [hwq]
        clear hwq
        go_wp2_with fail
        refine bodyPost_ret (v:=.tuple #[.string ⟨#[]⟩,.int .i64 kn,.int .i64 er]) (by simp [results,Tryz.results108,go_sem];try rfl) rfl ?_
        exact ⟨by rw [HE.out],HB.out⟩
       | true =>
        have HE:=hide (show R=bU f L kn (out++[ob]) by rw [HRg.out,HG2k.out rfl])
        have hon:=HOp.out rfl
        have hkn2:=HKn.out
        have hX:=hide (show Rd (wr.alloc (.cells #[.int .u8 ob.toNat] 5)) aA (some ⟨wr.heap.size,0,none⟩) [.int .u8 ob.toNat] from aY (Blk.new _ _ _) (fun h=>h))
        have HOw2:=hide (HOw.out.alloc (.cells #[.int .u8 ob.toNat] 5))
        have hle9:k < kn:=by omega
        clear hkn2
        go_wp2_with (first
         | (at_builtin;refine aD _ rfl (.tmp 68) (.tmp 70) _ rfl w.heap.size 5 i0 (.int .u8 0) 1 1 Tryz.underlying47 hi hz0 hz1 hz2 rfl (by omega) _ out.length (bys out) rfl HOw2.out aA (some ⟨wr.heap.size,0,none⟩) 1 1 [.int .u8 ob.toNat] rfl hX.out rfl (by intro u hu;simp at hu;subst hu;rfl) (by simp only [maxLen];omega) (by omega) (by have:=HB.out.size;simp;omega) ?_;intro v3 w3 hown3 hgr _;have Own3:=hide hown3;have Gr:=hide hgr;clear hown3 hgr))
        have HB3:=hide ((HB.out.alloc HB.out.size (.cells #[.int .u8 ob.toNat] 5)).grown Gr.out (by have:=HB.out.size;simp;omega) (fun j hj=>by have:=aU HOw.out j hj;omega))
        have HOw3:=hide (show w3.ownsRow w.heap.size 5 1 v3 (out++[ob]).length (bys (out++[ob])) by rw [oV,List.length_append];exact Own3.out)
        go_roundw
        case rel=>exact ⟨f,kn,out++[ob],hle,by simp;omega,by omega,rfl,HE,HOw3,HB3⟩
        case measure=>simp [intOf];omega
      case neg =>
       have q2:((n:Int) == 92)=false:=beq_eq_false_iff_ne.2 (by omega)
       by_cases ebad:n < 32∨126 < n
       case pos =>
        have HO:=hide (HO1.out k hlt (by rw [HNN.out];exact ebad))
        have HE:=hide (show R=([],k,2) by
         rw [HRg.out,HG3.out f k out (fun h=>e34 (HC34.out.2 h)) (by rw [HO.out]),HO.out]
         simp
         omega)
        have HKs:=hide (show ¬ k=s.size by omega)
        by_cases e32:n < 32
        case pos =>
         have q3:decide ((n:Int) < 32)=true:=by simp;omega
         clear e34 e92 ebad
         go_wp2_with fail
         refine (HWr.out k _ hk).mono ?_
         rintro e wq ⟨rfl,hwq⟩
         rw [hwq,if_neg HKs.out]
         clear hwq
         go_wp2_with fail
         refine bodyPost_ret (v:=.tuple #[.string ⟨#[]⟩,.int .i64 k,.int .i64 2]) (by simp [results,Tryz.results108,go_sem];try rfl) rfl ?_
         exact ⟨by rw [HE.out];rfl,HB.out⟩
        case neg =>
         have q3:decide ((n:Int) < 32)=false:=by simp;omega
         have q4:decide ((126:Int) < (n:Int))=true:=by simp;omega
         clear e34 e92 ebad
         go_wp2_with fail
         refine (HWr.out k _ hk).mono ?_
         rintro e wq ⟨rfl,hwq⟩
         rw [hwq,if_neg HKs.out]
         clear hwq
         go_wp2_with fail
         refine bodyPost_ret (v:=.tuple #[.string ⟨#[]⟩,.int .i64 k,.int .i64 2]) (by simp [results,Tryz.results108,go_sem];try rfl) rfl ?_
         exact ⟨by rw [HE.out];rfl,HB.out⟩
       case neg =>
        have q3:decide ((n:Int) < 32)=false:=by simp;omega
        have q4:decide ((126:Int) < (n:Int))=false:=by simp;omega
        have HO:=hide (HO2.out k hlt (by rw [HNN.out];omega) (by rw [HNN.out];omega) (fun h=>e34 (HC34.out.2 h)) (fun h=>e92 (HC92.out.2 h)))
        have HE:=hide (show R=bU f L (k + 1) (out++[c]) by rw [HRg.out,HG2.out f k out (by rw [HO.out]),HO.out,HC.out])
        have hX:=hide (show Rd (wr.alloc (.cells #[.int .u8 n] 5)) aA (some ⟨wr.heap.size,0,none⟩) [.int .u8 n] from aY (Blk.new _ _ _) (fun h=>h))
        have HOw2:=hide (HOw.out.alloc (.cells #[.int .u8 n] 5))
        clear e34 e92 ebad
        go_wp2_with (first
         | (at_builtin;refine aD _ rfl (.tmp 68) (.tmp 70) _ rfl w.heap.size 5 i0 (.int .u8 0) 1 1 Tryz.underlying47 hi hz0 hz1 hz2 rfl (by omega) _ out.length (bys out) rfl HOw2.out aA (some ⟨wr.heap.size,0,none⟩) 1 1 [.int .u8 n] rfl hX.out rfl (by intro u hu;simp at hu;subst hu;rfl) (by simp only [maxLen];omega) (by omega) (by have:=HB.out.size;simp;omega) ?_;intro v3 w3 hown3 hgr _;have Own3:=hide hown3;have Gr:=hide hgr;clear hown3 hgr))
        have HB3:=hide ((HB.out.alloc HB.out.size (.cells #[.int .u8 n] 5)).grown Gr.out (by have:=HB.out.size;simp;omega) (fun j hj=>by have:=aU HOw.out j hj;omega))
        have HOw3:=hide (show w3.ownsRow w.heap.size 5 1 v3 (out++[c]).length (bys (out++[c])) by rw [oV,List.length_append,← HN9.out];exact Own3.out)
        go_roundw
        case rel=>exact ⟨f,k + 1,out++[c],by omega,by simp;omega,by omega,by go_num,HE,HOw3,HB3⟩
        case measure=>simp [intOf];omega
theorem Read_q (s:ByteArray) (w:World) (hs:s.size≤1000000000):Calls Tryz.prog 68 #[.string s] w fun e w'=>e=.returned (.tuple #[.string (bs (bR s.data.toList).1),.int .i64 (bR s.data.toList).2.1,.int .i64 (bR s.data.toList).2.2])∧Below w.heap.size w w':=by
 have H:=hide (read_c s w hs)
 obtain ⟨⟨X,n,e9⟩,hR⟩:∃ R,R=bR s.data.toList:=⟨_,rfl⟩
 rw [← hR] at H ⊢
 clear hR
 simp only at H ⊢
 go_enter Tryz.func68,Tryz.ntmps68
 go_wp2_with fail
 refine H.out.mono ?_
 rintro e w2 ⟨rfl,hb⟩
 have HB:=hide hb
 clear hb
 go_wp2_with fail
 refine bodyPost_ret (v:=.tuple #[.string (bs X),.int .i64 n,.int .i64 e9]) (by simp [results,Tryz.results68,go_sem];try rfl) rfl ?_
 exact ⟨rfl,HB.out⟩
theorem nT (b:UInt8) (n:Nat) (h:n=b.toNat):cV b=(decide (33≤n) && (decide (n≤126) && (decide (n≠34) && decide (n≠92)))):=by
 have i34:b=34↔n=34:=by rw [h,← UInt8.toNat_inj];rfl
 have i92:b=92↔n=92:=by rw [h,← UInt8.toNat_inj];rfl
 unfold cV
 rw [← h]
 simp only [ne_eq,i34,i92]
theorem plain_c (b:UInt8) (m:Int) (hm:m=b.toNat) (w:World):Calls Tryz.prog 109 #[.int .u8 m] w fun e w'=>e=.returned (.bool (cV b))∧w'=w:=by
 subst hm
 obtain ⟨n,hn⟩:∃ n,n=b.toNat:=⟨_,rfl⟩
 have HP:=hide (nT b n hn)
 rw [← hn]
 obtain ⟨p,hp⟩:∃ p,p=cV b:=⟨_,rfl⟩
 rw [← hp] at HP ⊢
 clear hn hp
 by_cases h1:33≤n
 case neg =>
  have HE:=hide (show p=false by rw [HP.out,decide_eq_false h1];rfl)
  have d1:decide ((33:Int)≤(n:Int))=false:=by simp;omega
  clear h1
  go_enter Tryz.func109,Tryz.ntmps109
  go_wp2_with fail
  go_ret
  exact ⟨by rw [HE.out];rfl,rfl⟩
 case pos =>
  have d1:decide ((33:Int)≤(n:Int))=true:=by simp;omega
  by_cases h2:n≤126
  case neg =>
   have HE:=hide (show p=false by rw [HP.out,decide_eq_false h2];simp)
   have d2:decide ((n:Int)≤126)=false:=by simp;omega
   clear h1 h2
   go_enter Tryz.func109,Tryz.ntmps109
   go_wp2_with fail
   go_ret
   exact ⟨by rw [HE.out];rfl,rfl⟩
  case pos =>
   have d2:decide ((n:Int)≤126)=true:=by simp;omega
   by_cases h3:n=34
   case pos =>
    have HE:=hide (show p=false by rw [HP.out,h3];rfl)
    have d3:((n:Int) != 34)=false:=by simp;omega
    clear h1 h2 h3
    go_enter Tryz.func109,Tryz.ntmps109
    go_wp2_with fail
    go_ret
    exact ⟨by rw [HE.out];rfl,rfl⟩
   case neg =>
    have d3:((n:Int) != 34)=true:=by simp;omega
    by_cases h4:n=92
    case pos =>
     have HE:=hide (show p=false by rw [HP.out,h4];rfl)
     have d4:((n:Int) != 92)=false:=by simp;omega
     clear h1 h2 h3 h4
     go_enter Tryz.func109,Tryz.ntmps109
     go_wp2_with fail
     go_ret
     exact ⟨by rw [HE.out];rfl,rfl⟩
    case neg =>
     have d4:((n:Int) != 92)=true:=by simp;omega
     have HE:=hide (show p=true by rw [HP.out];simp [h1,h2,h3,h4])
     clear h1 h2 h3 h4
     go_enter Tryz.func109,Tryz.ntmps109
     go_wp2_with fail
     go_ret
     exact ⟨by rw [HE.out];rfl,rfl⟩
theorem x9 (s:ByteArray) (i:Nat) (w:World) (hi:i≤s.size):Calls Tryz.prog 70 #[.string s,.int .i64 i] w fun e w'=>e=.returned (.tuple #[.slice none 0 0,.int .i64 i,.int .i64 (if i=s.size then 3 else 2:Nat)])∧w'=w:=by
 by_cases h:i=s.size
 ·have d1:decide ((s.size:Int)≤(i:Int))=true:=by simp;omega
  have d2:decide ((i:Int) ≥ (s.size:Int))=true:=by simp;omega
  have d3:decide (s.size≤i)=true:=by simp;omega
  have H:=hide h
  rw [if_pos h]
  clear h hi
  go_enter Tryz.func70,Tryz.ntmps70
  go_wp2_with fail
  refine bodyPost_ret (v:=.tuple #[.slice none 0 0,.int .i64 s.size,.int .i64 3]) (by simp [results,Tryz.results70,go_sem]) rfl ?_
  exact ⟨by rw [← H.out];rfl,rfl⟩
 ·have d1:decide ((s.size:Int)≤(i:Int))=false:=by simp;omega
  have d2:decide ((i:Int) ≥ (s.size:Int))=false:=by simp;omega
  have d3:decide (s.size≤i)=false:=by simp;omega
  rw [if_neg h]
  clear h hi
  go_enter Tryz.func70,Tryz.ntmps70
  go_wp2_with fail
  refine bodyPost_ret (v:=.tuple #[.slice none 0 0,.int .i64 i,.int .i64 2]) (by simp [results,Tryz.results70,go_sem]) rfl ?_
  exact ⟨rfl,rfl⟩
set_option maxRecDepth 100000 in
theorem yA (s:ByteArray) (w:World) (hs:s.size≤1000000000):Calls Tryz.prog 69 #[.string s] w fun e w'=>e=.returned (.int .i64 (eB s.data.toList))∧w'=w:=by
 obtain ⟨L,hL⟩:∃ L,L=s.data.toList:=⟨_,rfl⟩
 have hLn:L.length=s.size:=by rw [hL];simp
 have HAt:=hide (show ∀ k (h:k < s.size),s[k]'h=atB L k from fun k h=>by rw [hL];exact byte_at s k h)
 have HPl:=hide (fun (b:UInt8) (m:Int) (hm:m=b.toNat) (w':World)=>plain_c b m hm w')
 rw [← hL]
 have HE:=hide (show ∀ k,k≤s.size→(∀ j,j < k→cV (atB L j)=true)→(k < s.size→cV (atB L k)=false)→eB L=k from fun k h1 h2 h3=>oW L k (by omega) h2 (by rw [hLn];exact h3))
 clear hL hLn
 go_enter Tryz.func69,Tryz.ntmps69
 go_wp2_with fail
 go_loopw [3] (fun i wr=>∃ k:Nat,k≤s.size∧i=.int .i64 k∧Hid (∀ j,j < k→cV (atB L j)=true)∧Hid (wr=w)) (fun i _=>s.size - (intOf i).toNat)
 case atStart=>exact ⟨0,Nat.zero_le _,rfl,hide (fun j hj=>absurd hj (by omega)),hide rfl⟩
 case round =>
  obtain ⟨k,hk,rfl,hall,hw⟩:=hrel
  rw [hw.out]
  clear hw
  have w1:IntKind.i64.wrap ((k:Int) + 1)=(k:Int) + 1:=IntWalk.i64_in _ (by omega)
  by_cases hlt:k < s.size
  case neg =>
   have e1:decide ((k:Int) < (s.size:Int))=false:=by simp;omega
   have e2:decide (k < s.size)=false:=by simp;omega
   have HEk:=hide (HE.out k hk hall.out (fun h=>absurd h hlt))
   go_wp2_with fail
   go_ret
   exact ⟨by rw [HEk.out];rfl,rfl⟩
  case pos =>
   have e1:decide ((k:Int) < (s.size:Int))=true:=by simp;omega
   have e2:decide (k < s.size)=true:=by simp;omega
   have j1:(0:Int)≤(k:Int):=by omega
   have j2:(k:Int) < (s.size:Int):=by omega
   have HA:=hide (HAt.out k hlt)
   have HPk:=hide (HPl.out (atB L k) ((s[k]'hlt).toNat:Int) (by rw [HA.out]) w)
   cases hp:cV (atB L k) with
   | false =>
    rw [hp] at HPk
    have HEk:=hide (HE.out k hk hall.out (fun _=>hp))
    clear hp
    go_wp2_with (go_at_call 109;refine HPk.out.mono ?_;rintro e wq ⟨rfl,hwq⟩;rw [hwq];clear hwq)
    go_ret
    exact ⟨by rw [HEk.out];rfl,rfl⟩
   | true =>
    rw [hp] at HPk
    have HN:=hide (show ∀ j,j < k + 1→cV (atB L j)=true from fun j hj=>by
     by_cases e:j=k
     ·subst e;exact hp
     ·exact hall.out j (by omega))
    clear hp
    go_wp2_with (go_at_call 109;refine HPk.out.mono ?_;rintro e wq ⟨rfl,hwq⟩;rw [hwq];clear hwq)
    go_roundw
    case rel=>exact ⟨k + 1,by omega,by go_num,HN,hide (by first | rfl | trivial)⟩
    case measure=>simp [intOf];omega
theorem b8 {S:Nat→Prop} {w w':World} {base size n:Nat} {e:TypeId} {v:Value} {xs:List Value} (h:w.ownsRow base e size v n xs) (k:Only S w w') (hS:∀ g cs,S g→¬ Blk w g e cs):w'.ownsRow base e size v n xs:=by
 obtain ⟨hl,h2⟩:=h
 refine ⟨hl,?_⟩
 rcases h2 with ⟨hv,hn⟩ | ⟨g,cap,cur,hv,hb,hh,r⟩
 ·exact Or.inl ⟨hv,hn⟩
 ·refine Or.inr ⟨g,cap,cur,hv,hb,?_,r⟩
  have hlt:g < w.heap.size:=Blk.lt (t:=e) (cs:=cur) hh
  rw [k.block g hlt (fun hs=>hS g cur hs hh)]
  exact hh
section
variable {w w':World} {base F Wn:Nat} {id:Int} {f f':LifeM}
end
abbrev outV (n:Int) (s:ByteArray) (t:Stp) (d:Bool):List Value:=[.int .i64 n,.string s,.int .i64 t.tick,.int .i64 t.at_,.int .i64 t.what,.int .i64 t.arm,.int .i64 t.n,.int .i64 t.status,.bool d]
abbrev st0:Stp:=⟨0,0,0,0,0,0⟩
theorem Blk.grown {w w1:World} {g base size n:Nat} {t e:TypeId} {cs:Array Value} {v:Value} {xs:List Value} (h:Blk w g t cs) (hown:w.ownsRow base e size v n xs) (hne:t≠e) (hg:w.grownBy w1 v.ownBlock):Blk w1 g t cs:=by
 refine (hg.block g h.lt (fun ho=>?_)).trans h
 rcases hown.2 with ⟨hv,_⟩ | ⟨g',cap,cur,hv,_,hh,_⟩
 ·subst hv;simp [Value.ownBlock] at ho
 ·subst hv
  simp [Value.ownBlock] at ho
  subst ho
  exact Blk.ne_ (g':=g) h hh hne rfl
theorem xQ {w w1:World} {base base' size size' n n':Nat} {e e':TypeId} {v v':Value} {xs xs':List Value} (h:w.ownsRow base e size v n xs) (hown:w.ownsRow base' e' size' v' n' xs') (hne:e≠e') (hg:w.grownBy w1 v'.ownBlock):w1.ownsRow base e size v n xs:=by
 obtain ⟨hl,h2⟩:=h
 refine ⟨hl,?_⟩
 rcases h2 with ⟨hv,hn⟩ | ⟨g,cap,cur,hv,hb,hh,r⟩
 ·exact Or.inl ⟨hv,hn⟩
 ·exact Or.inr ⟨g,cap,cur,hv,hb,Blk.grown (t:=e) (cs:=cur) hh hown hne hg,r⟩
theorem below_drewN' {B:Nat} {w0 w:World} (h:Below B w0 w) (n:Nat):Below B w0 (w.drewN n):=⟨h.os,h.tape,h.output,h.size,h.block⟩
end Go.Proofs.YtaioaojfdngfdaaGreatDoor
