/- The parser's names. Conditions: those of each theorem. -/
import Derived.Test.YtaioaojfdngfdaaGreatDoorPg17
import Derived.Test.YtaioaojfdngfdaaGreatDoorPg09
set_option linter.unusedVariables false
set_option linter.unusedSimpArgs false
set_option maxHeartbeats 3200000
namespace Go.Proofs.YtaioaojfdngfdaaGreatDoor
open Go.RowKit
theorem g8 {f:Fr} (hf:FrOk f) (s:St) (q:Bool):(aJ f.line f.width f.ws s q).1.1.text.length≤1000000000∧(aJ f.line f.width f.ws s q).1.1.at_≤1000000000∧((aJ f.line f.width f.ws s q).2.nx=s.nx∨(aJ f.line f.width f.ws s q).2.nx=s.nx + 1):=by
 unfold aJ
 split
 ·exact ⟨by simp [w0],by simp [w0],Or.inl rfl⟩
 split
 ·exact ⟨by simp [w0],by simp [w0],Or.inl rfl⟩
 rename_i h2
 have hm:=eC (l:=f.ws) (k:=s.nx) (by omega)
 split
 ·exact ⟨hf.txt _ hm,hf.at_ _ hm,Or.inr rfl⟩
 ·exact ⟨hf.txt _ hm,hf.at_ _ hm,Or.inr rfl⟩
theorem rd_al {w:World} {a:Nat} {A:Option Addr} {xs:List Value} (h:Rd w (· = a) A xs) (o:Obj):Rd (w.alloc o) (· = a) A xs:=h.only ((Only.refl aA _).alloc o) (fun _ h=>h.elim)
set_option maxRecDepth 100000 in
theorem uU (a:Nat) (f:Fr) (s:St) (w:World) (h:PBlk w a f s) (hf:FrOk f) (hr:Rd w (· = a) f.wA (flat encW f.ws)) (hnx:s.nx≤1000000000) :
 Calls Tryz.prog 110 #[.pointer (some ⟨a,0,none⟩)] w fun e w'=>e=.returned (.agg #[.string (bs (b9 f.line f.width f.ws s).1.text),.bool (b9 f.line f.width f.ws s).1.quoted,.int .i64 (b9 f.line f.width f.ws s).1.at_])∧PBlk w' a f (b9 f.line f.width f.ws s).2∧Only (· = a) w w':=by
 have hal:a < w.heap.size:=h.lt
 have H:=hide h
 have HFl:=hide (fun (s:St) (col e:Int) (w:World) (h:PBlk w a f s) (hc0:0≤col) (hc1:col≤1000000000)=>eA a f s col e w h hc0 hc1)
 have HWd:=hide (fun (w:World) (h:PBlk w a f s) (hr:Rd w (· = a) f.wA (flat encW f.ws))=>nE a f s false w h hf hr hnx)
 have hsz:=g8 hf s false
 have HS:=hide (show b9 f.line f.width f.ws s=((aJ f.line f.width f.ws s false).1.1,if (aJ f.line f.width f.ws s false).1.2=true∧eE (aJ f.line f.width f.ws s false).1.1.text=false then bE f.line (aJ f.line f.width f.ws s false).2 (aJ f.line f.width f.ws s false).1.1.at_ 10 else (aJ f.line f.width f.ws s false).2) from rfl)
 have HR:=hide hr
 obtain ⟨R,hR⟩:∃ R,R=aJ f.line f.width f.ws s false:=⟨_,rfl⟩
 obtain ⟨N,hN⟩:∃ N,N=b9 f.line f.width f.ws s:=⟨_,rfl⟩
 rw [← hR] at HS HWd hsz
 rw [← hN] at HS ⊢
 obtain ⟨⟨⟨xt,xq,xa⟩,ok⟩,s2⟩:=R
 obtain ⟨y,s3⟩:=N
 simp only at HS HWd hsz ⊢
 have HNm:=hide (fun w=>Name_c (bs xt) w (by rw [bJ];omega))
 rw [show nameB (bs xt)=eE xt from rfl] at HNm
 have hxa:=hsz.2.1
 clear hR hN h hr hsz hnx hf
 go_enter Tryz.func110,Tryz.ntmps110
 go_wp2_with fail
 generalize hW:World.alloc w _=W
 have hB:PBlk W a f s:=by rw [← hW];exact H.out.allocd _
 have hN:Blk W w.heap.size 128 #[.string ⟨#[]⟩,.bool false,.int .i64 0]:=by rw [← hW];exact Blk.new _ _ _
 have hO:Only (· = a) w W:=by rw [← hW];exact (Only.refl _ w).alloc _
 have hR:Rd W (· = a) f.wA (flat encW f.ws):=by rw [← hW];exact rd_al HR.out _
 clear hW
 refine (HWd.out W hB hR).mono ?_
 rintro e wq ⟨rfl,hb2,ho2⟩
 have hN2:=hN.only ho2 (by omega)
 have hO2:=hO.trans ho2
 clear hB hN hO hR ho2
 have hsq:=hN2.lt
 have hsa:=hb2.lt
 go_upto_region 2 with fail
 generalize hX:World.alloc wq _=X
 have hN3:Blk X w.heap.size 128 #[.string ⟨#[]⟩,.bool false,.int .i64 0]:=by rw [← hX];exact hN2.alloc _
 have hX3:Blk X wq.heap.size 128 #[.string (bs xt),.bool xq,.int .i64 xa]:=by rw [← hX];exact Blk.new _ _ _
 have hB3:PBlk X a f s2:=by rw [← hX];exact hb2.allocd _
 have hO3:Only (· = a) w X:=by rw [← hX];exact hO2.alloc _
 obtain ⟨⟨r0,r1,r2⟩,_⟩:=hX3.three
 have HX3:=hide hX3
 have HB3:=hide hB3
 have HO3:=hide hO3
 obtain ⟨⟨z0,z1,z2⟩,t0,t1,t2⟩:=hN3.three
 have HN3:=hide hN3
 have hs1:=HN3.out.lt
 clear hN3 hN2
 clear hX hO2 hb2 hX3 hB3 hO3
 have hs2:=HX3.out.lt
 have hs3:=HB3.out.lt
 have hxn:a≠wq.heap.size:=by omega
 cases ok with
 | false =>
  have HE:=hide (show (y,s3)=(⟨xt,xq,xa⟩,s2) by rw [HS.out,if_neg (by simp)])
  clear HS
  go_wp2_with fail
  generalize hV:World.setCell (World.setCell (World.setCell X _ _) _ _) _ _=V
  obtain ⟨hN4,hB4,hO4⟩:=pP HN3.out HB3.out HO3.out hal hV
  obtain ⟨⟨y0,y1,y2⟩,_⟩:=hN4.three
  refine bodyPost_ret (v:=.agg #[.string (bs xt),.bool xq,.int .i64 xa]) (by simp [results,Tryz.results110,go_sem,y0,y1,y2];try rfl) rfl ?_
  have he:=HE.out
  injection he with h1 h2
  exact ⟨by rw [h1],by rw [h2];exact hB4,hO4⟩
 | true =>
  cases hnm:eE xt with
  | true =>
   have HE:=hide (show (y,s3)=(⟨xt,xq,xa⟩,s2) by rw [HS.out,hnm,if_neg (by simp)])
   rw [hnm] at HNm
   clear HS hnm
   go_wp2_with (go_at_call 132;refine (HNm.out _).mono ?_;rintro e wz ⟨rfl,hwz⟩;rw [← hwz];clear hwz)
   generalize hV:World.setCell (World.setCell (World.setCell X _ _) _ _) _ _=V
   obtain ⟨hN4,hB4,hO4⟩:=pP HN3.out HB3.out HO3.out hal hV
   obtain ⟨⟨y0,y1,y2⟩,_⟩:=hN4.three
   refine bodyPost_ret (v:=.agg #[.string (bs xt),.bool xq,.int .i64 xa]) (by simp [results,Tryz.results110,go_sem,y0,y1,y2];try rfl) rfl ?_
   have he:=HE.out
   injection he with h1 h2
   exact ⟨by rw [h1],by rw [h2];exact hB4,hO4⟩
  | false =>
   have HE:=hide (show (y,s3)=(⟨xt,xq,xa⟩,bE f.line s2 xa 10) by rw [HS.out,hnm,if_pos ⟨rfl,rfl⟩])
   rw [hnm] at HNm
   clear HS hnm
   go_wp2_with (go_at_call 132;refine (HNm.out _).mono ?_;rintro e wz ⟨rfl,hwz⟩;rw [← hwz];clear hwz)
   refine (HFl.out _ xa 10 _ HB3.out (by omega) (by omega)).mono ?_
   rintro e wz ⟨rfl,hb5,ho5⟩
   have hX5:=HX3.out.only ho5 (by omega)
   obtain ⟨⟨i0,i1,i2⟩,_⟩:=hX5.three
   have HB5:=hide hb5
   have HO5:=hide (HO3.out.trans ho5)
   have hN5:=HN3.out.only ho5 (by omega)
   obtain ⟨⟨n0,n1,n2⟩,m0,m1,m2⟩:=hN5.three
   have HN5:=hide hN5
   clear hN5 z0 z1 z2 t0 t1 t2
   clear hX5 hb5 ho5 r0 r1 r2
   go_wp2_with fail
   generalize hV:World.setCell (World.setCell (World.setCell wz _ _) _ _) _ _=V
   obtain ⟨hN4,hB4,hO4⟩:=pP HN5.out HB5.out HO5.out hal hV
   obtain ⟨⟨y0,y1,y2⟩,_⟩:=hN4.three
   refine bodyPost_ret (v:=.agg #[.string (bs xt),.bool xq,.int .i64 xa]) (by simp [results,Tryz.results110,go_sem,y0,y1,y2];try rfl) rfl ?_
   have he:=HE.out
   injection he with h1 h2
   exact ⟨by rw [h1],by rw [h2];exact hB4,hO4⟩
set_option maxRecDepth 100000 in
theorem pnum_c (a:Nat) (f:Fr) (s:St) (xt:List UInt8) (xq:Bool) (xa:Nat) (least most:Int) (w:World) (h:PBlk w a f s) (hxt:xt.length≤1000000000) (hxa:xa≤1000000000) (hev:ErrV w) :
 Calls Tryz.prog 113 #[.pointer (some ⟨a,0,none⟩),.agg #[.string (bs xt),.bool xq,.int .i64 xa],.int .i64 least,.int .i64 most] w fun e w'=>e=.returned (.int .i64 (kF f.line s ⟨xt,xq,xa⟩ least most).1)∧PBlk w' a f (kF f.line s ⟨xt,xq,xa⟩ least most).2∧Only (· = a) w w':=by
 have hal:a < w.heap.size:=h.lt
 have H:=hide h
 have HV:=hide hev
 have HFl:=hide (fun (s:St) (col e:Int) (w:World) (h:PBlk w a f s) (hc0:0≤col) (hc1:col≤1000000000)=>eA a f s col e w h hc0 hc1)
 have HNu:=hide (fun (w:World) (hv:ErrV w)=>number_c (bs xt) most w (by rw [bJ];omega) hv)
 rw [show (bs xt).data.toList=xt from rfl] at HNu
 have HS:=hide (show kF f.line s ⟨xt,xq,xa⟩ least most=((bK xt most).1,if sS xt least most≠0 then bE f.line s xa (sS xt least most) else s) from rfl)
 have HEr:=hide (show sS xt least most=if (bK xt most).2=0∧(bK xt most).1 < least then (12:Int) else ((bK xt most).2:Int) from rfl)
 obtain ⟨N,hN⟩:∃ N,N=kF f.line s ⟨xt,xq,xa⟩ least most:=⟨_,rfl⟩
 obtain ⟨R,hR⟩:∃ R,R=bK xt most:=⟨_,rfl⟩
 obtain ⟨er,her⟩:∃ er,er=sS xt least most:=⟨_,rfl⟩
 rw [← hN] at HS ⊢
 rw [← hR] at HS HNu HEr
 rw [← her] at HS HEr
 obtain ⟨y,s3⟩:=N
 obtain ⟨m,k⟩:=R
 simp only at HS HNu HEr ⊢
 clear hN hR her h hev
 go_enter Tryz.func113,Tryz.ntmps113
 go_wp2_with fail
 generalize hW:World.alloc w _=W
 have hB:PBlk W a f s:=by rw [← hW];exact H.out.allocd _
 have hN:Blk W w.heap.size 128 #[.string (bs xt),.bool xq,.int .i64 xa]:=by rw [← hW];exact Blk.new _ _ _
 have hO:Only (· = a) w W:=by rw [← hW];exact (Only.refl _ w).alloc _
 have hE:ErrV W:=by rw [← hW];exact HV.out.below ((Below.refl _ w).alloc (Nat.le_refl _) _)
 clear hW
 refine (HNu.out W hE).mono ?_
 rintro e wq ⟨rfl,hbel⟩
 have HB3:=hide (show PBlk wq a f s from Blk.below hB hbel)
 have HX3:=hide (hN.below hbel)
 have HO3:=hide (hO.trans (Only.of_below hbel _))
 clear hB hN hO hE hbel
 have hxn:a≠w.heap.size:=by omega
 obtain ⟨⟨r0,r1,r2⟩,_⟩:=HX3.out.three
 by_cases h1:k=0∧m < least
 case pos =>
  obtain ⟨rfl,h1⟩:=h1
  have q1:decide (m < least)=true:=decide_eq_true h1
  have HE:=hide (show (y,s3)=(m,bE f.line s xa 12) by rw [HS.out,show er=12 by rw [HEr.out,if_pos ⟨rfl,h1⟩],if_pos (by decide)])
  clear h1
  go_wp2_with fail
  refine (HFl.out _ xa 12 _ HB3.out (by omega) (by omega)).mono ?_
  rintro e wz ⟨rfl,hb5,ho5⟩
  have hX5:=HX3.out.only ho5 (by omega)
  obtain ⟨⟨i0,i1,i2⟩,_⟩:=hX5.three
  have HB5:=hide hb5
  have HO5:=hide (HO3.out.trans ho5)
  clear hX5 hb5 ho5 r0 r1 r2
  go_wp2_with fail
  refine bodyPost_ret (v:=.int .i64 m) (by simp [results,Tryz.results113,go_sem];try rfl) rfl ?_
  have he:=HE.out
  injection he with h1 h2
  exact ⟨by rw [h1];first | done | rfl | rw [HTx.out],by rw [h2];exact HB5.out,HO5.out⟩
 case neg =>
  have HEq:=hide (show er=(k:Int) by rw [HEr.out,if_neg h1])
  by_cases hk:k=0
  case pos =>
   have q1:decide (m < least)=false:=decide_eq_false (fun h=>h1 ⟨hk,h⟩)
   subst hk
   have HE:=hide (show (y,s3)=(m,s) by rw [HS.out,HEq.out,if_neg (by decide)])
   clear h1
   go_wp2_with fail
   refine bodyPost_ret (v:=.int .i64 m) (by simp [results,Tryz.results113,go_sem];try rfl) rfl ?_
   have he:=HE.out
   injection he with h1 h2
   exact ⟨by rw [h1];first | done | rfl | rw [HTx.out],by rw [h2];exact HB3.out,HO3.out⟩
  case neg =>
   have q1:((k:Int) == 0)=false:=beq_eq_false_iff_ne.2 (by omega)
   have q2:((k:Int) != 0)=true:=bne_iff_ne.2 (by omega)
   have HE:=hide (show (y,s3)=(m,bE f.line s xa k) by rw [HS.out,HEq.out,if_pos (by omega)])
   clear h1 hk
   go_wp2_with fail
   refine (HFl.out _ xa (k:Int) _ HB3.out (by omega) (by omega)).mono ?_
   rintro e wz ⟨rfl,hb5,ho5⟩
   have hX5:=HX3.out.only ho5 (by omega)
   obtain ⟨⟨i0,i1,i2⟩,_⟩:=hX5.three
   have HB5:=hide hb5
   have HO5:=hide (HO3.out.trans ho5)
   clear hX5 hb5 ho5 r0 r1 r2
   go_wp2_with fail
   refine bodyPost_ret (v:=.int .i64 m) (by simp [results,Tryz.results113,go_sem];try rfl) rfl ?_
   have he:=HE.out
   injection he with h1 h2
   exact ⟨by rw [h1];first | done | rfl | rw [HTx.out],by rw [h2];exact HB5.out,HO5.out⟩
set_option maxRecDepth 100000 in
theorem text_c (a:Nat) (f:Fr) (s:St) (w:World) (h:PBlk w a f s) (hf:FrOk f) (hr:Rd w (· = a) f.wA (flat encW f.ws)) (hnx:s.nx≤1000000000) :
 Calls Tryz.prog 116 #[.pointer (some ⟨a,0,none⟩)] w fun e w'=>e=.returned (.string (bs (textS f.line f.width f.ws s).1))∧PBlk w' a f (textS f.line f.width f.ws s).2∧Only (· = a) w w':=by
 have hal:a < w.heap.size:=h.lt
 have H:=hide h
 have HFl:=hide (fun (s:St) (col e:Int) (w:World) (h:PBlk w a f s) (hc0:0≤col) (hc1:col≤1000000000)=>eA a f s col e w h hc0 hc1)
 have HWd:=hide (fun (w:World) (h:PBlk w a f s) (hr:Rd w (· = a) f.wA (flat encW f.ws))=>nE a f s true w h hf hr hnx)
 have hsz:=g8 hf s true
 have HS:=hide (show textS f.line f.width f.ws s=((aJ f.line f.width f.ws s true).1.1.text,if textE (aJ f.line f.width f.ws s true).1.2 (aJ f.line f.width f.ws s true).1.1.text≠0 then bE f.line (aJ f.line f.width f.ws s true).2 (aJ f.line f.width f.ws s true).1.1.at_ (textE (aJ f.line f.width f.ws s true).1.2 (aJ f.line f.width f.ws s true).1.1.text) else (aJ f.line f.width f.ws s true).2) from rfl)
 have HR:=hide hr
 obtain ⟨R,hR⟩:∃ R,R=aJ f.line f.width f.ws s true:=⟨_,rfl⟩
 obtain ⟨N,hN⟩:∃ N,N=textS f.line f.width f.ws s:=⟨_,rfl⟩
 rw [← hR] at HS HWd hsz
 rw [← hN] at HS ⊢
 obtain ⟨⟨⟨xt,xq,xa⟩,ok⟩,s2⟩:=R
 obtain ⟨y,s3⟩:=N
 simp only at HS HWd hsz ⊢
 have hxa:=hsz.2.1
 obtain ⟨t,ht⟩:∃ t,t=bs xt:=⟨_,rfl⟩
 rw [← ht] at HWd
 have htx:bs xt=t:=ht.symm
 have hxs:t.size=xt.length:=by rw [ht];exact bJ xt
 have HTx:=hide htx
 have htl:t.toList=xt:=by rw [ht,ByteArray.toList_eq]
 have HEr:=hide (show textE ok xt=if ok=false then 0 else if xt.length=0 then 9 else if 256 < xt.length then 4 else 0 from rfl)
 obtain ⟨er,her⟩:∃ er,er=textE ok xt:=⟨_,rfl⟩
 rw [← her] at HS HEr
 clear her
 clear hR hN h hr hsz hnx hf ht htx
 go_enter Tryz.func116,Tryz.ntmps116
 go_wp2_with fail
 refine (HWd.out w H.out HR.out).mono ?_
 rintro e wq ⟨rfl,hb2,ho2⟩
 have hO2:=ho2
 clear ho2
 have hsa:=hb2.lt
 go_upto_region 2 with fail
 generalize hX:World.alloc wq _=X
 have hX3:Blk X wq.heap.size 128 #[.string (t),.bool xq,.int .i64 xa]:=by rw [← hX];exact Blk.new _ _ _
 have hB3:PBlk X a f s2:=by rw [← hX];exact hb2.allocd _
 have hO3:Only (· = a) w X:=by rw [← hX];exact hO2.alloc _
 obtain ⟨⟨r0,r1,r2⟩,_⟩:=hX3.three
 have HX3:=hide hX3
 have HB3:=hide hB3
 have HO3:=hide hO3
 clear hX hO2 hb2 hX3 hB3 hO3
 have hs2:=HX3.out.lt
 have hs3:=HB3.out.lt
 have hxn:a≠wq.heap.size:=by omega
 cases ok with
 | false =>
  have HE:=hide (show (y,s3)=(xt,s2) by rw [HS.out,show er=0 by rw [HEr.out,if_pos rfl],if_neg (by decide)])
  clear HS HEr hxs htl
  go_wp2_with fail
  refine bodyPost_ret (v:=.string t) (by simp [results,Tryz.results116,go_sem];try rfl) rfl ?_
  have he:=HE.out
  injection he with h1 h2
  exact ⟨by rw [h1];first | done | rfl | rw [HTx.out],by rw [h2];exact HB3.out,HO3.out⟩
 | true =>
  by_cases hz:xt.length=0
  case pos =>
   have HE:=hide (show (y,s3)=(xt,bE f.line s2 xa 9) by rw [HS.out,show er=9 by rw [HEr.out,if_neg (show ¬ true=false by decide),if_pos hz],if_pos (by decide)])
   have q1:t.toList.isEmpty=true:=by rw [htl,List.eq_nil_of_length_eq_zero hz];rfl
   clear HS HEr hxs htl hz
   go_wp2_with fail
   refine (HFl.out _ xa 9 _ HB3.out (by omega) (by omega)).mono ?_
   rintro e wz ⟨rfl,hb5,ho5⟩
   have hX5:=HX3.out.only ho5 (by omega)
   obtain ⟨⟨i0,i1,i2⟩,_⟩:=hX5.three
   have HB5:=hide hb5
   have HO5:=hide (HO3.out.trans ho5)
   clear hX5 hb5 ho5 r0 r1 r2
   go_wp2_with fail
   refine bodyPost_ret (v:=.string t) (by simp [results,Tryz.results116,go_sem];try rfl) rfl ?_
   have he:=HE.out
   injection he with h1 h2
   exact ⟨by rw [h1];first | done | rfl | rw [HTx.out],by rw [h2];exact HB5.out,HO5.out⟩
  case neg =>
   have q1:t.toList.isEmpty=false:=by
    rw [htl]
    cases xt with
    | nil=>exact absurd rfl hz
    | cons a r=>rfl
   by_cases h256:256 < xt.length
   case pos =>
    have HE:=hide (show (y,s3)=(xt,bE f.line s2 xa 4) by rw [HS.out,show er=4 by rw [HEr.out,if_neg (show ¬ true=false by decide),if_neg hz,if_pos h256],if_pos (by decide)])
    have q2:decide ((256:Int) < (t.size:Int))=true:=by rw [hxs];simp;omega
    have q3:decide (256 < t.size)=true:=by rw [hxs];simp;omega
    clear HS HEr hxs htl hz h256
    go_wp2_with fail
    refine (HFl.out _ xa 4 _ HB3.out (by omega) (by omega)).mono ?_
    rintro e wz ⟨rfl,hb5,ho5⟩
    have hX5:=HX3.out.only ho5 (by omega)
    obtain ⟨⟨i0,i1,i2⟩,_⟩:=hX5.three
    have HB5:=hide hb5
    have HO5:=hide (HO3.out.trans ho5)
    clear hX5 hb5 ho5 r0 r1 r2
    go_wp2_with fail
    refine bodyPost_ret (v:=.string t) (by simp [results,Tryz.results116,go_sem];try rfl) rfl ?_
    have he:=HE.out
    injection he with h1 h2
    exact ⟨by rw [h1];first | done | rfl | rw [HTx.out],by rw [h2];exact HB5.out,HO5.out⟩
   case neg =>
    have HE:=hide (show (y,s3)=(xt,s2) by rw [HS.out,show er=0 by rw [HEr.out,if_neg (show ¬ true=false by decide),if_neg hz,if_neg h256],if_neg (by decide)])
    have q2:decide ((256:Int) < (t.size:Int))=false:=by rw [hxs];simp;omega
    have q3:decide (256 < t.size)=false:=by rw [hxs];simp;omega
    clear HS HEr hxs htl hz h256
    go_wp2_with fail
    refine bodyPost_ret (v:=.string t) (by simp [results,Tryz.results116,go_sem];try rfl) rfl ?_
    have he:=HE.out
    injection he with h1 h2
    exact ⟨by rw [h1];first | done | rfl | rw [HTx.out],by rw [h2];exact HB3.out,HO3.out⟩
set_option maxRecDepth 100000 in
theorem qU (a:Nat) (f:Fr) (s:St) (least:Int) (ever:Bool) (w:World) (h:PBlk w a f s) (hf:FrOk f) (hr:Rd w (· = a) f.wA (flat encW f.ws)) (hnx:s.nx≤1000000000) (hev:ErrV w) (h7:a≠8) :
 Calls Tryz.prog 111 #[.pointer (some ⟨a,0,none⟩),.int .i64 least,.bool ever] w fun e w'=>e=.returned (.int .i64 (bT f.line f.width f.ws s least ever).1)∧PBlk w' a f (bT f.line f.width f.ws s least ever).2∧Only (· = a) w w':=by
 have hal:a < w.heap.size:=h.lt
 have H:=hide h
 have HFl:=hide (fun (s:St) (col e:Int) (w:World) (h:PBlk w a f s) (hc0:0≤col) (hc1:col≤1000000000)=>eA a f s col e w h hc0 hc1)
 have HWd:=hide (fun (w:World) (h:PBlk w a f s) (hr:Rd w (· = a) f.wA (flat encW f.ws))=>nE a f s false w h hf hr hnx)
 have hsz:=g8 hf s false
 have HS:=hide (show bT f.line f.width f.ws s least ever=(if (aJ f.line f.width f.ws s false).1.2=false then (0,(aJ f.line f.width f.ws s false).2) else if ever=true∧(aJ f.line f.width f.ws s false).1.1.text=cK then (9223372036854775807,(aJ f.line f.width f.ws s false).2) else kF f.line (aJ f.line f.width f.ws s false).2 (aJ f.line f.width f.ws s false).1.1 least 1000000000000) from rfl)
 have HR:=hide hr
 obtain ⟨R,hR⟩:∃ R,R=aJ f.line f.width f.ws s false:=⟨_,rfl⟩
 obtain ⟨N,hN⟩:∃ N,N=bT f.line f.width f.ws s least ever:=⟨_,rfl⟩
 rw [← hR] at HS HWd hsz
 rw [← hN] at HS ⊢
 obtain ⟨⟨⟨xt,xq,xa⟩,ok⟩,s2⟩:=R
 obtain ⟨y,s3⟩:=N
 simp only at HS HWd hsz ⊢
 have hxa:=hsz.2.1
 have HV:=hide hev
 obtain ⟨t,ht⟩:∃ t,t=bs xt:=⟨_,rfl⟩
 rw [← ht] at HWd
 have htx:bs xt=t:=ht.symm
 have HTx:=hide htx
 have HNu:=hide (fun (w:World) (h:PBlk w a f s2) (hv:ErrV w)=>pnum_c a f s2 xt xq xa least 1000000000000 w h hsz.1 hsz.2.1 hv)
 rw [htx] at HNu
 have HNe:=hide (fun (h:xt=cK)=>(show ((t.toList == [110,101,118,101,114])=true) by rw [ht,h,ByteArray.toList_eq];rfl))
 have HNn:=hide (fun (h:¬ xt=cK)=>(show ((t.toList == [110,101,118,101,114])=false) by rw [ht];exact oC (s:=bs xt) h))
 clear hR hN h hr hsz hnx hf hev ht htx
 go_enter Tryz.func111,Tryz.ntmps111
 go_wp2_with fail
 refine (HWd.out w H.out HR.out).mono ?_
 rintro e wq ⟨rfl,hb2,ho2⟩
 have hO2:=ho2
 clear ho2
 have hsa:=hb2.lt
 go_upto_region 2 with fail
 generalize hX:World.alloc wq _=X
 have hX3:Blk X wq.heap.size 128 #[.string (t),.bool xq,.int .i64 xa]:=by rw [← hX];exact Blk.new _ _ _
 have hB3:PBlk X a f s2:=by rw [← hX];exact hb2.allocd _
 have hO3:Only (· = a) w X:=by rw [← hX];exact hO2.alloc _
 obtain ⟨⟨r0,r1,r2⟩,_⟩:=hX3.three
 have HX3:=hide hX3
 have HB3:=hide hB3
 have HO3:=hide hO3
 clear hX hO2 hb2 hX3 hB3 hO3
 have hs2:=HX3.out.lt
 have hs3:=HB3.out.lt
 have hxn:a≠wq.heap.size:=by omega
 have HEv:=hide (show a≠8→ErrV X from fun h=>by
  obtain ⟨ev,hv1,hv2⟩:=HV.out
  exact ⟨ev,cM HO3.out (fun h2=>h h2.symm) hv1,hv2⟩)
 cases ok with
 | false =>
  have HE:=hide (show (y,s3)=(0,s2) by rw [HS.out,if_pos rfl])
  clear HS
  go_wp2_with fail
  refine bodyPost_ret (v:=.int .i64 0) (by simp [results,Tryz.results111,go_sem];try rfl) rfl ?_
  have he:=HE.out
  injection he with h1 h2
  exact ⟨by rw [h1];first | done | rfl | rw [HTx.out],by rw [h2];exact HB3.out,HO3.out⟩
 | true =>
  by_cases hn:ever=true∧xt=cK
  case pos =>
   obtain ⟨rfl,hn⟩:=hn
   have q1:=HNe.out hn
   have HE:=hide (show (y,s3)=(9223372036854775807,s2) by rw [HS.out,if_neg (by simp),if_pos ⟨rfl,hn⟩])
   clear HS hn
   go_wp2_with fail
   refine bodyPost_ret (v:=.int .i64 9223372036854775807) (by simp [results,Tryz.results111,go_sem];try rfl) rfl ?_
   have he:=HE.out
   injection he with h1 h2
   exact ⟨by rw [h1];first | done | rfl | rw [HTx.out],by rw [h2];exact HB3.out,HO3.out⟩
  case neg =>
   have HE:=hide (show (y,s3)=kF f.line s2 ⟨xt,xq,xa⟩ least 1000000000000 by rw [HS.out,if_neg (by simp),if_neg hn])
   clear HS
   cases ever with
   | false =>
    clear hn
    go_wp2_with (go_at_call 113;refine (HNu.out X HB3.out (HEv.out h7)).mono ?_;rintro e wz ⟨rfl,hb5,ho5⟩)
    refine bodyPost_ret (v:=.int .i64 y) (by simp [results,Tryz.results111,go_sem];rw [← HE.out]) rfl ?_
    exact ⟨rfl,by have he:=HE.out;rw [← he] at hb5;exact hb5,HO3.out.trans ho5⟩
   | true =>
    have q1:=HNn.out (fun h=>hn ⟨rfl,h⟩)
    clear hn
    go_wp2_with (go_at_call 113;refine (HNu.out X HB3.out (HEv.out h7)).mono ?_;rintro e wz ⟨rfl,hb5,ho5⟩)
    refine bodyPost_ret (v:=.int .i64 y) (by simp [results,Tryz.results111,go_sem];rw [← HE.out]) rfl ?_
    exact ⟨rfl,by have he:=HE.out;rw [← he] at hb5;exact hb5,HO3.out.trans ho5⟩
set_option maxRecDepth 100000 in
theorem xO (a:Nat) (f:Fr) (s:St) (w:World) (h:PBlk w a f s) (hf:FrOk f) (hr:Rd w (· = a) f.wA (flat encW f.ws)) (hnx:s.nx≤1000000000) :
 Calls Tryz.prog 114 #[.pointer (some ⟨a,0,none⟩)] w fun e w'=>e=.returned (.string (bs (cP f.line f.width f.ws s).1))∧PBlk w' a f (cP f.line f.width f.ws s).2∧Only (· = a) w w':=by
 have hal:a < w.heap.size:=h.lt
 have H:=hide h
 have HFl:=hide (fun (s:St) (col e:Int) (w:World) (h:PBlk w a f s) (hc0:0≤col) (hc1:col≤1000000000)=>eA a f s col e w h hc0 hc1)
 have HWd:=hide (fun (w:World) (h:PBlk w a f s) (hr:Rd w (· = a) f.wA (flat encW f.ws))=>nE a f s true w h hf hr hnx)
 have hsz:=g8 hf s true
 have HS:=hide (show cP f.line f.width f.ws s=(if (aJ f.line f.width f.ws s true).1.2=false then ([],(aJ f.line f.width f.ws s true).2) else if 64 < (aJ f.line f.width f.ws s true).1.1.text.length then ([],bE f.line (aJ f.line f.width f.ws s true).2 (aJ f.line f.width f.ws s true).1.1.at_ 4) else ((aJ f.line f.width f.ws s true).1.1.text,if (bV (aJ f.line f.width f.ws s true).1.1.text).2≠0 then bE f.line (aJ f.line f.width f.ws s true).2 (aJ f.line f.width f.ws s true).1.1.at_ (bV (aJ f.line f.width f.ws s true).1.1.text).2 else (aJ f.line f.width f.ws s true).2)) from rfl)
 have HR:=hide hr
 obtain ⟨R,hR⟩:∃ R,R=aJ f.line f.width f.ws s true:=⟨_,rfl⟩
 obtain ⟨N,hN⟩:∃ N,N=cP f.line f.width f.ws s:=⟨_,rfl⟩
 rw [← hR] at HS HWd hsz
 rw [← hN] at HS ⊢
 obtain ⟨⟨⟨xt,xq,xa⟩,ok⟩,s2⟩:=R
 obtain ⟨y,s3⟩:=N
 simp only at HS HWd hsz ⊢
 have hxa:=hsz.2.1
 obtain ⟨t,ht⟩:∃ t,t=bs xt:=⟨_,rfl⟩
 rw [← ht] at HWd
 have htx:bs xt=t:=ht.symm
 have hxs:t.size=xt.length:=by rw [ht];exact bJ xt
 have HTx:=hide htx
 have HCh:=hide (fun (w:World)=>Check_c (bs xt) w (by rw [bJ];omega))
 rw [show (bs xt).data.toList=xt from rfl,htx] at HCh
 obtain ⟨C,hC⟩:∃ C,C=bV xt:=⟨_,rfl⟩
 rw [← hC] at HCh HS
 obtain ⟨cn,ce⟩:=C
 simp only at HCh HS
 clear hR hN h hr hsz hnx hf hC ht htx
 go_enter Tryz.func114,Tryz.ntmps114
 go_wp2_with fail
 refine (HWd.out w H.out HR.out).mono ?_
 rintro e wq ⟨rfl,hb2,ho2⟩
 have hO2:=ho2
 clear ho2
 have hsa:=hb2.lt
 go_upto_region 2 with fail
 generalize hX:World.alloc wq _=X
 have hX3:Blk X wq.heap.size 128 #[.string (t),.bool xq,.int .i64 xa]:=by rw [← hX];exact Blk.new _ _ _
 have hB3:PBlk X a f s2:=by rw [← hX];exact hb2.allocd _
 have hO3:Only (· = a) w X:=by rw [← hX];exact hO2.alloc _
 obtain ⟨⟨r0,r1,r2⟩,_⟩:=hX3.three
 have HX3:=hide hX3
 have HB3:=hide hB3
 have HO3:=hide hO3
 clear hX hO2 hb2 hX3 hB3 hO3
 have hs2:=HX3.out.lt
 have hs3:=HB3.out.lt
 have hxn:a≠wq.heap.size:=by omega
 cases ok with
 | false =>
  have HE:=hide (show (y,s3)=([],s2) by rw [HS.out,if_pos rfl])
  clear HS hxs
  go_wp2_with fail
  refine bodyPost_ret (v:=.string (bs [])) (by simp [results,Tryz.results114,go_sem];try rfl) rfl ?_
  have he:=HE.out
  injection he with h1 h2
  exact ⟨by rw [h1];first | done | rfl | rw [HTx.out],by rw [h2];exact HB3.out,HO3.out⟩
 | true =>
  by_cases h64:64 < xt.length
  case pos =>
   have HE:=hide (show (y,s3)=([],bE f.line s2 xa 4) by rw [HS.out,if_neg (by simp),if_pos h64])
   have q2:decide ((64:Int) < (t.size:Int))=true:=by rw [hxs];simp;omega
   have q3:decide (64 < t.size)=true:=by rw [hxs];simp;omega
   clear HS hxs h64
   go_wp2_with fail
   refine (HFl.out _ xa 4 _ HB3.out (by omega) (by omega)).mono ?_
   rintro e wz ⟨rfl,hb5,ho5⟩
   have hX5:=HX3.out.only ho5 (by omega)
   obtain ⟨⟨i0,i1,i2⟩,_⟩:=hX5.three
   have HB5:=hide hb5
   have HO5:=hide (HO3.out.trans ho5)
   clear hX5 hb5 ho5 r0 r1 r2
   go_wp2_with fail
   refine bodyPost_ret (v:=.string (bs [])) (by simp [results,Tryz.results114,go_sem];try rfl) rfl ?_
   have he:=HE.out
   injection he with h1 h2
   exact ⟨by rw [h1];first | done | rfl | rw [HTx.out],by rw [h2];exact HB5.out,HO5.out⟩
  case neg =>
   have q2:decide ((64:Int) < (t.size:Int))=false:=by rw [hxs];simp;omega
   have q3:decide (64 < t.size)=false:=by rw [hxs];simp;omega
   have HS2:=hide (HS.out.trans ((if_neg (by simp)).trans (if_neg h64)))
   clear HS hxs h64
   go_wp2_with fail
   refine (HCh.out _).mono ?_
   rintro e wz ⟨rfl,ho5⟩
   have HB5:=hide (show PBlk wz a f s2 from HB3.out.only ho5 (fun h=>h))
   have HX5:=hide (HX3.out.only ho5 (fun h=>h))
   have HO5:=hide (HO3.out.trans (ho5.none _))
   obtain ⟨⟨i0,i1,i2⟩,_⟩:=HX5.out.three
   clear ho5 r0 r1 r2
   by_cases hce:ce=0
   case pos =>
    have HE:=hide (show (y,s3)=(xt,s2) by rw [HS2.out,if_neg (by omega)])
    subst hce
    clear HS2
    go_wp2_with fail
    refine bodyPost_ret (v:=.string t) (by simp [results,Tryz.results114,go_sem];try rfl) rfl ?_
    have he:=HE.out
    injection he with h1 h2
    exact ⟨by rw [h1,HTx.out],by rw [h2];exact HB5.out,HO5.out⟩
   case neg =>
    have HE:=hide (show (y,s3)=(xt,bE f.line s2 xa ce) by rw [HS2.out,if_pos (by omega)])
    have q4:((ce:Int) == 0)=false:=beq_eq_false_iff_ne.2 (by omega)
    have q5:((ce:Int) != 0)=true:=bne_iff_ne.2 (by omega)
    clear HS2 hce
    go_wp2_with fail
    refine (HFl.out _ xa ce _ HB5.out (by omega) (by omega)).mono ?_
    rintro e wy ⟨rfl,hb7,ho7⟩
    have hX7:=HX5.out.only ho7 (by omega)
    obtain ⟨⟨l0,l1,l2⟩,_⟩:=hX7.three
    have HB7:=hide hb7
    have HO7:=hide (HO5.out.trans ho7)
    clear hX7 hb7 ho7 i0 i1 i2
    go_wp2_with fail
    refine bodyPost_ret (v:=.string t) (by simp [results,Tryz.results114,go_sem];try rfl) rfl ?_
    have he:=HE.out
    injection he with h1 h2
    exact ⟨by rw [h1,HTx.out],by rw [h2];exact HB7.out,HO7.out⟩
end Go.Proofs.YtaioaojfdngfdaaGreatDoor
