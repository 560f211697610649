/- Parts of a chain of lemmas: Flt, LoadP, Reg, Ld1, Ld2. Conditions: those of each theorem. -/
import Derived.Test.YtaioaojfdngfdaaGreatDoorPg02
import Derived.Test.YtaioaojfdngfdaaGreatDoorPg03
import Derived.Test.YtaioaojfdngfdaaGreatDoorPg42
import Derived.Lib.Join
import Derived.Test.YtaioaojfdngfdaaGreatDoorPg09
import Derived.BigRegion
set_option linter.unusedVariables false
set_option linter.unusedSimpArgs false
set_option maxHeartbeats 3200000
namespace Go.Proofs.YtaioaojfdngfdaaGreatDoor
open Go.RowKit
def AtV (w:World) (v:Value) (x y c:Int):Prop:=∃ a,v=.iface 106 (.pointer (some ⟨a,0,none⟩))∧Blk w a 110 #[.int .i64 x,.int .i64 y,.iface 28 (.int .i64 c)]
def InV (w:World) (v:Value) (nm:ByteArray) (x y c:Int):Prop:=∃ i u,v=.iface 111 (.pointer (some ⟨i,0,none⟩))∧Blk w i 114 #[.string nm,u]∧AtV w u x y c
section
variable {w w':World} {v:Value} {nm:ByteArray} {x y c:Int}
theorem AtV.only (h:AtV w v x y c) (k:Only aA w w'):AtV w' v x y c:=by
 obtain ⟨a,e,b⟩:=h
 exact ⟨a,e,b.only k (fun h=>h)⟩
theorem InV.only (h:InV w v nm x y c) (k:Only aA w w'):InV w' v nm x y c:=by
 obtain ⟨i,u,e,b,h⟩:=h
 exact ⟨i,u,e,b.only k (fun h=>h),h.only k⟩
end
def EV (w:World):Prop:=w.cell? ⟨0,0,none⟩=some (.iface 196 (.agg #[.pointer (some ⟨9,62,none⟩)]))
theorem EV.only {w w':World} (h:EV w) (k:Only aA w w'):EV w':=by
 unfold EV at *
 have hlt : 0 < w.heap.size:=by
  rcases Nat.lt_or_ge 0 w.heap.size with h0 | h0
  ·exact h0
  ·simp [World.cell?,Array.getElem?_eq_none h0] at h
 exact (k.cell (p:=⟨0,0,none⟩) hlt (fun h=>h)).trans h
theorem zF (x y c:Int) (w:World) (hc:c≠0):Calls Tryz.prog 52 #[.agg #[.int .i64 x,.int .i64 y],.int .i64 c] w fun e w'=>(∃ t v,e=.returned (.iface t v)∧AtV w' (.iface t v) x y c)∧Only aA w w':=by
 have q1:(c == 0)=false:=beq_eq_false_iff_ne.2 hc
 clear hc
 go_enter Tryz.func52,Tryz.ntmps52
 go_wp2_with fail
 go_ret
 exact ⟨⟨_,_,rfl,_,rfl,Blk.new' (by simp)⟩,((Only.refl _ w).alloc _).alloc _⟩
theorem yM (x y:Int) (w:World):Calls Tryz.prog 52 #[.agg #[.int .i64 x,.int .i64 y],.int .i64 0] w fun e w'=>e=.returned .nilIface∧Only aA w w':=by
 go_enter Tryz.func52,Tryz.ntmps52
 go_wp2_with fail
 go_ret
 exact ⟨rfl,(Only.refl _ w).alloc _⟩
theorem within_v (nm:ByteArray) (t:TypeId) (v:Value) (x y c:Int) (w:World) (h:AtV w (.iface t v) x y c):Calls Tryz.prog 53 #[.string nm,.iface t v] w fun e w'=>(∃ t u,e=.returned (.iface t u)∧InV w' (.iface t u) nm x y c)∧Only aA w w':=by
 have H:=hide h
 clear h
 go_enter Tryz.func53,Tryz.ntmps53
 go_wp2_with fail
 go_ret
 have k:=(Only.refl aA w).alloc (.cells #[.string nm,.iface t v] 114)
 exact ⟨⟨_,_,rfl,_,_,rfl,Blk.new _ _ _,H.out.only k⟩,k⟩
theorem code_c (v:Value) (nm:ByteArray) (x y c:Int) (w:World) (h:InV w v nm x y c) (he:EV w):Calls Tryz.prog 31 #[v] w fun e w'=>e=.returned (.int .i64 c)∧Only aA w w':=by
 obtain ⟨i,u,rfl,hi,a,rfl,ha⟩:=h
 have k:=(Only.refl aA w).alloc (.cells #[.int .i64 0] 28)
 have hi2:=(hi.alloc (.cells #[.int .i64 0] 28)).cell 1
 have ha2:=(ha.alloc (.cells #[.int .i64 0] 28)).cell 2
 have HA:=hide (asE_c i a c ⟨w.heap.size,0,none⟩ (.int .i64 0) (w.alloc (.cells #[.int .i64 0] 28)) (he.only k) ((Blk.new _ _ _).cell 0) ((Blk.new _ _ _).frozen 0) hi2 ha2)
 clear k hi ha he hi2 ha2
 go_enter Tryz.func31,Tryz.ntmps31
 go_wp2_with fail
 refine HA.out.mono ?_
 rintro e w2 ⟨rfl,rfl⟩
 go_wp2_with fail
 go_ret
 exact ⟨rfl,(((((Only.refl aA w).alloc _).alloc _).alloc _).alloc _).alloc _⟩
theorem where_c (v:Value) (nm:ByteArray) (x y c:Int) (w:World) (h:InV w v nm x y c) (he:EV w):Calls Tryz.prog 29 #[v] w fun e w'=>e=.returned (.tuple #[.agg #[.int .i64 x,.int .i64 y],.bool true])∧Only aA w w':=by
 obtain ⟨i,u,rfl,hi,a,rfl,ha⟩:=h
 have hal:=ha.lt
 obtain ⟨W1,hW1⟩:∃ W1,W1=(w.alloc (.cells #[.int .i64 0,.int .i64 0] 27)).alloc (.cells #[.pointer none] 106):=⟨_,rfl⟩
 have k:Only aA w W1:=by rw [hW1];exact ((Only.refl aA w).alloc _).alloc _
 have hs:W1.heap.size=w.heap.size + 2:=by rw [hW1];simp
 have b1:Blk W1 (w.heap.size + 1) 106 #[.pointer none]:=by rw [hW1];exact Blk.new' (by simp)
 have hi2:=(hi.only k (fun h=>h)).cell 1
 have HA:=hide (asA_c i a c ⟨w.heap.size + 1,0,none⟩ (.pointer none) W1 (he.only k) (b1.cell 0) (b1.frozen 0) hi2)
 have H:=hide (And.intro k (And.intro hs (And.intro b1 (And.intro ha hal))))
 have HW:=hide hW1
 clear k hi ha he hi2 b1 hs hal hW1
 go_enter Tryz.func29,Tryz.ntmps29
 go_upto_region 2 with fail
 change Code.wp _ _ _ _ ((w.alloc (.cells #[.int .i64 0,.int .i64 0] 27)).alloc (.cells #[.pointer none] 106))
 rw [← HW.out]
 go_wp2_with fail
 refine HA.out.mono ?_
 rintro e w2 ⟨rfl,hw2⟩
 obtain ⟨k,hs,b1,ha,hal⟩:=H.out
 have k2:Only aA w w2:=by rw [hw2];exact (((k.alloc _).alloc _).alloc _ |>.alloc _).setCell (Or.inr (by show w.heap.size≤w.heap.size + 1;omega)) _
 have b2:Blk w2 (w.heap.size + 1) 106 #[.pointer (some ⟨a,0,none⟩)]:=by rw [hw2];exact ((((b1.alloc _).alloc _).alloc _).alloc _).set_ 0 _
 have b0:Blk w2 w.heap.size 27 #[.int .i64 0,.int .i64 0]:=by
  have b0:Blk W1 w.heap.size 27 #[.int .i64 0,.int .i64 0]:=by rw [HW.out];exact (Blk.new _ _ _).alloc _
  rw [hw2]
  exact ((((b0.alloc _).alloc _).alloc _).alloc _).far (by show w.heap.size≠w.heap.size + 1;omega) _
 have ha2:=ha.only k2 (fun h=>h)
 have HK:=hide k2
 have c0:=b2.cell 0
 have c1:=ha2.cell 0
 have c2:=ha2.cell 1
 have d0:=b0.cell 0
 have d1:=b0.cell 1
 have f0:=b0.frozen 0
 have f1:=b0.frozen 1
 have e0:=(b0.set_ 0 (.int .i64 x)).cell 0
 have e1:=((b0.set_ 0 (.int .i64 x)).set_ 1 (.int .i64 y)).cell 1
 clear b2 b0 ha2 hw2 k2 H HW HA k hs b1 ha hal
 simp at c0 c1 c2 d0 d1
 have HE:=hide (And.intro e0 e1)
 clear e0 e1
 go_wp2_with fail
 obtain ⟨e0,e1⟩:=HE.out
 simp at e0 e1
 refine bodyPost_ret (v:=.tuple #[.agg #[.int .i64 x,.int .i64 y],.bool true]) ?_ rfl ?_
 ·simp [results,Tryz.results29,go_sem,e0,e1]
 ·exact ⟨rfl,(HK.out.setCell (Or.inr (Nat.le_refl _)) _).setCell (Or.inr (Nat.le_refl _)) _⟩
theorem who_c (v:Value) (nm:ByteArray) (x y c:Int) (w:World) (h:InV w v nm x y c) (he:EV w):Calls Tryz.prog 30 #[v] w fun e w'=>e=.returned (.tuple #[.string nm,.bool true])∧Only aA w w':=by
 obtain ⟨i,u,rfl,hi,-⟩:=h
 have hil:=hi.lt
 obtain ⟨W1,hW1⟩:∃ W1,W1=w.alloc (.cells #[.pointer none] 111):=⟨_,rfl⟩
 have k:Only aA w W1:=by rw [hW1];exact (Only.refl aA w).alloc _
 have b1:Blk W1 w.heap.size 111 #[.pointer none]:=by rw [hW1];exact Blk.new _ _ _
 have HA:=hide (asI_c i c ⟨w.heap.size,0,none⟩ (.pointer none) W1 (he.only k) (b1.cell 0) (b1.frozen 0))
 have H:=hide (And.intro k (And.intro b1 (And.intro hi hil)))
 have HW:=hide hW1
 clear k hi he b1 hil hW1
 go_enter Tryz.func30,Tryz.ntmps30
 go_upto_region 2 with fail
 change Code.wp _ _ _ _ (w.alloc (.cells #[.pointer none] 111))
 rw [← HW.out]
 go_wp2_with fail
 refine HA.out.mono ?_
 rintro e w2 ⟨rfl,hw2⟩
 obtain ⟨k,b1,hi,hil⟩:=H.out
 have k2:Only aA w w2:=by rw [hw2];exact (((k.alloc _).alloc _).alloc _ |>.alloc _).setCell (Or.inr (Nat.le_refl _)) _
 have b2:Blk w2 w.heap.size 111 #[.pointer (some ⟨i,0,none⟩)]:=by rw [hw2];exact ((((b1.alloc _).alloc _).alloc _).alloc _).set_ 0 _
 have hi2:=hi.only k2 (fun h=>h)
 have HK:=hide k2
 have c0:=b2.cell 0
 have c1:=hi2.cell 0
 clear b2 hi2 hw2 k2 H HW HA k b1 hi hil
 simp at c0 c1
 go_wp2_with fail
 refine bodyPost_ret (v:=.tuple #[.string nm,.bool true]) (by simp [results,Tryz.results30,go_sem];try rfl) rfl ?_
 exact ⟨rfl,HK.out⟩
theorem num16_c (n:Nat) (w:World) (h:n≤1000000):Calls Tryz.prog 32 #[.int .i64 n] w fun e w'=>e=.returned (.string (bs (Lib.decDigits n)))∧w'=w:=by
 have HD:=hide (Digits_c n w (by omega))
 have d1:decide ((n:Int) ≥ 0)=true:=by simp
 have d2:decide ((0:Int)≤(n:Int))=true:=by simp
 go_enter Tryz.func32,Tryz.ntmps32
 go_wp2_with fail
 refine HD.out.mono ?_
 rintro e w2 ⟨rfl,rfl⟩
 go_wp2_with fail
 go_ret
 exact ⟨rfl,rfl⟩
theorem itoa16_c (n:Nat) (w:World) (h:n≤1000000) (ht:Tab w):Calls Tryz.prog 54 #[.int .i64 n] w fun e w'=>e=.returned (.string (bs (Lib.decDigits n)))∧Only aA w w':=by
 refine (Itoa_c n w (by omega) (by omega) ht).mono ?_
 rintro e w' ⟨rfl,k⟩
 rw [itoa_nn (by omega),Int.toNat_natCast]
 exact ⟨rfl,Only.of_below k aA⟩
def headB (s:List UInt8):Bool:=decide (s=aH) || decide (s.take 7=[115,99,114,105,112,116,32])
theorem yK {s:List UInt8} (h:headB s=true):idleB s=false:=by
 unfold headB at h
 rw [Bool.or_eq_true,decide_eq_true_eq,decide_eq_true_eq] at h
 rcases h with h | h
 ·subst h;rfl
 ·cases s with
  | nil=>simp at h
  | cons a r =>
   rw [List.take_succ_cons] at h
   injection h with h1 _
   subst h1
   simp [idleB,atB]
structure PartM where
 line:Nat
 l:List (List UInt8)
structure ScrM where
 prog:ProgM
 line:Int
 x:Int
 y:Int
 err:Int
def dD:List (List UInt8)→Nat→PartM→List PartM
 | [],_,at_=>[at_]
 | s :: r,i,at_=>if headB s=true then at_ :: dD r (i + 1) ⟨i + 1,[s]⟩ else dD r (i + 1) ⟨at_.line,at_.l++[s]⟩
def dV (l:List (List UInt8)):Bool:=l.any fun s=>!idleB s
def jN (o:List PartM):List PartM:=match o with
 | []=>[]
 | p :: r=>if dV p.l=true then p :: r else r
def pL (s:List UInt8):List PartM:=jN (dD (bI s) 0 ⟨1,[]⟩)
def fR (s:List UInt8):Bool:=!idleB s
def dL (l:List (List UInt8)):Int:=if l.any fR=true then (l.findIdx fR:Int) else -1
def fJ (name:ByteArray) (s:ScrM):Bool:=decide (s.err=0) && decide (s.prog.name=name)
def oL (l:List ScrM) (name:ByteArray):Nat:=l.findIdx (fJ name)
def iW (l:List ScrM) (name:ByteArray):Bool:=l.any (fJ name)
def fF (r:ProgM × (Int × Int) × Int) (p:PartM) (ahead:List ScrM):ScrM :=
 if r.2.2≠0 then ⟨cI,p.line,r.2.1.1 + p.line - 1,r.2.1.2,r.2.2⟩
 else if iW ahead r.1.name=true then ⟨cI,p.line,p.line + dL p.l,8,6⟩
 else ⟨r.1,p.line,0,0,0⟩
def gR (p:PartM) (ahead:List ScrM):ScrM:=fF (dH (Lib.join p.l [10])) p ahead
def readAll:List PartM→List ScrM→List ScrM
 | [],o=>o
 | p :: r,o=>readAll r (o++[gR p o])
def eW (s:List UInt8):List ScrM × Int :=
 if 40000 < s.length then ([],4) else if 64 < (pL s).length then ([],4) else (readAll (pL s) [],0)
def pN (p:PartM) (o:List ScrM):List ScrM:=if dV p.l=true then o++[gR p o] else o
def lU:List (List UInt8)→Nat→List (List UInt8)→List ScrM→List ScrM
 | [],k,cur,o=>pN ⟨k + 1,cur⟩ o
 | s :: r,k,cur,o=>if headB s=true then lU r (k + cur.length) [s] (pN ⟨k + 1,cur⟩ o) else lU r k (cur++[s]) o
def dT (l:List (List UInt8)):List ScrM:=match l with
 | []=>[]
 | s :: r=>lU r 0 [s] []
def kK (s:List UInt8):List ScrM × Int :=
 if 40000 < s.length then ([],4) else if 64 < (dT (bI s)).length then ([],4) else (dT (bI s),0)
def kY:List PartM→List ScrM→List ScrM
 | [],o=>o
 | p :: r,o=>kY r (pN p o)
theorem oR:∀ (r:List (List UInt8)) (k:Nat) (cur:List (List UInt8)) (o:List ScrM),lU r k cur o=kY (dD r (k + cur.length) ⟨k + 1,cur⟩) o
 | [],k,cur,o=>rfl
 | s :: r,k,cur,o=>by
  unfold lU dD
  by_cases h:headB s=true
  ·rw [if_pos h,if_pos h,oR r]
   rfl
  ·rw [if_neg h,if_neg h,oR r]
   simp [Nat.add_assoc]
theorem pV {s:List UInt8} (h:headB s=true) (r:List (List UInt8)):dV (s :: r)=true:=by
 unfold dV
 rw [List.any_cons,yK h]
 rfl
theorem says_app {a:List (List UInt8)} (h:dV a=true) (b:List (List UInt8)):dV (a++b)=true:=by
 unfold dV at h ⊢
 rw [List.any_append,h]
 rfl
theorem lV:∀ (r:List (List UInt8)) (i:Nat) (p:PartM),∃ q o,dD r i p=q :: o∧q.line=p.line∧(dV p.l=true→dV q.l=true)∧∀ x ∈ o,dV x.l=true
 | [],_,p=>⟨p,[],rfl,rfl,id,fun _ h=>by cases h⟩
 | s :: r,i,p=>by
  unfold dD
  by_cases h:headB s=true
  ·rw [if_pos h]
   obtain ⟨q,o,e,_,h2,h3⟩:=lV r (i + 1) ⟨i + 1,[s]⟩
   refine ⟨p,_,rfl,rfl,id,fun x hx=>?_⟩
   rw [e] at hx
   rcases List.mem_cons.1 hx with rfl | hx
   ·exact h2 (pV h [])
   ·exact h3 x hx
  ·rw [if_neg h]
   obtain ⟨q,o,e,h1,h2,h3⟩:=lV r (i + 1) ⟨p.line,p.l++[s]⟩
   exact ⟨q,o,e,h1,fun h=>h2 (says_app h _),h3⟩
theorem jQ:∀ (l:List PartM) (o:List ScrM),(∀ x ∈ l,dV x.l=true)→kY l o=readAll l o
 | [],_,_=>rfl
 | p :: r,o,h=>by
  unfold kY readAll pN
  rw [if_pos (h p (List.mem_cons_self ..)),jQ r _ fun x hx=>h x (List.mem_cons_of_mem _ hx)]
theorem jD:∀ (l:List PartM) (o:List ScrM),(readAll l o).length=o.length + l.length
 | [],_=>rfl
 | p :: r,o=>by unfold readAll;rw [jD r];simp;omega
theorem oP {p:PartM} (h:dV p.l=true) (r:List PartM):jN (p :: r)=p :: r:=if_pos h
theorem oQ {p:PartM} (h:¬ dV p.l=true) (r:List PartM):jN (p :: r)=r:=if_neg h
theorem tO (r:List (List UInt8)) (i:Nat) (p:PartM):kY (dD r i p) []=readAll (jN (dD r i p)) []:=by
 obtain ⟨q,o,e,_,_,h3⟩:=lV r i p
 rw [e]
 by_cases h:dV q.l=true
 ·rw [oP h]
  refine jQ _ _ fun x hx=>?_
  rcases List.mem_cons.1 hx with rfl | hx
  ·exact h
  ·exact h3 x hx
 ·rw [oQ h]
  show kY o (pN q [])=_
  unfold pN
  rw [if_neg h]
  exact jQ _ _ h3
theorem doc_same (l:List (List UInt8)) (hl:0 < l.length):dT l=readAll (jN (dD l 0 ⟨1,[]⟩)) []:=by
 cases l with
 | nil=>simp at hl
 | cons s r =>
  show lU r 0 [s] []=_
  rw [oR]
  show kY (dD r 1 ⟨1,[s]⟩) []=_
  rw [tO]
  by_cases h:headB s=true
  ·have e:dD (s :: r) 0 ⟨1,[]⟩=⟨1,[]⟩ :: dD r 1 ⟨1,[s]⟩:=by
    show (if headB s=true then _ else _)=_
    rw [if_pos h]
   rw [e]
   obtain ⟨q,o,e2,_,h2,h3⟩:=lV r 1 ⟨1,[s]⟩
   rw [e2,oP (h2 (pV h [])),oQ (by decide)]
  ·have e:dD (s :: r) 0 ⟨1,[]⟩=dD r 1 ⟨1,[s]⟩:=by
    show (if headB s=true then _ else _)=_
    rw [if_neg h]
    rfl
   rw [e]
theorem x5 (s:List UInt8):eW s=kK s:=by
 unfold eW kK
 rw [doc_same _ (iP s)]
 rw [jD]
 simp only [List.length_nil,Nat.zero_add]
 rfl
section
variable {P:Program} {ops:Array Oper} {Q:Exit→Act→World→Prop} {md:Region.Mode} {S S':World→Prop}
end
theorem cN (l:List (List UInt8)) (j:Nat) (h:j < l.length):(flat encLn l)[j]?=some (.string (bs (l.getD j []))):=by
 induction l generalizing j with
 | nil=>simp at h
 | cons x l ih =>
  cases j with
  | zero=>simp [flat,encLn]
  | succ j =>
   have:=ih j (by simpa using h)
   simp [flat,encLn] at this ⊢
   simpa using this
theorem bW (l:List (List UInt8)):(flat encLn l).length=l.length:=by
 induction l with
 | nil=>rfl
 | cons x l ih=>simp [flat,encLn] at ih ⊢;exact ih
theorem x8 {w:World} {base n c:Nat} {A:Option Addr} {L:List (List UInt8)} (h:w.ownsRow base 9 1 (.slice A n c) n (flat encLn L)) (j:Nat) (hj:j < L.length) :
 ∃ b o,A=some ⟨b,o,none⟩∧b < w.heap.size∧∀ j,j < L.length→w.cell? ⟨b,o + j,none⟩=some (.string (bs (L.getD j []))):=by
 obtain ⟨b,o,hA,_,hb,hc⟩:=(Rd.of_own (M:=aA) h (fun _ h=>h.elim)).at_ (j:=j) (by rw [bW];exact hj)
 exact ⟨b,o,hA,hb,fun j hj=>by rw [hc j (by rw [bW];exact hj),cN L j hj]⟩
theorem rP (a b:List UInt8):(a == b)=decide (a=b):=by
 by_cases h:a=b
 ·subst h;simp
 ·rw [decide_eq_false h];exact beq_eq_false_iff_ne.2 h
theorem ext7 (s:ByteArray):((s.extract 0 7).toList == [115,99,114,105,112,116,32])=decide (s.data.toList.take 7=[115,99,114,105,112,116,32]):=by
 rw [ByteArray.toList_eq,vL,List.drop_zero]
 exact rP _ _
theorem lst6 (s:ByteArray):(s.toList == [115,99,114,105,112,116])=decide (s.data.toList=aH):=by
 rw [ByteArray.toList_eq]
 exact rP _ _
theorem sC {s:ByteArray} (h:¬ 7≤s.size):decide (s.data.toList.take 7=[115,99,114,105,112,116,32])=false:=by
 refine decide_eq_false fun e=>h ?_
 have h1:=congrArg List.length e
 rw [List.length_take] at h1
 have h2:s.data.toList.length=s.size:=by simp
 simp at h1
 omega
set_option maxRecDepth 100000 in
theorem pre_c (s:ByteArray) (w:World) (hs:s.size≤9223372036854775807):Calls Tryz.prog 153 #[.string s,.string ⟨#[115,99,114,105,112,116,32]⟩] w fun e w'=>e=.returned (.bool (decide (s.data.toList.take 7=[115,99,114,105,112,116,32])))∧w'=w:=by
 by_cases h:7≤s.size
 case pos =>
  have d1:decide ((7:Int)≤(s.size:Int))=true:=by simp;omega
  have d2:decide (7≤s.size)=true:=by simp;omega
  have j1:(0:Int)≤(7:Int):=by omega
  have j2:(7:Int)≤(s.size:Int):=by omega
  have HX:=hide (ext7 s)
  obtain ⟨B,hB⟩:∃ B,B=decide (s.data.toList.take 7=[115,99,114,105,112,116,32]):=⟨_,rfl⟩
  rw [← hB] at HX ⊢
  obtain ⟨x,hx⟩:∃ x,x=s.extract 0 7:=⟨_,rfl⟩
  have q:=HX.out
  clear hB h HX hx
  go_enter Tryz.func153,Tryz.ntmps153
  go_wp2_with fail
  all_goals (go_ret;exact ⟨by rw [← q];rfl,rfl⟩)
 case neg =>
  have d1:decide ((7:Int)≤(s.size:Int))=false:=by simp;omega
  have d2:decide (7≤s.size)=false:=by simp;omega
  have HX:=hide (sC h)
  obtain ⟨B,hB⟩:∃ B,B=decide (s.data.toList.take 7=[115,99,114,105,112,116,32]):=⟨_,rfl⟩
  rw [← hB] at HX ⊢
  clear hB h
  go_enter Tryz.func153,Tryz.ntmps153
  go_wp2_with fail
  go_ret
  exact ⟨by rw [HX.out];rfl,rfl⟩
theorem hasPre_c (s:ByteArray) (w:World) (hs:s.size≤9223372036854775807):Calls Tryz.prog 125 #[.string s,.string ⟨#[115,99,114,105,112,116,32]⟩] w fun e w'=>e=.returned (.bool (decide (s.data.toList.take 7=[115,99,114,105,112,116,32])))∧w'=w:=by
 have HP:=hide (fun X=>pre_c s X hs)
 obtain ⟨B,hB⟩:∃ B,B=decide (s.data.toList.take 7=[115,99,114,105,112,116,32]):=⟨_,rfl⟩
 rw [← hB] at HP ⊢
 clear hB
 go_enter Tryz.func125,Tryz.ntmps125
 go_wp2_with fail
 refine (HP.out _).mono ?_
 rintro e w' ⟨rfl,rfl⟩
 go_wp2_with fail
 go_ret
 exact ⟨rfl,rfl⟩
set_option maxRecDepth 100000 in
theorem heads_c (s:ByteArray) (w:World) (hs:s.size≤9223372036854775807):Calls Tryz.prog 81 #[.string s] w fun e w'=>e=.returned (.bool (headB s.data.toList))∧w'=w:=by
 have HP:=hide (fun X=>hasPre_c s X hs)
 have HL:=hide (lst6 s)
 have HB:=hide (show headB s.data.toList=(decide (s.data.toList=aH) || decide (s.data.toList.take 7=[115,99,114,105,112,116,32])) from rfl)
 obtain ⟨B,hB⟩:∃ B,B=decide (s.data.toList.take 7=[115,99,114,105,112,116,32]):=⟨_,rfl⟩
 obtain ⟨C,hC⟩:∃ C,C=decide (s.data.toList=aH):=⟨_,rfl⟩
 obtain ⟨D,hD⟩:∃ D,D=headB s.data.toList:=⟨_,rfl⟩
 rw [← hB] at HP HB
 rw [← hC] at HL HB
 rw [← hD] at HB ⊢
 clear hB hC hD
 cases C with
 | true =>
  have q:=HL.out
  go_enter Tryz.func81,Tryz.ntmps81
  go_wp2_with fail
  go_ret
  exact ⟨by rw [HB.out];rfl,rfl⟩
 | false =>
  have q:=HL.out
  go_enter Tryz.func81,Tryz.ntmps81
  go_wp2_with fail
  refine (HP.out _).mono ?_
  rintro e w' ⟨rfl,rfl⟩
  go_wp2_with fail
  go_ret
  exact ⟨by rw [HB.out];rfl,rfl⟩
set_option maxRecDepth 100000 in
theorem uH (s:ByteArray) (w:World) (hs:s.size≤9223372036854775807):Calls Tryz.prog 49 #[.string s] w fun e w'=>e=.returned (.bool (headB s.data.toList))∧w'=w:=by
 have HL:=hide (lst6 s)
 have HX:=hide (ext7 s)
 have HN:=hide (fun h:¬ 7≤s.size=>sC h)
 have HB:=hide (show headB s.data.toList=(decide (s.data.toList=aH) || decide (s.data.toList.take 7=[115,99,114,105,112,116,32])) from rfl)
 obtain ⟨B,hB⟩:∃ B,B=decide (s.data.toList.take 7=[115,99,114,105,112,116,32]):=⟨_,rfl⟩
 obtain ⟨C,hC⟩:∃ C,C=decide (s.data.toList=aH):=⟨_,rfl⟩
 obtain ⟨D,hD⟩:∃ D,D=headB s.data.toList:=⟨_,rfl⟩
 rw [← hB] at HX HN HB
 rw [← hC] at HL HB
 rw [← hD] at HB ⊢
 clear hB hC hD
 cases C with
 | true =>
  have q:=HL.out
  go_enter Tryz.func49,Tryz.ntmps49
  go_wp2_with fail
  go_ret
  exact ⟨by rw [HB.out];rfl,rfl⟩
 | false =>
  have q:=HL.out
  by_cases h:7≤s.size
  case pos =>
   have d1:decide ((6:Int) < (s.size:Int))=true:=by simp;omega
   have d2:decide (6 < s.size)=true:=by simp;omega
   have j2:(7:Int)≤(s.size:Int):=by omega
   have q2:=HX.out
   go_enter Tryz.func49,Tryz.ntmps49
   go_wp2_with fail
   all_goals (go_ret;exact ⟨by rw [HB.out,← q2];rfl,rfl⟩)
  case neg =>
   have d1:decide ((6:Int) < (s.size:Int))=false:=by simp;omega
   have d2:decide (6 < s.size)=false:=by simp;omega
   have HE:=hide (HN.out h)
   clear h HN
   go_enter Tryz.func49,Tryz.ntmps49
   go_wp2_with fail
   go_ret
   exact ⟨by rw [HB.out,HE.out];rfl,rfl⟩
theorem says_c (s:ByteArray) (w:World):Calls Tryz.prog 83 #[.string s] w fun e w'=>e=.returned (.bool (!idleB s.data.toList))∧w'=w:=by
 have HP:=hide (fun X=>Idle_c s X)
 obtain ⟨B,hB⟩:∃ B,B=idleB s.data.toList:=⟨_,rfl⟩
 rw [← hB] at HP ⊢
 clear hB
 go_enter Tryz.func83,Tryz.ntmps83
 go_wp2_with fail
 refine (HP.out _).mono ?_
 rintro e w' ⟨rfl,rfl⟩
 go_wp2_with fail
 go_ret
 exact ⟨rfl,rfl⟩
theorem idxS_at (l:List (List UInt8)) (k:Nat) (hk:k < l.length) (h:∀ y ∈ l.take k,fR y=false) (hx:fR (l.getD k [])=true):dL l=k:=by
 have e:l.getD k []=l[k]:=by simp [List.getD,hk]
 rw [e] at hx
 unfold dL
 rw [if_pos (List.any_eq_true.2 ⟨l[k],List.getElem_mem hk,hx⟩)]
 have:l.findIdx fR=k:=by
  rw [List.findIdx_eq hk]
  exact ⟨hx,fun j hj=>h _ (by rw [List.mem_take_iff_getElem];exact ⟨j,by omega,rfl⟩)⟩
 rw [this]
theorem yH (l:List (List UInt8)) (h:∀ y ∈ l,fR y=false):dL l = -1:=by
 unfold dL
 rw [if_neg (fun ha=>by obtain ⟨x,hx,ho⟩:=List.any_eq_true.1 ha;rw [h x hx] at ho;cases ho)]
theorem vV (l:List (List UInt8)):decide (0≤dL l)=dV l:=by
 show _=l.any fR
 unfold dL
 cases h:l.any fR
 ·rfl
 ·simp
theorem rH (l:List (List UInt8)):dL l < l.length∧-1≤dL l∨l=[]∧dL l = -1:=by
 cases h:l.any fR with
 | true =>
  left
  have:l.findIdx fR < l.length:=List.findIdx_lt_length.2 (by simpa using List.any_eq_true.1 h)
  unfold dL
  rw [if_pos h]
  omega
 | false =>
  have e:dL l = -1:=by unfold dL;rw [if_neg (by rw [h];decide)]
  rcases l with _ | ⟨a,r⟩
  ·exact Or.inr ⟨rfl,e⟩
  ·left;rw [e];simp;omega
set_option maxRecDepth 100000 in
theorem tR (A:Option Addr) (c:Nat) (l:List (List UInt8)) (w:World) (hr:Rd w aA A (flat encLn l)) (hn0:l.length≤maxLen) :
 Calls Tryz.prog 126 #[.slice A l.length c,.func (.func 83) #[] #[]] w fun e w'=>e=.returned (.int .i64 (dL l))∧w'=w:=by
 have hn:l.length≤9223372036854775807:=hn0
 have Hc:=hide (fun (k:Nat) (hk:k < l.length)=>hr.at_ (j:=k) (by rw [bW];exact hk))
 have Hl:=hide (fun (k:Nat) (hk:k < l.length)=>cN l k hk)
 have HPr:=hide (fun (x:List UInt8) (w':World)=>says_c (bs x) w')
 obtain ⟨n,hnl⟩:∃ n,n=l.length:=⟨_,rfl⟩
 rw [← hnl] at hn ⊢
 have Hn:=hide hnl
 have HNo:=hide (yH l)
 have HAt:=hide (idxS_at l)
 clear hr hn0 hnl
 go_enter Tryz.func126,Tryz.ntmps126
 go_wp2_with fail
 go_loopw [8] (fun i wr=>∃ k:Nat,k≤n∧i=.int .i64 k∧Hid (∀ y ∈ l.take k,fR y=false)∧Hid (wr=w)) (fun i _=>n - (intOf i).toNat)
 case atStart=>exact ⟨0,Nat.zero_le _,rfl,hide (by simp),hide rfl⟩
 case round =>
  obtain ⟨k,hk,rfl,hnone,hbel⟩:=hrel
  by_cases hlt2:k < n
  ·have hkl:k < l.length:=by rw [← Hn.out];exact hlt2
   obtain ⟨b2,o,rfl,_,hb2,hc⟩:=Hc.out k hkl
   obtain ⟨x,hx⟩:∃ x,x=l.getD k []:=⟨_,rfl⟩
   have hpred:=HPr.out x w
   have g0:wr.cell? ⟨b2,o + k,none⟩=some (.string (bs x)):=by rw [hbel.out,hc k (by rw [bW];exact hkl),Hl.out k hkl,hx]
   rw [hbel.out] at g0 ⊢
   have d1:decide ((k:Int) < (n:Int))=true:=by simp;exact hlt2
   have d2:decide (k < n)=true:=by simp;exact hlt2
   have j1:(0:Int)≤(k:Int):=by omega
   have j2:(k:Int) < (n:Int):=by omega
   have w1:IntKind.i64.wrap ((k:Int) + 1)=(k:Int) + 1:=IntWalk.i64_in _ (by omega)
   change Calls _ _ _ _ (fun e w'=>e=.returned (.bool (fR x))∧w'=w) at hpred
   have HX:=hide hx
   clear hc hbel hx
   cases ho:fR x with
   | true =>
    rw [ho] at hpred
    have HP:=hide hpred
    have HI:=hide (HAt.out k hkl hnone.out (by rw [← HX.out];exact ho))
    clear hpred ho hkl
    go_wp2_with (go_at_call 83;refine HP.out.mono ?_;rintro e w2 ⟨rfl,rfl⟩)
    go_ret
    exact ⟨by rw [HI.out];rfl,rfl⟩
   | false =>
    rw [ho] at hpred
    have HP:=hide hpred
    have HIn:Hid (∀ y ∈ l.take (k + 1),fR y=false):=by
     intro y hy
     rw [List.take_add_one] at hy
     rcases List.mem_append.1 hy with hy | hy
     ·exact hnone.out y hy
     ·rw [List.getElem?_eq_getElem hkl] at hy
      simp only [Option.toList_some,List.mem_singleton] at hy
      subst hy
      have e:l.getD k []=l[k]:=by simp [List.getD,hkl]
      rw [← e,← HX.out]
      exact ho
    clear hpred ho hnone hkl
    go_wp2_with (go_at_call 83;refine HP.out.mono ?_;rintro e w2 ⟨rfl,rfl⟩)
    go_roundw
    case rel=>exact ⟨k + 1,by omega,by go_num,HIn,hide trivial⟩
    case measure=>simp [intOf];omega
  ·obtain rfl:k=n:=by omega
   have HI:=hide (HNo.out (by have:=hnone.out;rw [Hn.out,List.take_length] at this;exact this))
   have d1:decide ((k:Int) < (k:Int))=false:=by simp
   have d2:decide (k < k)=false:=by simp
   have HB:=hide hbel.out
   clear hbel hnone
   go_wp2_with fail
   go_ret
   exact ⟨by rw [HI.out];rfl,HB.out⟩
set_option maxRecDepth 100000 in
theorem vH (A:Option Addr) (c:Nat) (l:List (List UInt8)) (w:World) (hr:Rd w aA A (flat encLn l)) (hn0:l.length≤maxLen) :
 Calls Tryz.prog 82 #[.slice A l.length c,.func (.func 83) #[] #[]] w fun e w'=>e=.returned (.bool (dV l))∧w'=w:=by
 have HI:=hide (tR A c l w hr hn0)
 have HG:=hide (vV l)
 obtain ⟨k,hk⟩:∃ k,k=dL l:=⟨_,rfl⟩
 rw [← hk] at HI HG
 clear hk hr
 go_enter Tryz.func82,Tryz.ntmps82
 go_wp2_with fail
 refine HI.out.mono ?_
 rintro e w' ⟨rfl,rfl⟩
 go_wp2_with fail
 go_ret
 exact ⟨by rw [← HG.out];rfl,rfl⟩
end Go.Proofs.YtaioaojfdngfdaaGreatDoor
