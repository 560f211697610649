/- Plain words for memory, over any program: which blocks a call may change, and a block that is known whole. Conditions: none. -/
import Derived.Test.YtaioaojfdngfdaaGreatDoorRows
import Derived.WalkKit
import Derived.WalkSpells
import Derived.WalkLawsBesides
import Derived.Deep.Draws
import Derived.ChangeAlike
namespace Go.Proofs.YtaioaojfdngfdaaGreatDoor
open Go.RowKit
theorem hide {p:Prop} (h:p):Hid p:=h
structure Only (S:Nat→Prop) (w w':World):Prop where
 os:w'.os=w.os
 output:w'.output=w.output
 size:w.heap.size≤w'.heap.size
 block:∀ k,k < w.heap.size→¬ S k→w'.heap[k]?=w.heap[k]?
def aA:Nat→Prop:=fun _=>False
section
variable {S T:Nat→Prop} {a b c w w':World}
theorem Only.refl (S:Nat→Prop) (w:World):Only S w w:=⟨rfl,rfl,Nat.le_refl _,fun _ _ _=>rfl⟩
theorem Only.trans (h:Only S a b) (k:Only S b c):Only S a c :=
 ⟨k.os.trans h.os,k.output.trans h.output,Nat.le_trans h.size k.size,fun i hi hn=>(k.block i (Nat.lt_of_lt_of_le hi h.size) hn).trans (h.block i hi hn)⟩
theorem Only.mono (h:Only S w w') (hs:∀ k,k < w.heap.size→S k→T k):Only T w w' :=
 ⟨h.os,h.output,h.size,fun i hi hn=>h.block i hi (fun hs'=>hn (hs i hi hs'))⟩
theorem Only.drew (h:Only S a b):Only S a b.drew:=⟨h.os,h.output,h.size,h.block⟩
theorem Only.drewN (h:Only S a b) (n:Nat):Only S a (b.drewN n):=⟨h.os,h.output,h.size,h.block⟩
theorem Only.alloc (h:Only S a b) (o:Obj):Only S a (b.alloc o) :=
 ⟨h.os,h.output,Nat.le_trans h.size (by simp),fun i hi hn=>(Below.heap_alloc _ _ _ (Nat.lt_of_lt_of_le hi h.size)).trans (h.block i hi hn)⟩
theorem Only.setCell (h:Only S a b) {p:Addr} (hp:S p.block∨a.heap.size≤p.block) (u:Value):Only S a (b.setCell p u) :=
 ⟨h.os,h.output,by simpa [World.setCell] using h.size,fun i hi hn=>(Below.heap_setCell _ _ _ _ (by
  rintro rfl
  rcases hp with hp | hp
  ·exact hn hp
  ·omega)).trans (h.block i hi hn)⟩
theorem Only.grown (h:Only S a b) {row:Option Nat} (hg:b.grownBy c row) (hr:∀ k,row=some k→S k∨a.heap.size≤k):Only S a c :=
 ⟨hg.os.trans h.os,hg.output.trans h.output,Nat.le_trans h.size hg.size,fun i hi hn=>(hg.block i (Nat.lt_of_lt_of_le hi h.size) (fun e=>by
  rcases hr i e.symm with hk | hk
  ·exact hn hk
  ·omega)).trans (h.block i hi hn)⟩
theorem Only.of_below (h:Below w.heap.size w w') (S:Nat→Prop):Only S w w':=⟨h.os,h.output,h.size,fun i hi _=>h.block i hi⟩
theorem Only.none (h:Only aA w w') (S:Nat→Prop):Only S w w':=h.mono fun _ _ hf=>hf.elim
theorem Only.fresh (h:Only S a b) (k:Only T b c) (hT:∀ i,i < b.heap.size→T i→S i∨a.heap.size≤i):Only S a c :=
 ⟨k.os.trans h.os,k.output.trans h.output,Nat.le_trans h.size k.size,fun i hi hn=>by
  have hib:=Nat.lt_of_lt_of_le hi h.size
  refine (k.block i hib (fun ht=>?_)).trans (h.block i hi hn)
  rcases hT i hib ht with hk | hk
  ·exact hn hk
  ·omega⟩
theorem nY (w:World) (h i:Nat) (u:Value):Only (· = h) w (w.setCell ⟨h,i,none⟩ u):=(Only.refl (· = h) w).setCell (Or.inl rfl) u
theorem Only.cell (h:Only S w w') {p:Addr} (hp:p.block < w.heap.size) (hn:¬ S p.block):w'.cell? p=w.cell? p:=World.cell?_of_block (h.block p.block hp hn)
end
def Blk (w:World) (g:Nat) (t:TypeId) (cs:Array Value):Prop:=w.heap[g]?=some (.cells cs t (0,0))
section
variable {w w':World} {g:Nat} {t:TypeId} {cs:Array Value}
theorem Blk.lt (h:Blk w g t cs):g < w.heap.size:=by
 rcases Nat.lt_or_ge g w.heap.size with hlt | hge
 ·exact hlt
 ·unfold Blk at h;rw [Array.getElem?_eq_none hge] at h;cases h
theorem Blk.cell (h:Blk w g t cs) (i:Nat):w.cell? ⟨g,i,none⟩=cs[i]?:=cell_of_row w g i cs t (0,0) h
theorem Blk.frozen (h:Blk w g t cs) (i:Nat):w.frozen? ⟨g,i,none⟩=false:=by
 unfold Blk at h
 simp [World.frozen?,h]
theorem Blk.new (w:World) (t:TypeId) (cs:Array Value):Blk (w.alloc (.cells cs t)) w.heap.size t cs:=heap_alloc_new w _
theorem mV {w:World} {o:Obj} {g:Nat} (h:g=w.heap.size):(w.alloc o).heap[g]?=some o:=by subst h;exact heap_alloc_new w o
theorem Blk.new' {w:World} {t:TypeId} {cs:Array Value} {g:Nat} (h:g=w.heap.size):Blk (w.alloc (.cells cs t)) g t cs:=mV h
theorem Blk.drew (h:Blk w g t cs):Blk w.drew g t cs:=h
theorem Blk.drewN (h:Blk w g t cs) (n:Nat):Blk (w.drewN n) g t cs:=h
theorem Blk.alloc (h:Blk w g t cs) (o:Obj):Blk (w.alloc o) g t cs:=(Below.heap_alloc w o g h.lt).trans h
theorem Blk.set_ (h:Blk w g t cs) (i:Nat) (u:Value):Blk (w.setCell ⟨g,i,none⟩ u) g t (cs.setIfInBounds i u):=by
 unfold Blk at h ⊢
 simp [World.setCell,Array.getElem?_modify,h]
theorem Blk.far (h:Blk w g t cs) {p:Addr} (hp:g≠p.block) (u:Value):Blk (w.setCell p u) g t cs:=(Below.heap_setCell w p u g hp).trans h
theorem Blk.only {S:Nat→Prop} (h:Blk w g t cs) (hb:Only S w w') (hg:¬ S g):Blk w' g t cs:=(hb.block g h.lt hg).trans h
theorem Blk.ne_ {g':Nat} {t':TypeId} {cs':Array Value} (h:Blk w g t cs) (h':Blk w g' t' cs') (hne:t≠t'):g≠g':=by
 rintro rfl
 unfold Blk at h h'
 rw [h] at h'
 injection h' with h'
 injection h' with _ ht
 exact hne ht
end
def Rd (w:World) (M:Nat→Prop) (A:Option Addr) (xs:List Value):Prop :=
 xs=[]∨∃ b o,A=some ⟨b,o,none⟩∧¬ M b∧b < w.heap.size∧∀ j,j < xs.length→w.cell? ⟨b,o + j,none⟩=xs[j]?
section
variable {w w':World} {M S:Nat→Prop} {A:Option Addr} {xs:List Value}
theorem Rd.only (h:Rd w M A xs) (k:Only S w w') (hs:∀ b,S b→M b):Rd w' M A xs:=by
 rcases h with h | ⟨b,o,hA,hm,hb,hc⟩
 ·exact Or.inl h
 ·exact Or.inr ⟨b,o,hA,hm,Nat.lt_of_lt_of_le hb k.size,fun j hj=>(k.cell (p:=⟨b,o + j,none⟩) hb (fun hx=>hm (hs b hx))).trans (hc j hj)⟩
theorem Rd.below (h:Rd w M A xs) (k:Below w.heap.size w w'):Rd w' M A xs:=h.only (Only.of_below k aA) (fun _ h=>h.elim)
theorem Rd.mono {M':Nat→Prop} (h:Rd w M A xs) (hm:∀ b,M' b→M b):Rd w M' A xs:=by
 rcases h with h | ⟨b,o,hA,hn,hb,hc⟩
 ·exact Or.inl h
 ·exact Or.inr ⟨b,o,hA,fun h=>hn (hm _ h),hb,hc⟩
theorem Rd.at_ (h:Rd w M A xs) {j:Nat} (hj:j < xs.length):∃ b o,A=some ⟨b,o,none⟩∧¬ M b∧b < w.heap.size∧∀ j,j < xs.length→w.cell? ⟨b,o + j,none⟩=xs[j]?:=by
 rcases h with h | h
 ·subst h;simp at hj
 ·exact h
theorem Rd.of_own {base size n c:Nat} {e:TypeId} (h:w.ownsRow base e size (.slice A n c) n xs) (hM:∀ k,M k→k < base):Rd w M A xs:=by
 obtain ⟨hl,h2⟩:=h
 rcases h2 with ⟨hv,hn⟩ | ⟨g,cap,cur,hv,hb,hh,hnc,hcm,hsz,htk⟩
 ·subst hn
  exact Or.inl (List.eq_nil_of_length_eq_zero (by simpa using hl))
 ·refine Or.inr ⟨g,0,by injection hv,fun hm=>by have:=hM g hm;omega,?_,fun j hj=>?_⟩
  ·exact Blk.lt (t:=e) (cs:=cur) hh
  ·have:=Blk.cell (t:=e) (cs:=cur) hh (0 + j)
   rw [this,← htk,List.getElem?_take]
   rw [hl] at hj
   rw [if_pos hj]
   simp
end
theorem own_form {w:World} {base size n:Nat} {e:TypeId} {v:Value} {xs:List Value} (h:w.ownsRow base e size v n xs):∃ A c,v=.slice A n c:=by
 rcases h.2 with ⟨hv,hn⟩ | ⟨g,cap,cur,hv,_⟩
 ·exact ⟨none,0,by rw [hv,hn]⟩
 ·exact ⟨_,cap,hv⟩
theorem aU {w:World} {base size n:Nat} {e:TypeId} {v:Value} {xs:List Value} (h:w.ownsRow base e size v n xs):∀ k,v.ownBlock=some k→base≤k:=by
 intro k hk
 rcases h.2 with ⟨hv,hn⟩ | ⟨g,cap,cur,hv,hb,_⟩
 ·subst hv;simp [Value.ownBlock] at hk
 ·subst hv;simp [Value.ownBlock] at hk;omega
theorem wI {W w1:World} {p:Addr} {v:Value} (hb:Below W.heap.size W w1) (h:W.cell? p=some v):w1.cell? p=some v :=
 (hb.cell (World.block_lt_of_cell? W p h)).trans h
theorem cM {W w1:World} {p:Addr} {v:Value} {S:Nat→Prop} (hb:Only S W w1) (hp:¬ S p.block) (h:W.cell? p=some v):w1.cell? p=some v :=
 (hb.cell (World.block_lt_of_cell? W p h) hp).trans h
theorem Blk.below {w w':World} {g:Nat} {t:TypeId} {cs:Array Value} (h:Blk w g t cs) (hb:Below w.heap.size w w'):Blk w' g t cs:=(hb.block g h.lt).trans h
theorem Blk.three {w:World} {g:Nat} {t:TypeId} {a b c:Value} (h:Blk w g t #[a,b,c]) :
 (w.cell? ⟨g,0,none⟩=some a∧w.cell? ⟨g,1,none⟩=some b∧w.cell? ⟨g,2,none⟩=some c)∧w.frozen? ⟨g,0,none⟩=false∧w.frozen? ⟨g,1,none⟩=false∧w.frozen? ⟨g,2,none⟩=false :=
 ⟨⟨by rw [h.cell];rfl,by rw [h.cell];rfl,by rw [h.cell];rfl⟩,h.frozen 0,h.frozen 1,h.frozen 2⟩
theorem Rd.drewN {w:World} {M:Nat→Prop} {A:Option Addr} {xs:List Value} (h:Rd w M A xs) (n:Nat):Rd (w.drewN n) M A xs:=h
def nth (l:List Int) (i:Nat):Int:=l.getD i 0
theorem mZ {k:IntKind} {a b:Int} (h:a=b):Ending.returned (.int k a)=.returned (.int k b):=by rw [h]
end Go.Proofs.YtaioaojfdngfdaaGreatDoor
