/- errors.As at the targets of package fault, over an error in something of a name, at a place, of a number. (Turned from the kit's worked toy on errors.As.) Conditions: those of each theorem. -/
import Derived.Test.YtaioaojfdngfdaaGreatDoorPg01
import Derived.WalkKit
import Derived.LaidEql
import Derived.Stop.Asserts
import Derived.RowKitTokens
set_option linter.unusedVariables false
set_option linter.unusedSimpArgs false
set_option maxHeartbeats 8000000
namespace Go.Proofs.YtaioaojfdngfdaaGreatDoor
open Go.RowKit Go.Extern.Stop Go.Stop Go.Extern
theorem rlm (z:Sem Value) (f:TypeId→Addr→Nat→Nat→Sem Value) (v:Value) :
 ReflectliteValue.method z f #[v]=(do match ← ReflectliteValue.parts v with | none=>z | some (t,a,fl)=>f t a fl (fl % 32)):=rfl
theorem rls (v x:Value):ReflectliteValue.set #[v,x]=(do
 let (some (dst,a,fl),some (src,b,_)):=(← ReflectliteValue.parts v,← ReflectliteValue.parts x)
  | unsupported (.noEntry "extern/(internal/reflectlite.Value).Set.zeroValue")
 if fl / ReflectliteValue.flagAddr % 2 == 0 then unsupported (.noEntry "extern/(internal/reflectlite.Value).Set.unaddressable")
 let val ← loadVar src b
 if ← Rtype.directlyAssignable dst src then storeVar dst a val
 else if ← Rtype.implements dst src then
  if (← Rtype.kind src) == 20 then
   match val with
   | .nilIface=>unsupported (.noEntry "extern/reflectlite: a nil value of one interface type handed on as a value of another")
   | _=>storeVar dst a val
  else storeVar dst a (.iface src val)
 else panicString ("reflectlite.Set: value of type "++(← Rtype.spelt src) ++ " is not assignable to type "++(← Rtype.spelt dst))
 pure (.tuple #[])):=rfl
theorem Tryz.mKind (h:Value) (w:World):(Go.method 455 196 (.agg #[h]) "Kind").run Tryz.prog w=.ok (270,h) w:=by kernel_rfl
theorem Tryz.mElem (h:Value) (w:World):(Go.method 455 196 (.agg #[h]) "Elem").run Tryz.prog w=.ok (285,.agg #[h]) w:=by kernel_rfl
theorem Tryz.mImpl (h:Value) (w:World):(Go.method 455 196 (.agg #[h]) "Implements").run Tryz.prog w=.ok (286,.agg #[h]) w:=by kernel_rfl
theorem Tryz.mAssign (h:Value) (w:World):(Go.method 455 196 (.agg #[h]) "AssignableTo").run Tryz.prog w=.ok (283,.agg #[h]) w:=by kernel_rfl
theorem Tryz.mUnIn (i:Addr) (w:World):(Go.method 455 111 (.pointer (some i)) "Unwrap").run Tryz.prog w=.ok (277,.pointer (some i)) w:=by kernel_rfl
theorem Tryz.mUnAt (i:Addr) (w:World):(Go.method 455 106 (.pointer (some i)) "Unwrap").run Tryz.prog w=.ok (275,.pointer (some i)) w:=by kernel_rfl
theorem Tryz.noAsI (v:Value) (xT:TypeId) (w:World):(Instr.typeAssert (.iface 111 v) xT 201 true).run Tryz.prog w=.ok (.tuple #[.nilIface,.bool false]) w:=run_typeAssert_lacksB Tryz.underlying201 (by kernel_rfl) (by kernel_rfl) v xT w
theorem Tryz.noAsA (v:Value) (xT:TypeId) (w:World):(Instr.typeAssert (.iface 106 v) xT 201 true).run Tryz.prog w=.ok (.tuple #[.nilIface,.bool false]) w:=run_typeAssert_lacksB Tryz.underlying201 (by kernel_rfl) (by kernel_rfl) v xT w
theorem Tryz.unI (v:Value) (xT:TypeId) (w:World):(Instr.typeAssert (.iface 111 v) xT 204 true).run Tryz.prog w=.ok (.tuple #[.iface 111 v,.bool true]) w:=run_typeAssert_hasB Tryz.underlying204 (by kernel_rfl) v xT w
theorem Tryz.unA (v:Value) (xT:TypeId) (w:World):(Instr.typeAssert (.iface 106 v) xT 204 true).run Tryz.prog w=.ok (.tuple #[.iface 106 v,.bool true]) w:=run_typeAssert_hasB Tryz.underlying204 (by kernel_rfl) v xT w
theorem pR (i:Nat) (v:Value) (w:World) (h:w.cell? ⟨i,1,none⟩=some v) (h2:∃ t x,v=.iface t x):Calls Tryz.prog 277 #[.pointer (some ⟨i,0,none⟩)] w fun e w'=>e=.returned v∧w'=w:=by
 obtain ⟨t,x,rfl⟩:=h2
 go_enter Tryz.func277,Tryz.ntmps277
 go_wp2_with fail
 go_ret
 exact ⟨rfl,rfl⟩
theorem wQ (i:Nat) (v:Value) (w:World) (h:w.cell? ⟨i,2,none⟩=some v) (h2:∃ t x,v=.iface t x):Calls Tryz.prog 275 #[.pointer (some ⟨i,0,none⟩)] w fun e w'=>e=.returned v∧w'=w:=by
 obtain ⟨t,x,rfl⟩:=h2
 go_enter Tryz.func275,Tryz.ntmps275
 go_wp2_with fail
 go_ret
 exact ⟨rfl,rfl⟩
theorem Tryz.valueOfE (t:Addr) (w:World):(ReflectliteValue.unpack (.iface 115 (.pointer (some t)))).run Tryz.prog w
 = .ok (.agg #[.pointer (some ⟨9,115,none⟩),.pointer (some ⟨w.heap.size,0,none⟩),.int .u64 150]) (w.alloc (.cells #[.pointer (some t)] 115)):=by kernel_rfl
theorem Tryz.typeE (a:Addr) (w:World):(ReflectliteValue.methodAny (ReflectliteValue.valueError "reflectlite.Value.Type" 0) (fun t _ _ _=>ReflectliteType.toType t) #[.agg #[.pointer (some ⟨9,115,none⟩),.pointer (some a),.int .u64 150]]).run Tryz.prog w
 = .ok (.iface 196 (.agg #[.pointer (some ⟨9,115,none⟩)])) w:=by kernel_rfl
theorem Tryz.kindPE (w:World):((ReflectliteType.abiMethod fun t=>(fun a:Nat=>Value.int IntKind.u8 (a:Int)) <$> Rtype.kind t) #[.pointer (some ⟨9,115,none⟩)]).run Tryz.prog w=.ok (.int .u8 22) w:=by kernel_rfl
theorem Tryz.kindE (w:World):((ReflectliteType.abiMethod fun t=>(fun a:Nat=>Value.int IntKind.u8 (a:Int)) <$> Rtype.kind t) #[.pointer (some ⟨9,28,none⟩)]).run Tryz.prog w=.ok (.int .u8 2) w:=by kernel_rfl
theorem Tryz.partsPE (a:Addr) (w:World):(ReflectliteValue.parts (.agg #[.pointer (some ⟨9,115,none⟩),.pointer (some a),.int .u64 150])).run Tryz.prog w=.ok (some (115,a,150)) w:=by kernel_rfl
theorem Tryz.isNilE (a q:Addr) (W:World) (ha:W.cell? a=some (.pointer (some q))) :
 (ReflectliteValue.method (ReflectliteValue.valueError "reflectlite.Value.IsNil" 0) ReflectliteValue.isNil #[.agg #[.pointer (some ⟨9,115,none⟩),.pointer (some a),.int .u64 150]]).run Tryz.prog W=.ok (.bool false) W:=by
 rw [rlm]
 simp only [Sem.run_bind,Tryz.partsPE,Result.andThen]
 simp [ReflectliteValue.isNil,loadVar,isAgg,underlying,Tryz.underlying115,ha,Result.andThen]
theorem Tryz.elemE (w:World):(ReflectliteType.method ReflectliteType.elem #[.agg #[.pointer (some ⟨9,115,none⟩)]]).run Tryz.prog w=.ok (.iface 196 (.agg #[.pointer (some ⟨9,28,none⟩)])) w:=by kernel_rfl
theorem Tryz.implE (w:World):(ReflectliteType.relation "Implements" ReflectliteType.implements_ #[.agg #[.pointer (some ⟨9,28,none⟩)],.iface 196 (.agg #[.pointer (some ⟨9,62,none⟩)])]).run Tryz.prog w=.ok (.bool true) w:=by kernel_rfl
theorem Tryz.typeOfE (v:Value) (w:World):(ReflectliteType.typeOf #[.iface 28 v]).run Tryz.prog w=.ok (.iface 196 (.agg #[.pointer (some ⟨9,28,none⟩)])) w:=by kernel_rfl
theorem Tryz.elemOfE (w:World):(Rtype.elem? 115).run Tryz.prog w=.ok (some 28) w:=by kernel_rfl
theorem Tryz.mkE (q:Addr) (w:World):(ReflectliteValue.mk 28 q ReflectliteValue.flagAddr).run Tryz.prog w=.ok (.agg #[.pointer (some ⟨9,28,none⟩),.pointer (some q),.int .u64 386]) w:=by kernel_rfl
theorem Tryz.elemVE (a q:Addr) (W:World) (ha:W.cell? a=some (.pointer (some q))) :
 (ReflectliteValue.method (ReflectliteValue.valueError "reflectlite.Value.Elem" 0) ReflectliteValue.elem #[.agg #[.pointer (some ⟨9,115,none⟩),.pointer (some a),.int .u64 150]]).run Tryz.prog W
  = .ok (.agg #[.pointer (some ⟨9,28,none⟩),.pointer (some q),.int .u64 386]) W:=by
 rw [rlm]
 simp only [Sem.run_bind,Tryz.partsPE,Result.andThen]
 simp [ReflectliteValue.elem,loadVar,isAgg,underlying,Tryz.underlying115,ha,Result.andThen,Tryz.elemOfE,Tryz.mkE]
theorem Tryz.partsAE (a:Addr) (w:World):(ReflectliteValue.parts (.agg #[.pointer (some ⟨9,28,none⟩),.pointer (some a),.int .u64 386])).run Tryz.prog w=.ok (some (28,a,386)) w:=by kernel_rfl
theorem Tryz.partsE (a:Addr) (w:World):(ReflectliteValue.parts (.agg #[.pointer (some ⟨9,28,none⟩),.pointer (some a),.int .u64 130])).run Tryz.prog w=.ok (some (28,a,130)) w:=by kernel_rfl
theorem Tryz.directE (w:World):(Rtype.directlyAssignable 28 28).run Tryz.prog w=.ok true w:=by kernel_rfl
theorem Tryz.sizeE (w:World):(sizeOf 28).run Tryz.prog w=.ok 1 w:=by kernel_rfl
theorem Tryz.valueXE (c:Int) (w:World):(ReflectliteValue.unpack (.iface 28 (.int .i64 c))).run Tryz.prog w
 = .ok (.agg #[.pointer (some ⟨9,28,none⟩),.pointer (some ⟨w.heap.size,0,none⟩),.int .u64 130]) (w.alloc (.cells #[.int .i64 c] 28)):=by kernel_rfl
theorem Tryz.setE (ta b:Addr) (c:Int) (old:Value) (W:World) (hb:W.cell? b=some (.int .i64 c)) (ht:W.cell? ta=some old) (hf:W.frozen? ta=false) :
 (ReflectliteValue.set #[.agg #[.pointer (some ⟨9,28,none⟩),.pointer (some ta),.int .u64 386],.agg #[.pointer (some ⟨9,28,none⟩),.pointer (some b),.int .u64 130]]).run Tryz.prog W
  = .ok (.tuple #[]) (W.setCell ta (.int .i64 c)):=by
 rw [rls]
 simp only [Sem.run_bind,Tryz.partsAE,Tryz.partsE,Result.andThen]
 simp [ReflectliteValue.flagAddr,loadVar,isAgg,underlying,Tryz.underlying28,hb,Result.andThen,Tryz.directE,storeVar,Value.cells,storeCells,Addr.add]
 rw [run_store Tryz.prog W ta _ _ (by rfl)]
 simp [ht,hf]
theorem Tryz.valueOfA (t:Addr) (w:World):(ReflectliteValue.unpack (.iface 108 (.pointer (some t)))).run Tryz.prog w
 = .ok (.agg #[.pointer (some ⟨9,108,none⟩),.pointer (some ⟨w.heap.size,0,none⟩),.int .u64 150]) (w.alloc (.cells #[.pointer (some t)] 108)):=by kernel_rfl
theorem Tryz.typeA (a:Addr) (w:World):(ReflectliteValue.methodAny (ReflectliteValue.valueError "reflectlite.Value.Type" 0) (fun t _ _ _=>ReflectliteType.toType t) #[.agg #[.pointer (some ⟨9,108,none⟩),.pointer (some a),.int .u64 150]]).run Tryz.prog w
 = .ok (.iface 196 (.agg #[.pointer (some ⟨9,108,none⟩)])) w:=by kernel_rfl
theorem Tryz.kindPA (w:World):((ReflectliteType.abiMethod fun t=>(fun a:Nat=>Value.int IntKind.u8 (a:Int)) <$> Rtype.kind t) #[.pointer (some ⟨9,108,none⟩)]).run Tryz.prog w=.ok (.int .u8 22) w:=by kernel_rfl
theorem Tryz.kindA (w:World):((ReflectliteType.abiMethod fun t=>(fun a:Nat=>Value.int IntKind.u8 (a:Int)) <$> Rtype.kind t) #[.pointer (some ⟨9,106,none⟩)]).run Tryz.prog w=.ok (.int .u8 22) w:=by kernel_rfl
theorem Tryz.partsPA (a:Addr) (w:World):(ReflectliteValue.parts (.agg #[.pointer (some ⟨9,108,none⟩),.pointer (some a),.int .u64 150])).run Tryz.prog w=.ok (some (108,a,150)) w:=by kernel_rfl
theorem Tryz.isNilA (a q:Addr) (W:World) (ha:W.cell? a=some (.pointer (some q))) :
 (ReflectliteValue.method (ReflectliteValue.valueError "reflectlite.Value.IsNil" 0) ReflectliteValue.isNil #[.agg #[.pointer (some ⟨9,108,none⟩),.pointer (some a),.int .u64 150]]).run Tryz.prog W=.ok (.bool false) W:=by
 rw [rlm]
 simp only [Sem.run_bind,Tryz.partsPA,Result.andThen]
 simp [ReflectliteValue.isNil,loadVar,isAgg,underlying,Tryz.underlying108,ha,Result.andThen]
theorem Tryz.elemA (w:World):(ReflectliteType.method ReflectliteType.elem #[.agg #[.pointer (some ⟨9,108,none⟩)]]).run Tryz.prog w=.ok (.iface 196 (.agg #[.pointer (some ⟨9,106,none⟩)])) w:=by kernel_rfl
theorem Tryz.implA (w:World):(ReflectliteType.relation "Implements" ReflectliteType.implements_ #[.agg #[.pointer (some ⟨9,106,none⟩)],.iface 196 (.agg #[.pointer (some ⟨9,62,none⟩)])]).run Tryz.prog w=.ok (.bool true) w:=by kernel_rfl
theorem Tryz.typeOfA (v:Value) (w:World):(ReflectliteType.typeOf #[.iface 106 v]).run Tryz.prog w=.ok (.iface 196 (.agg #[.pointer (some ⟨9,106,none⟩)])) w:=by kernel_rfl
theorem Tryz.elemOfA (w:World):(Rtype.elem? 108).run Tryz.prog w=.ok (some 106) w:=by kernel_rfl
theorem Tryz.mkA (q:Addr) (w:World):(ReflectliteValue.mk 106 q ReflectliteValue.flagAddr).run Tryz.prog w=.ok (.agg #[.pointer (some ⟨9,106,none⟩),.pointer (some q),.int .u64 406]) w:=by kernel_rfl
theorem Tryz.elemVA (a q:Addr) (W:World) (ha:W.cell? a=some (.pointer (some q))) :
 (ReflectliteValue.method (ReflectliteValue.valueError "reflectlite.Value.Elem" 0) ReflectliteValue.elem #[.agg #[.pointer (some ⟨9,108,none⟩),.pointer (some a),.int .u64 150]]).run Tryz.prog W
  = .ok (.agg #[.pointer (some ⟨9,106,none⟩),.pointer (some q),.int .u64 406]) W:=by
 rw [rlm]
 simp only [Sem.run_bind,Tryz.partsPA,Result.andThen]
 simp [ReflectliteValue.elem,loadVar,isAgg,underlying,Tryz.underlying108,ha,Result.andThen,Tryz.elemOfA,Tryz.mkA]
theorem Tryz.partsAA (a:Addr) (w:World):(ReflectliteValue.parts (.agg #[.pointer (some ⟨9,106,none⟩),.pointer (some a),.int .u64 406])).run Tryz.prog w=.ok (some (106,a,406)) w:=by kernel_rfl
theorem Tryz.partsA (a:Addr) (w:World):(ReflectliteValue.parts (.agg #[.pointer (some ⟨9,106,none⟩),.pointer (some a),.int .u64 150])).run Tryz.prog w=.ok (some (106,a,150)) w:=by kernel_rfl
theorem Tryz.directA (w:World):(Rtype.directlyAssignable 106 106).run Tryz.prog w=.ok true w:=by kernel_rfl
theorem Tryz.sizeA (w:World):(sizeOf 106).run Tryz.prog w=.ok 1 w:=by kernel_rfl
theorem Tryz.valueXA (c:Addr) (w:World):(ReflectliteValue.unpack (.iface 106 (.pointer (some c)))).run Tryz.prog w
 = .ok (.agg #[.pointer (some ⟨9,106,none⟩),.pointer (some ⟨w.heap.size,0,none⟩),.int .u64 150]) (w.alloc (.cells #[.pointer (some c)] 106)):=by kernel_rfl
theorem Tryz.setA (ta b:Addr) (c:Addr) (old:Value) (W:World) (hb:W.cell? b=some (.pointer (some c))) (ht:W.cell? ta=some old) (hf:W.frozen? ta=false) :
 (ReflectliteValue.set #[.agg #[.pointer (some ⟨9,106,none⟩),.pointer (some ta),.int .u64 406],.agg #[.pointer (some ⟨9,106,none⟩),.pointer (some b),.int .u64 150]]).run Tryz.prog W
  = .ok (.tuple #[]) (W.setCell ta (.pointer (some c))):=by
 rw [rls]
 simp only [Sem.run_bind,Tryz.partsAA,Tryz.partsA,Result.andThen]
 simp [ReflectliteValue.flagAddr,loadVar,isAgg,underlying,Tryz.underlying106,hb,Result.andThen,Tryz.directA,storeVar,Value.cells,storeCells,Addr.add]
 rw [run_store Tryz.prog W ta _ _ (by rfl)]
 simp [ht,hf]
theorem Tryz.valueOfI (t:Addr) (w:World):(ReflectliteValue.unpack (.iface 112 (.pointer (some t)))).run Tryz.prog w
 = .ok (.agg #[.pointer (some ⟨9,112,none⟩),.pointer (some ⟨w.heap.size,0,none⟩),.int .u64 150]) (w.alloc (.cells #[.pointer (some t)] 112)):=by kernel_rfl
theorem Tryz.typeI (a:Addr) (w:World):(ReflectliteValue.methodAny (ReflectliteValue.valueError "reflectlite.Value.Type" 0) (fun t _ _ _=>ReflectliteType.toType t) #[.agg #[.pointer (some ⟨9,112,none⟩),.pointer (some a),.int .u64 150]]).run Tryz.prog w
 = .ok (.iface 196 (.agg #[.pointer (some ⟨9,112,none⟩)])) w:=by kernel_rfl
theorem Tryz.kindPI (w:World):((ReflectliteType.abiMethod fun t=>(fun a:Nat=>Value.int IntKind.u8 (a:Int)) <$> Rtype.kind t) #[.pointer (some ⟨9,112,none⟩)]).run Tryz.prog w=.ok (.int .u8 22) w:=by kernel_rfl
theorem Tryz.kindI (w:World):((ReflectliteType.abiMethod fun t=>(fun a:Nat=>Value.int IntKind.u8 (a:Int)) <$> Rtype.kind t) #[.pointer (some ⟨9,111,none⟩)]).run Tryz.prog w=.ok (.int .u8 22) w:=by kernel_rfl
theorem Tryz.partsPI (a:Addr) (w:World):(ReflectliteValue.parts (.agg #[.pointer (some ⟨9,112,none⟩),.pointer (some a),.int .u64 150])).run Tryz.prog w=.ok (some (112,a,150)) w:=by kernel_rfl
theorem Tryz.isNilI (a q:Addr) (W:World) (ha:W.cell? a=some (.pointer (some q))) :
 (ReflectliteValue.method (ReflectliteValue.valueError "reflectlite.Value.IsNil" 0) ReflectliteValue.isNil #[.agg #[.pointer (some ⟨9,112,none⟩),.pointer (some a),.int .u64 150]]).run Tryz.prog W=.ok (.bool false) W:=by
 rw [rlm]
 simp only [Sem.run_bind,Tryz.partsPI,Result.andThen]
 simp [ReflectliteValue.isNil,loadVar,isAgg,underlying,Tryz.underlying112,ha,Result.andThen]
theorem Tryz.elemI (w:World):(ReflectliteType.method ReflectliteType.elem #[.agg #[.pointer (some ⟨9,112,none⟩)]]).run Tryz.prog w=.ok (.iface 196 (.agg #[.pointer (some ⟨9,111,none⟩)])) w:=by kernel_rfl
theorem Tryz.implI (w:World):(ReflectliteType.relation "Implements" ReflectliteType.implements_ #[.agg #[.pointer (some ⟨9,111,none⟩)],.iface 196 (.agg #[.pointer (some ⟨9,62,none⟩)])]).run Tryz.prog w=.ok (.bool true) w:=by kernel_rfl
theorem Tryz.typeOfI (v:Value) (w:World):(ReflectliteType.typeOf #[.iface 111 v]).run Tryz.prog w=.ok (.iface 196 (.agg #[.pointer (some ⟨9,111,none⟩)])) w:=by kernel_rfl
theorem Tryz.elemOfI (w:World):(Rtype.elem? 112).run Tryz.prog w=.ok (some 111) w:=by kernel_rfl
theorem Tryz.mkI (q:Addr) (w:World):(ReflectliteValue.mk 111 q ReflectliteValue.flagAddr).run Tryz.prog w=.ok (.agg #[.pointer (some ⟨9,111,none⟩),.pointer (some q),.int .u64 406]) w:=by kernel_rfl
theorem Tryz.elemVI (a q:Addr) (W:World) (ha:W.cell? a=some (.pointer (some q))) :
 (ReflectliteValue.method (ReflectliteValue.valueError "reflectlite.Value.Elem" 0) ReflectliteValue.elem #[.agg #[.pointer (some ⟨9,112,none⟩),.pointer (some a),.int .u64 150]]).run Tryz.prog W
  = .ok (.agg #[.pointer (some ⟨9,111,none⟩),.pointer (some q),.int .u64 406]) W:=by
 rw [rlm]
 simp only [Sem.run_bind,Tryz.partsPI,Result.andThen]
 simp [ReflectliteValue.elem,loadVar,isAgg,underlying,Tryz.underlying112,ha,Result.andThen,Tryz.elemOfI,Tryz.mkI]
theorem Tryz.partsAI (a:Addr) (w:World):(ReflectliteValue.parts (.agg #[.pointer (some ⟨9,111,none⟩),.pointer (some a),.int .u64 406])).run Tryz.prog w=.ok (some (111,a,406)) w:=by kernel_rfl
theorem Tryz.partsI (a:Addr) (w:World):(ReflectliteValue.parts (.agg #[.pointer (some ⟨9,111,none⟩),.pointer (some a),.int .u64 150])).run Tryz.prog w=.ok (some (111,a,150)) w:=by kernel_rfl
theorem Tryz.directI (w:World):(Rtype.directlyAssignable 111 111).run Tryz.prog w=.ok true w:=by kernel_rfl
theorem Tryz.sizeI (w:World):(sizeOf 111).run Tryz.prog w=.ok 1 w:=by kernel_rfl
theorem Tryz.valueXI (c:Addr) (w:World):(ReflectliteValue.unpack (.iface 111 (.pointer (some c)))).run Tryz.prog w
 = .ok (.agg #[.pointer (some ⟨9,111,none⟩),.pointer (some ⟨w.heap.size,0,none⟩),.int .u64 150]) (w.alloc (.cells #[.pointer (some c)] 111)):=by kernel_rfl
theorem Tryz.setI (ta b:Addr) (c:Addr) (old:Value) (W:World) (hb:W.cell? b=some (.pointer (some c))) (ht:W.cell? ta=some old) (hf:W.frozen? ta=false) :
 (ReflectliteValue.set #[.agg #[.pointer (some ⟨9,111,none⟩),.pointer (some ta),.int .u64 406],.agg #[.pointer (some ⟨9,111,none⟩),.pointer (some b),.int .u64 150]]).run Tryz.prog W
  = .ok (.tuple #[]) (W.setCell ta (.pointer (some c))):=by
 rw [rls]
 simp only [Sem.run_bind,Tryz.partsAI,Tryz.partsI,Result.andThen]
 simp [ReflectliteValue.flagAddr,loadVar,isAgg,underlying,Tryz.underlying111,hb,Result.andThen,Tryz.directI,storeVar,Value.cells,storeCells,Addr.add]
 rw [run_store Tryz.prog W ta _ _ (by rfl)]
 simp [ht,hf]
theorem Tryz.asgIA (w:World):(ReflectliteType.relation "AssignableTo" ReflectliteType.assignableTo #[.agg #[.pointer (some ⟨9,111,none⟩)],.iface 196 (.agg #[.pointer (some ⟨9,106,none⟩)])]).run Tryz.prog w=.ok (.bool false) w:=by kernel_rfl
theorem Tryz.asgIE (w:World):(ReflectliteType.relation "AssignableTo" ReflectliteType.assignableTo #[.agg #[.pointer (some ⟨9,111,none⟩)],.iface 196 (.agg #[.pointer (some ⟨9,28,none⟩)])]).run Tryz.prog w=.ok (.bool false) w:=by kernel_rfl
theorem Tryz.asgAE (w:World):(ReflectliteType.relation "AssignableTo" ReflectliteType.assignableTo #[.agg #[.pointer (some ⟨9,106,none⟩)],.iface 196 (.agg #[.pointer (some ⟨9,28,none⟩)])]).run Tryz.prog w=.ok (.bool false) w:=by kernel_rfl
theorem Tryz.asgII (w:World):(ReflectliteType.relation "AssignableTo" ReflectliteType.assignableTo #[.agg #[.pointer (some ⟨9,111,none⟩)],.iface 196 (.agg #[.pointer (some ⟨9,111,none⟩)])]).run Tryz.prog w=.ok (.bool true) w:=by kernel_rfl
theorem Tryz.asgAA (w:World):(ReflectliteType.relation "AssignableTo" ReflectliteType.assignableTo #[.agg #[.pointer (some ⟨9,106,none⟩)],.iface 196 (.agg #[.pointer (some ⟨9,106,none⟩)])]).run Tryz.prog w=.ok (.bool true) w:=by kernel_rfl
theorem Tryz.asgEE (w:World):(ReflectliteType.relation "AssignableTo" ReflectliteType.assignableTo #[.agg #[.pointer (some ⟨9,28,none⟩)],.iface 196 (.agg #[.pointer (some ⟨9,28,none⟩)])]).run Tryz.prog w=.ok (.bool true) w:=by kernel_rfl
theorem asI_in (i:Nat) (c:Int) (t b:Addr) (old:Value) (w:World) (hb0:w.cell? b=some (.pointer (some t))) (ht0:w.cell? t=some old) (hf0:w.frozen? t=false) :
 Calls Tryz.prog 92 #[.iface 111 (.pointer (some ⟨i,0,none⟩)),.iface 112 (.pointer (some t)),.agg #[.pointer (some ⟨9,112,none⟩),.pointer (some b),.int .u64 150],.iface 196 (.agg #[.pointer (some ⟨9,111,none⟩)])] w fun ev w'=>ev=.returned (.bool true)∧w'=((w.alloc (.cells #[.pointer (some ⟨9,112,none⟩),.pointer (some b),.int .u64 150] 156)).alloc (.cells #[.pointer (some ⟨i,0,none⟩)] 111)).setCell t (.pointer (some ⟨i,0,none⟩)):=by
 have hVo:=@run_callFunc_extern Tryz.prog 89 _ (fun args=>ReflectliteValue.unpack (args.getD 0 (.tuple #[]))) Tryz.func89 (by kernel_rfl) (by kernel_rfl) (by kernel_rfl) (by kernel_rfl)
 have hTo:=@run_callFunc_extern Tryz.prog 129 _ ReflectliteType.typeOf Tryz.func129 (by kernel_rfl) (by kernel_rfl) (by kernel_rfl) (by kernel_rfl)
 have hAs:=@run_callFunc_extern Tryz.prog 283 _ (ReflectliteType.relation "AssignableTo" ReflectliteType.assignableTo) Tryz.func283 (by kernel_rfl) (by kernel_rfl) (by kernel_rfl) (by kernel_rfl)
 have hVe:=@run_callFunc_extern Tryz.prog 130 _ (ReflectliteValue.method (ReflectliteValue.valueError "reflectlite.Value.Elem" 0) ReflectliteValue.elem) Tryz.func130 (by kernel_rfl) (by kernel_rfl) (by kernel_rfl) (by kernel_rfl)
 have hSe:=@run_callFunc_extern Tryz.prog 131 _ ReflectliteValue.set Tryz.func131 (by kernel_rfl) (by kernel_rfl) (by kernel_rfl) (by kernel_rfl)
 have xmAssign:=Tryz.mAssign
 have xvalueXI:=Tryz.valueXI
 have xtypeOfI:=Tryz.typeOfI
 have xasgII:=Tryz.asgII
 have hlt:∀ q:Addr,∀ v,w.cell? q=some v→q.block < w.heap.size:=fun q v h=>by
  rcases Nat.lt_or_ge q.block w.heap.size with h0 | h0
  ·exact h0
  ·simp [World.cell?,Array.getElem?_eq_none h0] at h
 have up1:∀ q:Addr,∀ v,w.cell? q=some v→(w.alloc (.cells #[.pointer (some ⟨9,112,none⟩),.pointer (some b),.int .u64 150] 156)).cell? q=some v:=fun q v h=>by rw [World.cell?_alloc_lt _ _ q (hlt q v h)];exact h
 have up2:∀ q:Addr,∀ v,w.cell? q=some v→((w.alloc (.cells #[.pointer (some ⟨9,112,none⟩),.pointer (some b),.int .u64 150] 156)).alloc (.cells #[.pointer (some ⟨i,0,none⟩)] 111)).cell? q=some v:=fun q v h=>by
  have:=hlt q v h
  rw [World.cell?_alloc_lt _ _ q (by simp;omega)];exact up1 q v h
 have htl:=hlt _ _ ht0
 have el:=Tryz.elemVI b t (w.alloc (.cells #[.pointer (some ⟨9,112,none⟩),.pointer (some b),.int .u64 150] 156)) (up1 _ _ hb0)
 have st:=Tryz.setI t ⟨w.heap.size + 1,0,none⟩ ⟨i,0,none⟩ old ((w.alloc (.cells #[.pointer (some ⟨9,112,none⟩),.pointer (some b),.int .u64 150] 156)).alloc (.cells #[.pointer (some ⟨i,0,none⟩)] 111))
  (by rw [World.cell?_alloc_at _ _ _ _ (by simp)];rfl)
  (up2 _ _ ht0)
  (by rw [World.frozen?_alloc_old _ _ t (by simp;omega),World.frozen?_alloc_old _ _ t (Nat.ne_of_lt htl)];exact hf0)
 clear up1 up2 hlt
 go_enter Tryz.func92,Tryz.ntmps92
 go_wp2_with fail
 refine wp_loop_rounds 1 ?_
 rw [rounds_succ]
 go_wp2_with fail
 go_ret
 exact ⟨rfl,rfl⟩
theorem asI_c (i:Nat) (c:Int) (t:Addr) (old:Value) (w:World) (hg:w.cell? ⟨0,0,none⟩=some (.iface 196 (.agg #[.pointer (some ⟨9,62,none⟩)]))) (ht0:w.cell? t=some old) (hf0:w.frozen? t=false) :
 Calls Tryz.prog 55 #[.iface 111 (.pointer (some ⟨i,0,none⟩)),.iface 112 (.pointer (some t))] w fun ev w'=>ev=.returned (.bool true)∧w'=((((w.alloc (.cells #[.pointer (some t)] 112)).alloc (.cells #[.pointer (some ⟨9,112,none⟩),.pointer (some ⟨w.heap.size,0,none⟩),.int .u64 150] 156)).alloc (.cells #[.pointer (some ⟨9,112,none⟩),.pointer (some ⟨w.heap.size,0,none⟩),.int .u64 150] 156)).alloc (.cells #[.pointer (some ⟨i,0,none⟩)] 111)).setCell t (.pointer (some ⟨i,0,none⟩)):=by
 have hVo:=@run_callFunc_extern Tryz.prog 89 _ (fun args=>ReflectliteValue.unpack (args.getD 0 (.tuple #[]))) Tryz.func89 (by kernel_rfl) (by kernel_rfl) (by kernel_rfl) (by kernel_rfl)
 have hTy:=@run_callFunc_extern Tryz.prog 90 _ (ReflectliteValue.methodAny (ReflectliteValue.valueError "reflectlite.Value.Type" 0) (fun t _ _ _=>ReflectliteType.toType t)) Tryz.func90 (by kernel_rfl) (by kernel_rfl) (by kernel_rfl) (by kernel_rfl)
 have hNi:=@run_callFunc_extern Tryz.prog 91 _ (ReflectliteValue.method (ReflectliteValue.valueError "reflectlite.Value.IsNil" 0) ReflectliteValue.isNil) Tryz.func91 (by kernel_rfl) (by kernel_rfl) (by kernel_rfl) (by kernel_rfl)
 have hKi:=@run_callFunc_extern Tryz.prog 270 _ (ReflectliteType.abiMethod fun t=>do pure (.int .u8 (← Rtype.kind t))) Tryz.func270 (by kernel_rfl) (by kernel_rfl) (by kernel_rfl) (by kernel_rfl)
 have hEl:=@run_callFunc_extern Tryz.prog 285 _ (ReflectliteType.method ReflectliteType.elem) Tryz.func285 (by kernel_rfl) (by kernel_rfl) (by kernel_rfl) (by kernel_rfl)
 have hIm:=@run_callFunc_extern Tryz.prog 286 _ (ReflectliteType.relation "Implements" ReflectliteType.implements_) Tryz.func286 (by kernel_rfl) (by kernel_rfl) (by kernel_rfl) (by kernel_rfl)
 have xmKind:=Tryz.mKind
 have xmElem:=Tryz.mElem
 have xmImpl:=Tryz.mImpl
 have xvalueOfI:=Tryz.valueOfI
 have xtypeI:=Tryz.typeI
 have xkindPI:=Tryz.kindPI
 have xkindI:=Tryz.kindI
 have xelemI:=Tryz.elemI
 have ximplI:=Tryz.implI
 have n8:=Tryz.isNilI ⟨w.heap.size,0,none⟩ t ((w.alloc (.cells #[.pointer (some t)] 112)).alloc (.cells #[.pointer (some ⟨9,112,none⟩),.pointer (some ⟨w.heap.size,0,none⟩),.int .u64 150] 156)) (by simp)
 have hlt:∀ q:Addr,∀ v,w.cell? q=some v→q.block < w.heap.size:=fun q v h=>by
  rcases Nat.lt_or_ge q.block w.heap.size with h0 | h0
  ·exact h0
  ·simp [World.cell?,Array.getElem?_eq_none h0] at h
 have up2:∀ q:Addr,∀ v,w.cell? q=some v→((w.alloc (.cells #[.pointer (some t)] 112)).alloc (.cells #[.pointer (some ⟨9,112,none⟩),.pointer (some ⟨w.heap.size,0,none⟩),.int .u64 150] 156)).cell? q=some v:=fun q v h=>by
  have:=hlt q v h
  rw [World.cell?_alloc_lt _ _ q (by simp;omega),World.cell?_alloc_lt _ _ q this];exact h
 have hg2:=up2 _ _ hg
 have htl:=hlt _ _ ht0
 have HIn:=hide (asI_in i c t ⟨w.heap.size,0,none⟩ old ((w.alloc (.cells #[.pointer (some t)] 112)).alloc (.cells #[.pointer (some ⟨9,112,none⟩),.pointer (some ⟨w.heap.size,0,none⟩),.int .u64 150] 156)) (by simp) (up2 _ _ ht0) (by rw [World.frozen?_alloc_old _ _ t (by simp;omega),World.frozen?_alloc_old _ _ t (Nat.ne_of_lt htl)];exact hf0))
 clear up2 hlt
 go_enter Tryz.func55,Tryz.ntmps55
 go_wp2_with fail
 refine HIn.out.mono ?_
 rintro ev w9 ⟨rfl,rfl⟩
 go_wp2_with fail
 go_ret
 exact ⟨rfl,rfl⟩
theorem asA_in (i a:Nat) (c:Int) (t b:Addr) (old:Value) (w:World) (hb0:w.cell? b=some (.pointer (some t))) (ht0:w.cell? t=some old) (hf0:w.frozen? t=false) (hI:w.cell? ⟨i,1,none⟩=some (.iface 106 (.pointer (some ⟨a,0,none⟩)))) :
 Calls Tryz.prog 92 #[.iface 111 (.pointer (some ⟨i,0,none⟩)),.iface 108 (.pointer (some t)),.agg #[.pointer (some ⟨9,108,none⟩),.pointer (some b),.int .u64 150],.iface 196 (.agg #[.pointer (some ⟨9,106,none⟩)])] w fun ev w'=>ev=.returned (.bool true)∧w'=((w.alloc (.cells #[.pointer (some ⟨9,108,none⟩),.pointer (some b),.int .u64 150] 156)).alloc (.cells #[.pointer (some ⟨a,0,none⟩)] 106)).setCell t (.pointer (some ⟨a,0,none⟩)):=by
 have hVo:=@run_callFunc_extern Tryz.prog 89 _ (fun args=>ReflectliteValue.unpack (args.getD 0 (.tuple #[]))) Tryz.func89 (by kernel_rfl) (by kernel_rfl) (by kernel_rfl) (by kernel_rfl)
 have hTo:=@run_callFunc_extern Tryz.prog 129 _ ReflectliteType.typeOf Tryz.func129 (by kernel_rfl) (by kernel_rfl) (by kernel_rfl) (by kernel_rfl)
 have hAs:=@run_callFunc_extern Tryz.prog 283 _ (ReflectliteType.relation "AssignableTo" ReflectliteType.assignableTo) Tryz.func283 (by kernel_rfl) (by kernel_rfl) (by kernel_rfl) (by kernel_rfl)
 have hVe:=@run_callFunc_extern Tryz.prog 130 _ (ReflectliteValue.method (ReflectliteValue.valueError "reflectlite.Value.Elem" 0) ReflectliteValue.elem) Tryz.func130 (by kernel_rfl) (by kernel_rfl) (by kernel_rfl) (by kernel_rfl)
 have hSe:=@run_callFunc_extern Tryz.prog 131 _ ReflectliteValue.set Tryz.func131 (by kernel_rfl) (by kernel_rfl) (by kernel_rfl) (by kernel_rfl)
 have xmAssign:=Tryz.mAssign
 have xvalueXA:=Tryz.valueXA
 have xmUnIn:=Tryz.mUnIn
 have xmUnAt:=Tryz.mUnAt
 have xnoAsI:=Tryz.noAsI
 have xnoAsA:=Tryz.noAsA
 have xunI:=Tryz.unI
 have xunA:=Tryz.unA
 have xtypeOfI:=Tryz.typeOfI
 have xtypeOfA:=Tryz.typeOfA
 have xasgIA:=Tryz.asgIA
 have xasgAA:=Tryz.asgAA
 have hlt:∀ q:Addr,∀ v,w.cell? q=some v→q.block < w.heap.size:=fun q v h=>by
  rcases Nat.lt_or_ge q.block w.heap.size with h0 | h0
  ·exact h0
  ·simp [World.cell?,Array.getElem?_eq_none h0] at h
 have up1:∀ q:Addr,∀ v,w.cell? q=some v→(w.alloc (.cells #[.pointer (some ⟨9,108,none⟩),.pointer (some b),.int .u64 150] 156)).cell? q=some v:=fun q v h=>by rw [World.cell?_alloc_lt _ _ q (hlt q v h)];exact h
 have up2:∀ q:Addr,∀ v,w.cell? q=some v→((w.alloc (.cells #[.pointer (some ⟨9,108,none⟩),.pointer (some b),.int .u64 150] 156)).alloc (.cells #[.pointer (some ⟨a,0,none⟩)] 106)).cell? q=some v:=fun q v h=>by
  have:=hlt q v h
  rw [World.cell?_alloc_lt _ _ q (by simp;omega)];exact up1 q v h
 have htl:=hlt _ _ ht0
 have el:=Tryz.elemVA b t (w.alloc (.cells #[.pointer (some ⟨9,108,none⟩),.pointer (some b),.int .u64 150] 156)) (up1 _ _ hb0)
 have st:=Tryz.setA t ⟨w.heap.size + 1,0,none⟩ ⟨a,0,none⟩ old ((w.alloc (.cells #[.pointer (some ⟨9,108,none⟩),.pointer (some b),.int .u64 150] 156)).alloc (.cells #[.pointer (some ⟨a,0,none⟩)] 106))
  (by rw [World.cell?_alloc_at _ _ _ _ (by simp)];rfl)
  (up2 _ _ ht0)
  (by rw [World.frozen?_alloc_old _ _ t (by simp;omega),World.frozen?_alloc_old _ _ t (Nat.ne_of_lt htl)];exact hf0)
 have HUI:=hide (pR i _ (w.alloc (.cells #[.pointer (some ⟨9,108,none⟩),.pointer (some b),.int .u64 150] 156)) (up1 _ _ hI) ⟨_,_,rfl⟩)
 clear up1 up2 hlt hI
 go_enter Tryz.func92,Tryz.ntmps92
 go_wp2_with fail
 refine wp_loop_rounds 2 ?_
 rw [rounds_succ]
 go_wp2_with fail
 refine HUI.out.mono ?_
 rintro ev w9 ⟨rfl,h9⟩
 obtain rfl:=h9.symm
 go_wp2_with fail
 rw [rounds_succ]
 go_wp2_with fail
 go_ret
 exact ⟨rfl,rfl⟩
theorem asA_c (i a:Nat) (c:Int) (t:Addr) (old:Value) (w:World) (hg:w.cell? ⟨0,0,none⟩=some (.iface 196 (.agg #[.pointer (some ⟨9,62,none⟩)]))) (ht0:w.cell? t=some old) (hf0:w.frozen? t=false) (hI:w.cell? ⟨i,1,none⟩=some (.iface 106 (.pointer (some ⟨a,0,none⟩)))) :
 Calls Tryz.prog 55 #[.iface 111 (.pointer (some ⟨i,0,none⟩)),.iface 108 (.pointer (some t))] w fun ev w'=>ev=.returned (.bool true)∧w'=((((w.alloc (.cells #[.pointer (some t)] 108)).alloc (.cells #[.pointer (some ⟨9,108,none⟩),.pointer (some ⟨w.heap.size,0,none⟩),.int .u64 150] 156)).alloc (.cells #[.pointer (some ⟨9,108,none⟩),.pointer (some ⟨w.heap.size,0,none⟩),.int .u64 150] 156)).alloc (.cells #[.pointer (some ⟨a,0,none⟩)] 106)).setCell t (.pointer (some ⟨a,0,none⟩)):=by
 have hVo:=@run_callFunc_extern Tryz.prog 89 _ (fun args=>ReflectliteValue.unpack (args.getD 0 (.tuple #[]))) Tryz.func89 (by kernel_rfl) (by kernel_rfl) (by kernel_rfl) (by kernel_rfl)
 have hTy:=@run_callFunc_extern Tryz.prog 90 _ (ReflectliteValue.methodAny (ReflectliteValue.valueError "reflectlite.Value.Type" 0) (fun t _ _ _=>ReflectliteType.toType t)) Tryz.func90 (by kernel_rfl) (by kernel_rfl) (by kernel_rfl) (by kernel_rfl)
 have hNi:=@run_callFunc_extern Tryz.prog 91 _ (ReflectliteValue.method (ReflectliteValue.valueError "reflectlite.Value.IsNil" 0) ReflectliteValue.isNil) Tryz.func91 (by kernel_rfl) (by kernel_rfl) (by kernel_rfl) (by kernel_rfl)
 have hKi:=@run_callFunc_extern Tryz.prog 270 _ (ReflectliteType.abiMethod fun t=>do pure (.int .u8 (← Rtype.kind t))) Tryz.func270 (by kernel_rfl) (by kernel_rfl) (by kernel_rfl) (by kernel_rfl)
 have hEl:=@run_callFunc_extern Tryz.prog 285 _ (ReflectliteType.method ReflectliteType.elem) Tryz.func285 (by kernel_rfl) (by kernel_rfl) (by kernel_rfl) (by kernel_rfl)
 have hIm:=@run_callFunc_extern Tryz.prog 286 _ (ReflectliteType.relation "Implements" ReflectliteType.implements_) Tryz.func286 (by kernel_rfl) (by kernel_rfl) (by kernel_rfl) (by kernel_rfl)
 have xmKind:=Tryz.mKind
 have xmElem:=Tryz.mElem
 have xmImpl:=Tryz.mImpl
 have xvalueOfA:=Tryz.valueOfA
 have xtypeA:=Tryz.typeA
 have xkindPA:=Tryz.kindPA
 have xkindA:=Tryz.kindA
 have xelemA:=Tryz.elemA
 have ximplA:=Tryz.implA
 have n8:=Tryz.isNilA ⟨w.heap.size,0,none⟩ t ((w.alloc (.cells #[.pointer (some t)] 108)).alloc (.cells #[.pointer (some ⟨9,108,none⟩),.pointer (some ⟨w.heap.size,0,none⟩),.int .u64 150] 156)) (by simp)
 have hlt:∀ q:Addr,∀ v,w.cell? q=some v→q.block < w.heap.size:=fun q v h=>by
  rcases Nat.lt_or_ge q.block w.heap.size with h0 | h0
  ·exact h0
  ·simp [World.cell?,Array.getElem?_eq_none h0] at h
 have up2:∀ q:Addr,∀ v,w.cell? q=some v→((w.alloc (.cells #[.pointer (some t)] 108)).alloc (.cells #[.pointer (some ⟨9,108,none⟩),.pointer (some ⟨w.heap.size,0,none⟩),.int .u64 150] 156)).cell? q=some v:=fun q v h=>by
  have:=hlt q v h
  rw [World.cell?_alloc_lt _ _ q (by simp;omega),World.cell?_alloc_lt _ _ q this];exact h
 have hg2:=up2 _ _ hg
 have htl:=hlt _ _ ht0
 have HIn:=hide (asA_in i a c t ⟨w.heap.size,0,none⟩ old ((w.alloc (.cells #[.pointer (some t)] 108)).alloc (.cells #[.pointer (some ⟨9,108,none⟩),.pointer (some ⟨w.heap.size,0,none⟩),.int .u64 150] 156)) (by simp) (up2 _ _ ht0) (by rw [World.frozen?_alloc_old _ _ t (by simp;omega),World.frozen?_alloc_old _ _ t (Nat.ne_of_lt htl)];exact hf0) (up2 _ _ hI))
 clear up2 hlt hI
 go_enter Tryz.func55,Tryz.ntmps55
 go_wp2_with fail
 refine HIn.out.mono ?_
 rintro ev w9 ⟨rfl,rfl⟩
 go_wp2_with fail
 go_ret
 exact ⟨rfl,rfl⟩
theorem asE_in (i a:Nat) (c:Int) (t b:Addr) (old:Value) (w:World) (hb0:w.cell? b=some (.pointer (some t))) (ht0:w.cell? t=some old) (hf0:w.frozen? t=false) (hI:w.cell? ⟨i,1,none⟩=some (.iface 106 (.pointer (some ⟨a,0,none⟩)))) (hA:w.cell? ⟨a,2,none⟩=some (.iface 28 (.int .i64 c))) :
 Calls Tryz.prog 92 #[.iface 111 (.pointer (some ⟨i,0,none⟩)),.iface 115 (.pointer (some t)),.agg #[.pointer (some ⟨9,115,none⟩),.pointer (some b),.int .u64 150],.iface 196 (.agg #[.pointer (some ⟨9,28,none⟩)])] w fun ev w'=>ev=.returned (.bool true)∧w'=((w.alloc (.cells #[.pointer (some ⟨9,115,none⟩),.pointer (some b),.int .u64 150] 156)).alloc (.cells #[.int .i64 c] 28)).setCell t (.int .i64 c):=by
 have hVo:=@run_callFunc_extern Tryz.prog 89 _ (fun args=>ReflectliteValue.unpack (args.getD 0 (.tuple #[]))) Tryz.func89 (by kernel_rfl) (by kernel_rfl) (by kernel_rfl) (by kernel_rfl)
 have hTo:=@run_callFunc_extern Tryz.prog 129 _ ReflectliteType.typeOf Tryz.func129 (by kernel_rfl) (by kernel_rfl) (by kernel_rfl) (by kernel_rfl)
 have hAs:=@run_callFunc_extern Tryz.prog 283 _ (ReflectliteType.relation "AssignableTo" ReflectliteType.assignableTo) Tryz.func283 (by kernel_rfl) (by kernel_rfl) (by kernel_rfl) (by kernel_rfl)
 have hVe:=@run_callFunc_extern Tryz.prog 130 _ (ReflectliteValue.method (ReflectliteValue.valueError "reflectlite.Value.Elem" 0) ReflectliteValue.elem) Tryz.func130 (by kernel_rfl) (by kernel_rfl) (by kernel_rfl) (by kernel_rfl)
 have hSe:=@run_callFunc_extern Tryz.prog 131 _ ReflectliteValue.set Tryz.func131 (by kernel_rfl) (by kernel_rfl) (by kernel_rfl) (by kernel_rfl)
 have xmAssign:=Tryz.mAssign
 have xvalueXE:=Tryz.valueXE
 have xmUnIn:=Tryz.mUnIn
 have xmUnAt:=Tryz.mUnAt
 have xnoAsI:=Tryz.noAsI
 have xnoAsA:=Tryz.noAsA
 have xunI:=Tryz.unI
 have xunA:=Tryz.unA
 have xtypeOfI:=Tryz.typeOfI
 have xtypeOfA:=Tryz.typeOfA
 have xtypeOfE:=Tryz.typeOfE
 have xasgIE:=Tryz.asgIE
 have xasgAE:=Tryz.asgAE
 have xasgEE:=Tryz.asgEE
 have hlt:∀ q:Addr,∀ v,w.cell? q=some v→q.block < w.heap.size:=fun q v h=>by
  rcases Nat.lt_or_ge q.block w.heap.size with h0 | h0
  ·exact h0
  ·simp [World.cell?,Array.getElem?_eq_none h0] at h
 have up1:∀ q:Addr,∀ v,w.cell? q=some v→(w.alloc (.cells #[.pointer (some ⟨9,115,none⟩),.pointer (some b),.int .u64 150] 156)).cell? q=some v:=fun q v h=>by rw [World.cell?_alloc_lt _ _ q (hlt q v h)];exact h
 have up2:∀ q:Addr,∀ v,w.cell? q=some v→((w.alloc (.cells #[.pointer (some ⟨9,115,none⟩),.pointer (some b),.int .u64 150] 156)).alloc (.cells #[.int .i64 c] 28)).cell? q=some v:=fun q v h=>by
  have:=hlt q v h
  rw [World.cell?_alloc_lt _ _ q (by simp;omega)];exact up1 q v h
 have htl:=hlt _ _ ht0
 have el:=Tryz.elemVE b t (w.alloc (.cells #[.pointer (some ⟨9,115,none⟩),.pointer (some b),.int .u64 150] 156)) (up1 _ _ hb0)
 have st:=Tryz.setE t ⟨w.heap.size + 1,0,none⟩ c old ((w.alloc (.cells #[.pointer (some ⟨9,115,none⟩),.pointer (some b),.int .u64 150] 156)).alloc (.cells #[.int .i64 c] 28))
  (by rw [World.cell?_alloc_at _ _ _ _ (by simp)];rfl)
  (up2 _ _ ht0)
  (by rw [World.frozen?_alloc_old _ _ t (by simp;omega),World.frozen?_alloc_old _ _ t (Nat.ne_of_lt htl)];exact hf0)
 have HUI:=hide (pR i _ (w.alloc (.cells #[.pointer (some ⟨9,115,none⟩),.pointer (some b),.int .u64 150] 156)) (up1 _ _ hI) ⟨_,_,rfl⟩)
 have HUA:=hide (wQ a _ (w.alloc (.cells #[.pointer (some ⟨9,115,none⟩),.pointer (some b),.int .u64 150] 156)) (up1 _ _ hA) ⟨_,_,rfl⟩)
 clear up1 up2 hlt hI hA
 go_enter Tryz.func92,Tryz.ntmps92
 go_wp2_with fail
 refine wp_loop_rounds 3 ?_
 rw [rounds_succ]
 go_wp2_with fail
 refine HUI.out.mono ?_
 rintro ev w9 ⟨rfl,h9⟩
 obtain rfl:=h9.symm
 go_wp2_with fail
 rw [rounds_succ]
 go_wp2_with fail
 refine HUA.out.mono ?_
 rintro ev w9 ⟨rfl,h9⟩
 obtain rfl:=h9.symm
 go_wp2_with fail
 rw [rounds_succ]
 go_wp2_with fail
 go_ret
 exact ⟨rfl,rfl⟩
theorem asE_c (i a:Nat) (c:Int) (t:Addr) (old:Value) (w:World) (hg:w.cell? ⟨0,0,none⟩=some (.iface 196 (.agg #[.pointer (some ⟨9,62,none⟩)]))) (ht0:w.cell? t=some old) (hf0:w.frozen? t=false) (hI:w.cell? ⟨i,1,none⟩=some (.iface 106 (.pointer (some ⟨a,0,none⟩)))) (hA:w.cell? ⟨a,2,none⟩=some (.iface 28 (.int .i64 c))) :
 Calls Tryz.prog 55 #[.iface 111 (.pointer (some ⟨i,0,none⟩)),.iface 115 (.pointer (some t))] w fun ev w'=>ev=.returned (.bool true)∧w'=((((w.alloc (.cells #[.pointer (some t)] 115)).alloc (.cells #[.pointer (some ⟨9,115,none⟩),.pointer (some ⟨w.heap.size,0,none⟩),.int .u64 150] 156)).alloc (.cells #[.pointer (some ⟨9,115,none⟩),.pointer (some ⟨w.heap.size,0,none⟩),.int .u64 150] 156)).alloc (.cells #[.int .i64 c] 28)).setCell t (.int .i64 c):=by
 have hVo:=@run_callFunc_extern Tryz.prog 89 _ (fun args=>ReflectliteValue.unpack (args.getD 0 (.tuple #[]))) Tryz.func89 (by kernel_rfl) (by kernel_rfl) (by kernel_rfl) (by kernel_rfl)
 have hTy:=@run_callFunc_extern Tryz.prog 90 _ (ReflectliteValue.methodAny (ReflectliteValue.valueError "reflectlite.Value.Type" 0) (fun t _ _ _=>ReflectliteType.toType t)) Tryz.func90 (by kernel_rfl) (by kernel_rfl) (by kernel_rfl) (by kernel_rfl)
 have hNi:=@run_callFunc_extern Tryz.prog 91 _ (ReflectliteValue.method (ReflectliteValue.valueError "reflectlite.Value.IsNil" 0) ReflectliteValue.isNil) Tryz.func91 (by kernel_rfl) (by kernel_rfl) (by kernel_rfl) (by kernel_rfl)
 have hKi:=@run_callFunc_extern Tryz.prog 270 _ (ReflectliteType.abiMethod fun t=>do pure (.int .u8 (← Rtype.kind t))) Tryz.func270 (by kernel_rfl) (by kernel_rfl) (by kernel_rfl) (by kernel_rfl)
 have hEl:=@run_callFunc_extern Tryz.prog 285 _ (ReflectliteType.method ReflectliteType.elem) Tryz.func285 (by kernel_rfl) (by kernel_rfl) (by kernel_rfl) (by kernel_rfl)
 have hIm:=@run_callFunc_extern Tryz.prog 286 _ (ReflectliteType.relation "Implements" ReflectliteType.implements_) Tryz.func286 (by kernel_rfl) (by kernel_rfl) (by kernel_rfl) (by kernel_rfl)
 have xmKind:=Tryz.mKind
 have xmElem:=Tryz.mElem
 have xmImpl:=Tryz.mImpl
 have xvalueOfE:=Tryz.valueOfE
 have xtypeE:=Tryz.typeE
 have xkindPE:=Tryz.kindPE
 have xkindE:=Tryz.kindE
 have xelemE:=Tryz.elemE
 have ximplE:=Tryz.implE
 have n8:=Tryz.isNilE ⟨w.heap.size,0,none⟩ t ((w.alloc (.cells #[.pointer (some t)] 115)).alloc (.cells #[.pointer (some ⟨9,115,none⟩),.pointer (some ⟨w.heap.size,0,none⟩),.int .u64 150] 156)) (by simp)
 have hlt:∀ q:Addr,∀ v,w.cell? q=some v→q.block < w.heap.size:=fun q v h=>by
  rcases Nat.lt_or_ge q.block w.heap.size with h0 | h0
  ·exact h0
  ·simp [World.cell?,Array.getElem?_eq_none h0] at h
 have up2:∀ q:Addr,∀ v,w.cell? q=some v→((w.alloc (.cells #[.pointer (some t)] 115)).alloc (.cells #[.pointer (some ⟨9,115,none⟩),.pointer (some ⟨w.heap.size,0,none⟩),.int .u64 150] 156)).cell? q=some v:=fun q v h=>by
  have:=hlt q v h
  rw [World.cell?_alloc_lt _ _ q (by simp;omega),World.cell?_alloc_lt _ _ q this];exact h
 have hg2:=up2 _ _ hg
 have htl:=hlt _ _ ht0
 have HIn:=hide (asE_in i a c t ⟨w.heap.size,0,none⟩ old ((w.alloc (.cells #[.pointer (some t)] 115)).alloc (.cells #[.pointer (some ⟨9,115,none⟩),.pointer (some ⟨w.heap.size,0,none⟩),.int .u64 150] 156)) (by simp) (up2 _ _ ht0) (by rw [World.frozen?_alloc_old _ _ t (by simp;omega),World.frozen?_alloc_old _ _ t (Nat.ne_of_lt htl)];exact hf0) (up2 _ _ hI) (up2 _ _ hA))
 clear up2 hlt hI hA
 go_enter Tryz.func55,Tryz.ntmps55
 go_wp2_with fail
 refine HIn.out.mono ?_
 rintro ev w9 ⟨rfl,rfl⟩
 go_wp2_with fail
 go_ret
 exact ⟨rfl,rfl⟩
end Go.Proofs.YtaioaojfdngfdaaGreatDoor
