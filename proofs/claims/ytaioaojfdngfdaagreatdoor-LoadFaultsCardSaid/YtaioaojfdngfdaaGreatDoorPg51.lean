/- What LoadFaults' row gives a walk: the library's variables stand, and the handle of the type error; a world in which they do. Conditions: those of each theorem. -/
import Derived.Test.YtaioaojfdngfdaaGreatDoorPg50
import Derived.Test.YtaioaojfdngfdaaGreatDoorPg42
import Derived.LaidLaws
import Derived.LaidHandle
import Derived.MakeChecks
import Derived.Lib.LaidTab
import Derived.Stop.Joined
import Derived.Lay
namespace Go.Proofs.YtaioaojfdngfdaaGreatDoor
open Go.RowKit Go.ChangeShapes Go.WideShapes
theorem Tryz.gPow : Tryz.prog.globalNamed "internal/strconv.uint64pow10" = some 1:=by kernel_rfl
theorem Tryz.tPow:(Tryz.prog.globals[1]?).map (·.type)=some 258:=by kernel_rfl
theorem tab_of_laid {W:World} (h:laidMetH Tryz.prog Rows.parseReadsRow.laid W):Tab W:=by
 rw [MakeChecks.laidMetH_plain _ _ _ (by kernel_rfl)] at h
 obtain ⟨ps,⟨g0,t0,cs0,f0,p0,q0,hg0,ht0,hv0,hd0,⟨g1,t1,cs1,f1,p1,q1,hg1,ht1,hv1,hd1,⟨g2,t2,cs2,f2,p2,q2,hg2,ht2,hv2,hd2,_,_⟩,_⟩,_⟩,_,_⟩:=h
 obtain rfl:=Option.some.inj (Tryz.gPow.symm.trans hg2)
 obtain rfl:=Option.some.inj (Tryz.tPow.symm.trans ht2)
 unfold Tab Lib.TabIs
 rw [hv2,← Lib.cells_of_tab (k:=.u64) (zs:=Lib.pow10Tab) Tryz.underlying258 Tryz.underlying224 (by kernel_rfl) (by kernel_rfl) hd2]
theorem wC:(Rows.loadFaultsRow.laid.filter fun x=>x.2.handleName?.isSome)=[("errors.errorType", Rows.laid_errors_errorType)]:=by kernel_rfl
theorem wE:(Rows.loadFaultsRow.laid.filter fun x=>x.2.handleName?.isNone)=Rows.parseReadsRow.laid:=by kernel_rfl
theorem faults_laid {W:World} (h:laidMetH Tryz.prog Rows.loadFaultsRow.laid W):laidMetH Tryz.prog Rows.parseReadsRow.laid W∧handlesMet Tryz.prog [("errors.errorType", Rows.laid_errors_errorType)] W:=by
 unfold laidMetH at h
 rw [wC,wE] at h
 exact ⟨by rw [MakeChecks.laidMetH_plain _ _ _ (by kernel_rfl)];exact h.1,h.2⟩
theorem Tryz.gEt : Tryz.prog.globalNamed "errors.errorType" = some 0:=by kernel_rfl
theorem Tryz.gRt:(Tryz.prog.cutTypes.find? (·.1 == "internal/reflectlite.rtype")).map (·.2)=some 196:=by kernel_rfl
theorem Tryz.oneRow:((List.range 355).filter fun t=>Tryz.prog.rowNamed t [101,114,114,111,114])=[62]:=by kernel_rfl
theorem Tryz.tSize : Tryz.prog.types.size=355:=by kernel_rfl
theorem ev_of_laid {W:World} (h:handlesMet Tryz.prog [("errors.errorType", Rows.laid_errors_errorType)] W):EV W:=by
 obtain ⟨name,u,ty,e1,e2,e3,e4,e5⟩:=h ("errors.errorType", Rows.laid_errors_errorType) (by simp)
 have en:name=[101,114,114,111,114]:=(Option.some.inj e1).symm
 subst en
 obtain rfl:=Option.some.inj (Tryz.gRt.symm.trans e2)
 have hm:ty ∈ (List.range 355).filter fun t=>Tryz.prog.rowNamed t [101,114,114,111,114]:=List.mem_filter.2 ⟨List.mem_range.2 (by rw [← Tryz.tSize];exact e3),e4⟩
 rw [Tryz.oneRow] at hm
 obtain rfl:=List.mem_singleton.1 hm
 have hh:typeHandle Tryz.prog 62 = .pointer (some ⟨9,62,none⟩):=by kernel_rfl
 rw [hh] at e5
 unfold EV
 simpa using World.var?_cell Tryz.gEt e5 0
noncomputable def handleWorld (os:Os):World :=
 let w0:=World.holding Tryz.prog os ⟨#[],#[],[]⟩
 { w0 with heap:=w0.heap.modify 0 fun
  | .cells _ t frozen=>.cells #[.iface 196 (.agg #[.pointer (some ⟨9,62,none⟩)])] t frozen
  | o=>o }
noncomputable def faultWorld (os:Os):World:=(handleWorld os).layVars Tryz.prog Rows.parseReadsRow.laid
theorem faultWorld_os (os:Os):(faultWorld os).os=os:=World.layVars_os _ _ _
theorem mL (os:Os) (args:Array Value):laidMet Tryz.prog Rows.parseReadsRow.laid ((faultWorld os).forCall (fun _ _=>0) ⟨#[],args,[]⟩).memory:=by
 have e1:(Rows.parseReadsRow.laid.filter fun x=>(Rows.parseReadsRow.laid.map (·.1)).contains x.1)=Rows.parseReadsRow.laid:=List.filter_eq_self.2 fun x hx=>List.contains_iff_mem.2 (List.mem_map.2 ⟨x,hx,rfl⟩)
 have e2:(Rows.parseReadsRow.laid.filter fun x=>!(Rows.parseReadsRow.laid.map (·.1)).contains x.1)=[]:=List.filter_eq_nil_iff.2 fun x hx=>by rw [List.contains_iff_mem.2 (List.mem_map.2 ⟨x,hx,rfl⟩)];simp
 have h:laidMet Tryz.prog Rows.parseReadsRow.laid (faultWorld os):=laidMet_layVars (w0:=handleWorld os) (Rows.parseReadsRow.laid.map (·.1)) [] (by rw [e1];rfl) (by rw [e1];kernel_rfl) (by rw [e1];kernel_rfl) (by rw [e2];exact LaidIn.none)
 exact h.of_heap (by simp [World.memory,World.forCall,Input.heap])
theorem faultWorld_met (os:Os) (args:Array Value):laidMetH Tryz.prog Rows.loadFaultsRow.laid ((faultWorld os).forCall (fun _ _=>0) ⟨#[],args,[]⟩).memory :=
 laidMetH_of_parts (by rw [wE];exact mL os args) (by rw [wC];kernel_rfl)
end Go.Proofs.YtaioaojfdngfdaaGreatDoor
