/- The check of a function, and of a program's functions. -/
import Derived.Test.YtdgdhckjfllfmaaGreatDoorM26
import Derived.KernelRfl
set_option linter.all false
namespace Go.Avm
def fOkB (P : Program) (pf : FuncId→Bool) (f : FuncId) (F : F) : Bool:=match P.funcs[f]? with
 | some fn=>(match fn.body with | some k=>chkC P fn.ntmps (drawIs P pf fn.ntmps) F.code k | none=>false) && resIs P F.res fn.results.toList && fn.name != "runtime.NumGoroutine"
 | none=>false
theorem fOk_of {P : Program} {pf : FuncId→Bool} {f : FuncId} {F : F} (h : fOkB P pf f F=true) : FOk P (drawIs P pf) f F:=by
 unfold fOkB at h
 split at h
 ·rename_i fn hf
  obtain ⟨h,h3⟩:=and2 h
  obtain ⟨h1,h2⟩:=and2 h
  split at h1
  ·rename_i k hk
   exact ⟨fn,k,hf,by simpa using h3,hk,h1,h2⟩
  ·cases h1
 ·cases h
end Go.Avm
