/- The machine's configuration for the functions of layer 8. -/
import Derived.Test.YtihhcghengjlgaaGreatDoorC
import Derived.Test.YtihhcghengjlgaaGreatDoorProg
import Derived.Test.YtihhcghengjlgaaGreatDoorAvmExt
import Derived.Test.YtihhcghengjlgaaGreatDoorAvmClose
import Derived.Lib.IndexMore
set_option linter.all false
set_option linter.all false
namespace Go.Proofs.YtihhcghengjlgaaGreatDoor
open Go Go.Avm Go.RowKit
def strs : List AV → Option (List ByteArray)
  | [] => some []
  | .str s :: l => match strs l with | some r => some (s :: r) | none => none
  | _ => none
def distinct : List ByteArray → Bool
  | [] => true
  | x :: l => (l.all fun y => !(x.toList == y.toList)) && distinct l
def twiceX : List AV → Avm.H → Option (AV × Avm.H)
  | [v], h => match elsOf h v with
    | some els => (match strs els with
      | some l => if l.length ≤ 1048576 then some (.bool (!distinct l), h) else none
      | none => none)
    | none => none
  | _, _ => none
def containsX : List AV → Avm.H → Option (AV × Avm.H)
  | [.str s, .str t], h => if s.size < 4294967281 then some (.bool (Lib.contains s.data.toList t.data.toList), h) else none
  | _, _ => none
def fnOf : List (Nat × F) → FuncId → Option F
  | [], _ => none
  | (k, F) :: l, f => if f = k then some F else fnOf l f
theorem fnOf_mem : ∀ {l : List (Nat × F)} {f : FuncId} {F : F}, fnOf l f = some F → (f, F) ∈ l
  | [], _, _, h => by cases h
  | (k, G) :: l, f, F, h => by
    rw [fnOf] at h
    split at h
    · rename_i e; cases h; subst e; simp
    · exact List.mem_cons_of_mem _ (fnOf_mem h)
def lim : Nat := 536870912
def extOf (f : FuncId) : Option (List AV → Avm.H → Option (AV × Avm.H)) :=
  if f = 50 then some twiceX else if f = 94 then some containsX
  else if f = 38 then some (cloneX 1 lim) else if f = 79 then some (cloneX 1 lim) else none
def cfg : Cfg := ⟨fnOf fnl, extOf⟩
def pf (f : FuncId) : Bool := match cfg.pol f with | some .snap => true | some (.pur _) => true | _ => false
set_option maxRecDepth 100000 in
theorem checked : fnl.all (fun p => fOkB Tryz.prog pf p.1 p.2) = true := by kernel_rfl
theorem follows : Tryz.prog.follows .mixedOrders = true := by kernel_rfl
set_option maxRecDepth 100000 in
theorem sane0 : callN cfg 100 0 14 [] [] = some (.bool true, []) := by kernel_rfl
end Go.Proofs.YtihhcghengjlgaaGreatDoor
