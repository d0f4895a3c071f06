/- What reads as sets of objects, as the machine's; a world for the witness. -/
import Derived.Test.YtihhcghengjlgaaGreatDoorRows
import Derived.Test.YtihhcghengjlgaaGreatDoorK2
import Derived.Test.YtihhcghengjlgaaGreatDoorO4
import Derived.WalkKit
import Derived.ProofKit
import Derived.OpenShut
import Derived.Deep.DeepHandedRow
import Derived.Lib.LaidTab
set_option linter.all false
set_option linter.all false
namespace Go.Proofs.YtihhcghengjlgaaGreatDoor
open Go Go.Avm Go.RowKit Go.ChangeShapes Go.WideShapes Go.ChangeAt
set_option maxRecDepth 100000 in
theorem ints_of {f : Nat} {xs : List AV} (h : hasTy Tryz.prog f 25 xs) : ∃ l : List Int, xs = [.isl (l.map I1)] := by
  obtain ⟨els, h1, h2⟩ := hasTy_slice Tryz.underlying25 (by decide +kernel) h
  obtain ⟨l, hl⟩ := list_of (p := fun x => ∃ n : Int, x = I1 n) (g := I1) (fun x hx => hx) els fun x hx => by
    obtain ⟨l, rfl, hl⟩ := h2 x hx
    obtain ⟨n, rfl, _⟩ := hasTy_int Tryz.underlying3 hl
    exact ⟨n, by simp [aggT, Tryz.underlying3, ofCells]⟩
  exact ⟨l, by rw [h1, hl]⟩
theorem bulk_ints (l : List Int) : l.length ≤ bulkL (l.map I1) := bulkL_ge (fun a => by simp [I1, AV.bulk]) l
set_option maxRecDepth 100000 in
theorem obj_of {f : Nat} {l : List AV} (h : hasTy Tryz.prog f 27 l) : ∃ o : Obj, AV.agg l = o.enc ∧ (∀ n, (AV.agg l).bulk ≤ n → o.errors.length ≤ n ∧ o.linked.length ≤ n) := by
  have h1 := hasTy_struct Tryz.underlying27 (by kernel_rfl) h
  obtain ⟨y1, z1, rfl, k1, y2, z2, rfl, k2, y3, z3, rfl, k3, y4, z4, rfl, k4, y5, z5, rfl, k5, y6, z6, rfl, k6, y7, z7, rfl, k7, rfl⟩ := h1
  obtain ⟨k, rfl, _⟩ := hasTy_int Tryz.underlying3 k1
  obtain ⟨b2, rfl⟩ := hasTy_str Tryz.underlying9 k2
  obtain ⟨b3, rfl⟩ := hasTy_str Tryz.underlying9 k3
  obtain ⟨b4, rfl⟩ := hasTy_str Tryz.underlying9 k4
  obtain ⟨e5, rfl⟩ := ints_of k5
  obtain ⟨e6, rfl⟩ := ints_of k6
  obtain ⟨c, rfl, _⟩ := hasTy_int Tryz.underlying3 k7
  refine ⟨⟨k, b2, b3, b4, e5, e6, c⟩, by simp, fun n hn => ?_⟩
  have := bulk_ints e5
  have := bulk_ints e6
  simp [AV.bulk, bulkL] at hn
  constructor <;> dsimp only <;> omega
theorem bulkL_mem : ∀ {els : List AV} {x : AV}, x ∈ els → x.bulk ≤ bulkL els
  | [], x, h => by cases h
  | y :: els, x, h => by
    simp only [bulkL]
    rcases List.mem_cons.1 h with rfl | h
    · omega
    · have := bulkL_mem h; omega
set_option maxRecDepth 100000 in
theorem set_of {f : Nat} {l : List AV} (h : hasTy Tryz.prog f 24 l) (hn : bulkL l ≤ 1048576) : ∃ s : OSet, AV.agg l = s.enc ∧ s.ok := by
  have h1 := hasTy_struct Tryz.underlying24 (by kernel_rfl) h
  obtain ⟨y1, z1, rfl, k1, y2, z2, rfl, k2, y3, z3, rfl, k3, rfl⟩ := h1
  obtain ⟨b1, rfl⟩ := hasTy_str Tryz.underlying9 k1
  obtain ⟨els, rfl, he⟩ := hasTy_slice Tryz.underlying22 (by decide +kernel) k2
  obtain ⟨x, rfl⟩ := hasTy_bool Tryz.underlying4 k3
  have hag : aggT Tryz.prog 27 = true := by simp [aggT, Tryz.underlying27]
  obtain ⟨r, hr⟩ := list_of (p := fun x => ∃ o : Obj, x = o.enc) (g := Obj.enc) (fun x hx => hx) els fun y hy => by
    obtain ⟨l, rfl, hl⟩ := he y hy
    rw [hag]
    obtain ⟨o, h1, _⟩ := obj_of hl
    exact ⟨o, by simpa [ofCells] using h1⟩
  subst hr
  have hbe : bulkL (r.map Obj.enc) ≤ 1048576 := by simp [AV.bulk, bulkL] at hn; omega
  have hlen := bulkL_ge (g := Obj.enc) (fun a => by simp [AV.bulk]) r
  refine ⟨⟨b1, r, x⟩, by simp [OSet.enc], by dsimp only; omega, fun o ho => ?_⟩
  have hb := bulkL_mem (List.mem_map_of_mem (f := Obj.enc) ho)
  have h5 := bulk_ints o.errors
  have h6 := bulk_ints o.linked
  simp [AV.bulk, bulkL] at hb
  constructor <;> omega
theorem bulkOk (H : Type) : BulkOk (H := H) Rows.uptoBulk Rows.uptoBulkAll where
  one := fun d => by
    cases d with
    | lit l => cases l <;> simp [Rows.uptoBulk]
    | _ => simp [Rows.uptoBulk]
  str := fun l => by simp [Rows.uptoBulk]
  ptr := fun d => by simp [Rows.uptoBulk]
  slice := fun es sp => by simp only [Rows.uptoBulk]; omega
  agg := fun ps => by simp [Rows.uptoBulk]
  cons := fun d r => by simp [Rows.uptoBulkAll]
theorem own : ownKnob Tryz.prog.godebug = none := by kernel_rfl
mutual
def flatD : DataW Unit → List Value
  | .lit (.int k n) => [.int k n]
  | .agg l => flatDL l
  | _ => []
def flatDL : List (DataW Unit) → List Value
  | [] => []
  | d :: r => flatD d ++ flatDL r
end
def layAs (cs : Array Value) : Go.Obj → Go.Obj
  | .cells _ t frozen => .cells cs t frozen
  | o => o
/-- A world for the witness: the settled one, the tables holding what their initialisers lay. -/
noncomputable def laidWorld (os : Os) : World :=
  { World.holding Tryz.prog os ⟨#[], #[], []⟩ with heap := ((World.holding Tryz.prog os ⟨#[], #[], []⟩).heap.modify 1 (layAs (flatD Rows.laid_unicode_utf8_first).toArray)).modify 2 (layAs (flatD Rows.laid_unicode_utf8_acceptRanges).toArray) }
end Go.Proofs.YtihhcghengjlgaaGreatDoor
