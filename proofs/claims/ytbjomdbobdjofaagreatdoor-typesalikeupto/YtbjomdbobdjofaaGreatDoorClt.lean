/- What reads as types, as the machine's types. -/
import Derived.Test.YtbjomdbobdjofaaGreatDoorRows
import Derived.Test.YtbjomdbobdjofaaGreatDoorK2
import Derived.Test.YtbjomdbobdjofaaGreatDoorV
import Derived.WalkKit
import Derived.ProofKit
import Derived.OpenShut
import Derived.Deep.DeepHandedRow
import Derived.Lib.LaidTab
import Derived.Test.YtbjomdbobdjofaaGreatDoorT
set_option linter.all false
namespace Go.Proofs.YtbjomdbobdjofaaGreatDoor
open Go Go.Avm Go.RowKit Go.ChangeShapes Go.WideShapes Go.ChangeAt
theorem vals_of : ∀ (els : List AV), (∀ x ∈ els, ∃ v : Val, x = v.enc ∧ v.size ≤ x.bulk) → ∃ l : List Val, els = l.map Val.enc ∧ Val.sizeL l ≤ bulkL els
  | [], _ => ⟨[], rfl, by simp [Val.sizeL]⟩
  | x :: r, h => by
    obtain ⟨v, h1, h2⟩ := h x (by simp)
    obtain ⟨l, h3, h4⟩ := vals_of r fun y hy => h y (by simp [hy])
    exact ⟨v :: l, by rw [List.map_cons, ← h1, ← h3], by simp only [Val.sizeL, bulkL]; omega⟩
set_option maxRecDepth 100000 in
theorem val_of : ∀ (n f : Nat) (l : List AV), f ≤ n → hasTy Tryz.prog f 31 l → ∃ v : Val, AV.agg l = v.enc ∧ v.size ≤ (AV.agg l).bulk
  | 0, f, l, hf, h => by
    have : f = 0 := by omega
    subst this; cases h
  | n + 1, f, l, hf, h => by
    have hag : aggT Tryz.prog 31 = true := by simp [aggT, Tryz.underlying31]
    have h1 := hasTy_struct Tryz.underlying31 (by kernel_rfl) h
    obtain ⟨y1, z1, rfl, k1, y2, z2, rfl, k2, y3, z3, rfl, k3, y4, z4, rfl, k4, rfl⟩ := h1
    obtain ⟨k, rfl, _⟩ := hasTy_int Tryz.underlying3 k1
    obtain ⟨i, rfl, _⟩ := hasTy_int Tryz.underlying3 k2
    obtain ⟨b, rfl⟩ := hasTy_str Tryz.underlying9 k3
    obtain ⟨els, rfl, he⟩ := hasTy_slice Tryz.underlying29 (by decide +kernel) k4
    obtain ⟨r, rfl, hr⟩ := vals_of els fun x hx => by
      obtain ⟨l, rfl, hl⟩ := he x hx
      rw [hag]
      refine val_of n _ l ?_ hl
      have : f ≠ 0 := fun e => by subst e; cases h
      omega
    refine ⟨.mk k i b r, by simp, ?_⟩
    simp [AV.bulk, bulkL, Val.size]
    omega
theorem bulkOk (H : Type) : BulkOk (H := H) Rows.uptoBulk Rows.uptoBulkAll where
  one := fun d => by
    cases d with
    | lit l => cases l <;> simp [Rows.uptoBulk]
    | _ => simp [Rows.uptoBulk]
  str := fun l => by simp [Rows.uptoBulk]
  ptr := fun d => by simp [Rows.uptoBulk]
  slice := fun es sp => by simp only [Rows.uptoBulk]; omega
  agg := fun ps => by simp [Rows.uptoBulk]
  cons := fun d r => by simp [Rows.uptoBulkAll]
theorem own : ownKnob Tryz.prog.godebug = none := by kernel_rfl
mutual
def flatD : DataW Unit → List Value
  | .lit (.int k n) => [.int k n]
  | .agg l => flatDL l
  | _ => []
def flatDL : List (DataW Unit) → List Value
  | [] => []
  | d :: r => flatD d ++ flatDL r
end
def layAs (cs : Array Value) : Obj → Obj
  | .cells _ t frozen => .cells cs t frozen
  | o => o
/-- A world for the witness: the settled one, the tables holding what their initialisers lay. -/
noncomputable def laidWorld (os : Os) : World :=
  { World.holding Tryz.prog os ⟨#[], #[], []⟩ with heap := ((World.holding Tryz.prog os ⟨#[], #[], []⟩).heap.modify 1 (layAs (flatD Rows.laid_unicode_utf8_first).toArray)).modify 2 (layAs (flatD Rows.laid_unicode_utf8_acceptRanges).toArray) }
end Go.Proofs.YtbjomdbobdjofaaGreatDoor
namespace Go.Proofs.YtbjomdbobdjofaaGreatDoor
open Go Go.Avm Go.RowKit
theorem its_of : ∀ (els : List AV), (∀ x ∈ els, ∃ v : It, x = v.enc ∧ v.size ≤ x.bulk) → ∃ l : List It, els = l.map It.enc ∧ It.sizeL l ≤ bulkL els
  | [], _ => ⟨[], rfl, by simp [It.sizeL]⟩
  | x :: r, h => by
    obtain ⟨v, h1, h2⟩ := h x (by simp)
    obtain ⟨l, h3, h4⟩ := its_of r fun y hy => h y (by simp [hy])
    exact ⟨v :: l, by rw [List.map_cons, ← h1, ← h3], by simp only [It.sizeL, bulkL]; omega⟩
theorem tys_of : ∀ (els : List AV), (∀ x ∈ els, ∃ v : Ty, x = v.enc ∧ v.size ≤ x.bulk) → ∃ l : List Ty, els = l.map Ty.enc ∧ Ty.sizeL l ≤ bulkL els
  | [], _ => ⟨[], rfl, by simp [Ty.sizeL]⟩
  | x :: r, h => by
    obtain ⟨v, h1, h2⟩ := h x (by simp)
    obtain ⟨l, h3, h4⟩ := tys_of r fun y hy => h y (by simp [hy])
    exact ⟨v :: l, by rw [List.map_cons, ← h1, ← h3], by simp only [Ty.sizeL, bulkL]; omega⟩
theorem bulkL_app : ∀ (a b : List AV), bulkL (a ++ b) = bulkL a + bulkL b
  | [], b => by simp [bulkL]
  | x :: a, b => by simp only [List.cons_append, bulkL, bulkL_app a b]; omega
set_option maxRecDepth 100000 in
theorem ty_of : ∀ (n f : Nat) (l : List AV), f ≤ n → hasTy Tryz.prog f 28 l → ∃ t : Ty, l = t.cells ∧ t.size ≤ bulkL l + 1
  | 0, f, l, hf, h => by
    have : f = 0 := by omega
    subst this; cases h
  | n + 1, f, l, hf, h => by
    have h0 : f ≠ 0 := fun e => by subst e; cases h
    have hagT : aggT Tryz.prog 28 = true := by simp [aggT, Tryz.underlying28]
    have hagI : aggT Tryz.prog 49 = true := by simp [aggT, Tryz.underlying49]
    have hagV : aggT Tryz.prog 31 = true := by simp [aggT, Tryz.underlying31]
    have h1 := hasTy_struct Tryz.underlying28 (by kernel_rfl) h
    obtain ⟨y1, z1, rfl, k1, y2, z2, rfl, k2, y3, z3, rfl, k3, y4, z4, rfl, k4, y5, z5, rfl, k5, y6, z6, rfl, k6, y7, z7, rfl, k7, y8, z8, rfl, k8, rfl⟩ := h1
    obtain ⟨k, rfl, _⟩ := hasTy_int Tryz.underlying3 k1
    obtain ⟨nm, rfl⟩ := hasTy_str Tryz.underlying9 k2
    obtain ⟨lo, rfl, _⟩ := hasTy_int Tryz.underlying3 k3
    obtain ⟨hi, rfl, _⟩ := hasTy_int Tryz.underlying3 k4
    obtain ⟨fr, rfl⟩ := hasTy_bool Tryz.underlying4 k5
    obtain ⟨ex, rfl⟩ := hasTy_bool Tryz.underlying4 k6
    obtain ⟨e7, rfl, he7⟩ := hasTy_slice Tryz.underlying25 (by decide +kernel) k7
    obtain ⟨e8, rfl, he8⟩ := hasTy_slice Tryz.underlying26 (by decide +kernel) k8
    obtain ⟨its, rfl, hits⟩ := its_of e7 fun x hx => by
      obtain ⟨l, rfl, hl⟩ := he7 x hx
      rw [hagI]
      have g1 := hasTy_struct Tryz.underlying49 (by kernel_rfl) hl
      obtain ⟨y1, z1, rfl, k1, y2, z2, rfl, k2, y3, z3, rfl, k3, y4, z4, rfl, k4, y5, z5, rfl, k5, rfl⟩ := g1
      obtain ⟨nm, rfl⟩ := hasTy_str Tryz.underlying9 k1
      obtain ⟨of, rfl, hof⟩ := ty_of n _ _ (by omega) k2
      obtain ⟨o, rfl⟩ := hasTy_bool Tryz.underlying4 k3
      obtain ⟨x, rfl⟩ := hasTy_bool Tryz.underlying4 k4
      obtain ⟨els, rfl, he⟩ := hasTy_slice Tryz.underlying29 (by decide +kernel) k5
      obtain ⟨d, rfl, hd⟩ := vals_of els fun x hx => by
        obtain ⟨l, rfl, hl⟩ := he x hx
        rw [hagV]
        exact val_of _ _ l (Nat.le_refl _) hl
      refine ⟨.mk nm of o x d, by simp [It.enc, It.cells, ofCells], ?_⟩
      simp [AV.bulk, bulkL, bulkL_app, It.size, ofCells]
      omega
    obtain ⟨ks, rfl, hks⟩ := tys_of e8 fun x hx => by
      obtain ⟨l, rfl, hl⟩ := he8 x hx
      rw [hagT]
      obtain ⟨t, rfl, ht⟩ := ty_of n _ l (by omega) hl
      exact ⟨t, rfl, by simp [ofCells, AV.bulk]; omega⟩
    refine ⟨.mk k nm lo hi fr ex its ks, by simp [Ty.cells, It.encL_map, Ty.encL_map], ?_⟩
    simp [AV.bulk, bulkL, Ty.size]
    omega
end Go.Proofs.YtbjomdbobdjofaaGreatDoor
