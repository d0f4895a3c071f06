/- slices.Clone of nothing. -/
import Derived.Test.YtihhcghengjlgaaGreatDoorAvmExt
import Derived.Test.YtihhcghengjlgaaGreatDoorAvmOps5
import Derived.WalkKit
set_option linter.all false
set_option linter.all false
set_option linter.all false
namespace Go.Proofs
open Go.Shelf Go.RowKit Go.Lib
variable {P : Program} {ρ : Ren}
theorem app_none {P : Program} {t : TypeId} {q r : Option Addr} {len cap c sz : Nat} {i : TypeInfo} {e : TypeId} (ht : P.underlying t = some (.slice e)) (hi : P.info? e = some i) (hsz : i.size = sz) (hc : len ≤ cap) (ty : TypeId) (w : World) :
    (Builtin.append_ #[t, t] ty #[.slice q len cap, .slice r 0 c]).run P w = .ok (.slice q len cap) w := by
  have hs : (sizeOf e).run P w = .ok sz w := by simp [sizeOf, typeInfo, hi, hsz]
  cases q <;> cases r <;> simp [Builtin.append_, run_underlying ht, hs, Builtin.lenOf, hc, Builtin.firstCells, loadCells, loadCellsFrom, storeCells]
set_option maxHeartbeats 2000000 in
set_option maxRecDepth 100000 in
theorem clone_none (L : SlLaysE0.n41 P ρ) (i0 : TypeInfo) (size : Nat) (hi : P.info? (ρ.t 23) = some i0) (hz1 : i0.size = size) (z23 : ∀ w, (Go.sizeOf (ρ.t 23)).run P w = .ok size w) (q : Addr) (c : Nat) (w : World) :
    Calls P (ρ.f 41) #[.slice (some q) 0 c] w fun e w' => ∃ v', e = .returned v' ∧ w'.ownsRow w.heap.size (ρ.t 23) size v' 0 [] ∧ Below w.heap.size w w' := by
  have mixed := L.mixed; have t4 := L.t4; have a4 := L.a4; have z4 := L.z4; have v4 := L.v4; have t22 := L.t22; have a22 := L.a22; have z22 := L.z22; have v22 := L.v22
  have q22 : ∀ (w : World) (a : Option Addr) (n c n' c' : Nat), (binOp .eql (ρ.t 22) (.slice a n c) (.slice none n' c')).run P w = .ok (.bool a.isNone) w := fun w a n c n' c' => Lib.run_eql_slice_nil w _ _ a n c n' c' L.t22
  have u22 : ∀ w, Sem.run P (underlying (ρ.t 22)) w = .ok (TypeDesc.slice (ρ.t 23)) w := run_underlying t22
  have happ := fun (g : Nat) (ty : TypeId) (w : World) => app_none (P := P) (q := some ⟨g, 0, none⟩) (r := some q) (len := 0) (cap := 0) (c := c) t22 hi hz1 (Nat.le_refl 0) ty w
  obtain ⟨_, _, FG⟩ := L.f41
  go_enter FG, SlBodyN.n41_ntmps ρ
  go_wp2
  go_ret
  refine ⟨_, rfl, ⟨by simp, .inr ⟨w.heap.size, 0, #[], rfl, Nat.le_refl _, Avm.heap_new w _, Nat.le_refl _, Nat.zero_le _, by simp, by simp⟩⟩, (Below.refl _ w).alloc (Nat.le_refl _) _⟩
/-- slices.Clone at any elements: for the machine. -/
theorem clone_ok (L : SlLaysE0.n41 P ρ) (i0 : TypeInfo) (z : Value) (size bytes lim : Nat) (hi : P.info? (ρ.t 23) = some i0) (hz0 : i0.zero = some z) (hz1 : i0.size = size) (hz2 : i0.bytes = bytes) (hzs : z.cells.size = size) (hsz : 0 < size)
    (z23 : ∀ w, (Go.sizeOf (ρ.t 23)).run P w = .ok size w) (hlim : lim * bytes ≤ 140737488355328) (hl : lim ≤ maxLen) (hen : ∀ vs w, (callFunc (ρ.f 41) vs).run P w = .ok (.enter (ρ.f 41) vs) w) (w0 : World) : Avm.ExtOk P w0 (ρ.f 41) (Avm.cloneX size lim) :=
  Avm.clone_ext hsz hlim hl (fun b off n c news w h1 h2 h3 h4 h5 => AnyE.slices_Clone L i0 z size bytes hi hz0 hz1 hz2 hzs hsz z23 b off n c news w h1 h2 h3 h4 h5)
    (fun a c w => by
      cases a with
      | none =>
        refine (AnyE.slices_Clone_nil L 0 c w).mono ?_
        rintro e w' ⟨rfl, rfl⟩
        exact ⟨_, rfl, ⟨by simp, .inl ⟨rfl, rfl⟩⟩, Below.refl _ _⟩
      | some q => exact clone_none L i0 size hi hz1 z23 q c w) hen
end Go.Proofs
