/- AssocAgrees: for every two sides whose readings hold at most so many values and letters, the law answers true, and its arguments read as they read before. The condition is the bound alone. -/
import Derived.Test.YtdefghfdccmebaaRows
import Derived.Test.YtdefghfdccmebaaU
import Derived.WalkKit
import Derived.ProofKit
import Derived.OpenShut
import Derived.JoinedCond
set_option linter.all false
namespace Go.Proofs.Ytdefghfdccmebaa
open Go Go.Avm Go.RowKit Go.ChangeShapes Go.WideShapes Go.ChangeAt
theorem able_of {f : Nat} {l : List AV} (h : hasTy Try.prog f 24 l) : ∃ a : Able, AV.agg l = a.enc := by
  have h1 := hasTy_struct Try.underlying24 (by kernel_rfl) h
  obtain ⟨y1, z1, rfl, k1, y2, z2, rfl, k2, y3, z3, rfl, k3, y4, z4, rfl, k4, rfl⟩ := h1
  obtain ⟨n, rfl, _⟩ := hasTy_int Try.underlying3 k1
  obtain ⟨c, rfl⟩ := hasTy_strs Try.underlying22 Try.underlying9 (by decide +kernel) k2
  obtain ⟨e, rfl⟩ := hasTy_strs Try.underlying22 Try.underlying9 (by decide +kernel) k3
  obtain ⟨s, rfl⟩ := hasTy_str Try.underlying9 k4
  exact ⟨⟨n, c, e, s⟩, rfl⟩
theorem small_of {a : Able} (h : a.enc.bulk ≤ 1048576) : a.Small := by
  have h1 := bulkL_ge (g := AV.str) (fun s => by simp [AV.bulk]) a.ctx
  have h2 := bulkL_ge (g := AV.str) (fun s => by simp [AV.bulk]) a.els
  simp only [Able.enc, AV.bulk, bulkL] at h
  exact ⟨by omega, by omega⟩
theorem law_ev (xs : List AV) (h : argsTy Try.prog Try.f3.params.toList xs) (hn : bulkL xs ≤ 1048576) : ∃ h', callL cfg 0 3 xs [] = some (.bool true, h') := by
  have hag : aggT Try.prog 24 = true := by simp [aggT, Try.underlying24]
  rw [Try.params3] at h
  obtain ⟨f1, l1, r1, rfl, t1, f2, l2, r2, rfl, t2, rfl⟩ := h
  rw [hag] at hn ⊢
  obtain ⟨a, ha⟩ := able_of t1
  obtain ⟨b, hb⟩ := able_of t2
  have ha : ofCells true l1 = a.enc := ha
  have hb : ofCells true l2 = b.enc := hb
  rw [ha, hb] at hn ⊢
  simp only [bulkL] at hn
  exact ⟨[], law_ok a b (small_of (by omega)) (small_of (by omega))⟩
theorem bulkOk (H : Type) : BulkOk (H := H) Rows.uptoBulk Rows.uptoBulkAll where
  one := fun d => by
    cases d with
    | lit l => cases l <;> simp [Rows.uptoBulk]
    | _ => simp [Rows.uptoBulk]
  str := fun l => by simp [Rows.uptoBulk]
  ptr := fun d => by simp [Rows.uptoBulk]
  slice := fun es sp => by simp only [Rows.uptoBulk]; omega
  agg := fun ps => by simp [Rows.uptoBulk]
  cons := fun d r => by simp [Rows.uptoBulkAll]
theorem own : ownKnob Try.prog.godebug = none := by kernel_rfl
set_option maxRecDepth 100000 in
theorem contract (H : Type) (enc : TypeId × Value → H) (W : World) (base : Nat) (args : Array Value) (ds gs : List (DataW H)) (before : List MemPlace)
    (hval : ∀ (j : Nat) t v, Try.f3.params[j]? = some t → args[j]? = some v → Value.okWide Try.prog W .any base t v)
    (hW : DataW.Whole enc Try.prog Try.f3.params.toList Rows.assocAgreesSpec.vars false W args.toList ds gs before) (hk : Rows.uptoSmall H (ds ++ gs) = true) :
    Calls Try.prog 3 args W fun e W' => ∃ v, e = .returned v ∧ Rows.assocAgreesSpec.post enc Try.prog Try.f3 false true false false W args v W' := by
  have hW' := hW
  obtain ⟨p, q, hA, hV, hps, hfz, hnd⟩ := hW
  obtain ⟨rfl, rfl⟩ := trodVars_none hV
  have hds : ∃ d1 d2, ds = [d1, d2] := by
    have h := hA
    rw [Try.params3] at h
    obtain ⟨v0, vs0, d0, ds0, p0, q0, _, rfl, _, _, r0⟩ := trodAll_cons h
    obtain ⟨v1, vs1, d1, ds1, p1, q1, _, rfl, _, _, r1⟩ := trodAll_cons r0
    obtain ⟨_, rfl, _⟩ := trodAll_nil r1
    exact ⟨d0, d1, rfl⟩
  obtain ⟨d1, d2, rfl⟩ := hds
  obtain ⟨N, hN, hb⟩ : ∃ N, N = 1048576 ∧ Rows.uptoBulkAll [d1, d2] ≤ N := ⟨_, rfl, of_decide_eq_true hk⟩
  refine (law_calls cfg_ok Try.func3 (by decide +kernel) rfl (bulkOk H) (n := N) (fun xs h1 h2 => law_ev xs h1 (hN ▸ h2)) hval hA hb).mono fun e W' ⟨he, hbl⟩ => ?_
  exact ⟨_, he, law_post hW' rfl rfl rfl Try.underlying4 (by kernel_rfl) (by kernel_rfl) hbl⟩
set_option maxRecDepth 100000 in
theorem lifted (os : Os) (started : os.Started) (H : Type) (enc : TypeId × Value → H) (F : Stop.Interp) :
    ReturnsInHanded {} Try.checked os 3 .any ((Rows.OpenSpec.upto Rows.assocAgreesSpec).pre6 enc Try.prog Try.f3 Rows.assocAgreesUptoRow.domain false) (((Rows.OpenSpec.upto Rows.assocAgreesSpec).at F).post enc Try.prog Try.f3 false true false false) := by
  refine returnsInHanded_of_cond (C := Try.checked) (s := Rows.OpenSpec.upto Rows.assocAgreesSpec) (k := Rows.uptoSmall) rfl own started (by kernel_rfl) Try.func3
    (OpenSpec.witness (enc := enc) (C := Try.checked) (s := Rows.OpenSpec.upto Rows.assocAgreesSpec) (k := Rows.uptoSmall) rfl false ⟨#[], #[.agg #[.int .i64 0, .slice none 0 0, .slice none 0 0, .string ⟨#[]⟩], .agg #[.int .i64 0, .slice none 0 0, .slice none 0 0, .string ⟨#[]⟩]], []⟩ 8 (by kernel_rfl) (by kernel_rfl) (by kernel_rfl)
      (x := ([.agg [.lit (.int .i64 0), .nil, .nil, .lit (.string [])], .agg [.lit (.int .i64 0), .nil, .nil, .lit (.string [])]], [], [])) (by kernel_rfl) rfl (by kernel_rfl)) ?_
  intro W base args ds gs before hval hW _ hk _
  exact contract H enc W base args ds gs before hval hW hk
theorem over : Rows.assocAgreesUptoRow.holds Try.pinned (Rows.OpenSpec.upto Rows.assocAgreesSpec) :=
  OpenClaim.holds_of_cond 3 Try.f3 rfl rfl rfl rfl rfl rfl rfl ⟨rfl, rfl, rfl, rfl, rfl⟩ rfl rfl rfl rfl rfl (by kernel_rfl) Try.func3 (by kernel_rfl)
    (of_decide_eq_true (by kernel_rfl)) (by unfold Func.isWrapper; first | (rw [if_pos (by decide +kernel)]; kernel_rfl) | (rw [if_neg (by decide +kernel)]; exact ⟨rfl, rfl⟩))
    (fun os started H enc _ F => lifted os started H enc F)
theorem assocAgrees_holds : Rows.AssocAgreesUptoSaid := over
end Go.Proofs.Ytdefghfdccmebaa
