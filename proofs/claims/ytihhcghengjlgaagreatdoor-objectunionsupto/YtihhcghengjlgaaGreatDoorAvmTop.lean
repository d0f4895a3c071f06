/- Calls of calls. -/
import Derived.Test.YtihhcghengjlgaaGreatDoorAvmCallN
set_option linter.all false
set_option linter.all false
set_option linter.all false
namespace Go.Avm
open Go.RowKit

def CallPure (call : CallF) (fpol : FuncId → Option Pol) : Prop := ∀ ws f args h r h', (fpol f = some .snap ∨ ∃ b, fpol f = some (.pur b)) → call ws f args h = some (r, h') → ∃ t, h' = h ++ t
def DrawAll (P : Program) (w0 : World) (fpol : FuncId → Option Pol) (dchk : Nat → DChk) : Prop := ∀ call, CallOk P w0 call → CallKeep call → CallPure call fpol → ∀ n, DrawOk P w0 call fpol n (dchk n)

/-- A function that is not looked into: what is said of it is true. -/
def ExtOk (P : Program) (w0 : World) (f : FuncId) (x : List AV → H → Option (AV × H)) : Prop :=
  (∀ args h r h', x args h = some (r, h') → ∃ t, h' = h ++ t) ∧
  ∀ (args : List AV) (h : H) (r : AV) (h' : H) (wr : Nat) (β : Beta) (w : World) (vs : Array Value), x args h = some (r, h') → wr ≤ h.length → Sim w0 wr β h w → RelL (view wr β h w) β args vs.toList → Invokes P f vs w (Gets w0 wr β h w r h')

structure CfgOk (P : Program) (w0 : World) (dchk : Nat → DChk) (cfg : Cfg) : Prop where
  fn : ∀ f F, cfg.ext f = none → cfg.fn f = some F → FOk P dchk f F
  ext : ∀ f x, cfg.ext f = some x → ExtOk P w0 f x
  draw : DrawAll P w0 cfg.pol dchk

theorem grown {h h' : H} (hl : h.length ≤ h'.length) (hs : ∀ k, k < h.length → h'[k]? = h[k]?) : ∃ t, h' = h ++ t := by
  refine ⟨h'.drop h.length, ?_⟩
  have : h = h'.take h.length := by
    apply List.ext_getElem?
    intro k
    rw [List.getElem?_take]
    split
    · rename_i hk; exact (hs k hk).symm
    · rename_i hk; exact List.getElem?_eq_none (by omega)
  calc h' = h'.take h.length ++ h'.drop h.length := (List.take_append_drop _ _).symm
    _ = h ++ h'.drop h.length := by rw [← this]

theorem loopOk_rounds (n : Nat) : LoopOk (rounds n) := fun _ _ _ _ _ e => ⟨n, e⟩

theorem callN_ok {P : Program} {w0 : World} {dchk : Nat → DChk} {cfg : Cfg} (C : CfgOk P w0 dchk cfg) : ∀ n, CallOk P w0 (callN cfg n) ∧ CallKeep (callN cfg n) ∧ CallPure (callN cfg n) cfg.pol := by
  intro n
  induction n with
  | zero =>
    refine ⟨fun ws f args h r h' wr β w vs e => ?_, fun ws f args h r h' e => ?_, fun ws f args h r h' _ e => ?_⟩ <;> simp [callN] at e
  | succ n ih =>
    obtain ⟨h1, h2, h3⟩ := ih
    have hd := C.draw _ h1 h2 h3
    refine ⟨fun ws f args h r h' wr β w vs e hws hwl S hr => ?_, fun ws f args h r h' e => ?_, fun ws f args h r h' hp e => ?_⟩
    · unfold callN at e
      split at e
      · rename_i x hx; exact (C.ext f x hx).2 args h r h' wr β w vs e (Nat.le_trans hws hwl) S hr
      · rename_i hx
        split at e
        · rename_i F hF; exact evF_sound h1 h2 (loopOk_rounds n) hd (C.fn f F hx hF) hws hwl S hr e
        · cases e
    · unfold callN at e
      split at e
      · rename_i x hx
        obtain ⟨t, rfl⟩ := (C.ext f x hx).1 _ _ _ _ e
        exact ⟨.append t (Nat.le_refl _), fun k hk _ => List.getElem?_append_left hk⟩
      · split at e
        · exact (evF_keep h2 (loopOk_rounds n) e).1
        · cases e
    · unfold callN at e
      split at e
      · rename_i x hx; exact (C.ext f x hx).1 _ _ _ _ e
      · rename_i hx
        split at e
        · rename_i F hF
          obtain ⟨k1, k2⟩ := evF_keep h2 (loopOk_rounds n) e
          refine grown k1.1.1 (k2 ?_)
          simp only [Cfg.pol, hx, hF, Option.map_some, Option.some.injEq] at hp
          exact hp
        · cases e
end Go.Avm
