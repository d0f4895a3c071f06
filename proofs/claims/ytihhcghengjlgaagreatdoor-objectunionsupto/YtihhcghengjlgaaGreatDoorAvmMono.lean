/- What is reckoned with some number of steps is what is reckoned without. -/
import Derived.Test.YtihhcghengjlgaaGreatDoorAvmLim
set_option linter.all false
set_option linter.all false
set_option linter.all false
namespace Go.Avm

section
variable {call call' : CallF} {lp lp' : LoopF} {fpol : FuncId → Option Pol} {base ws : Nat}
def CallLe (call call' : CallF) : Prop := ∀ ws f args h r, call ws f args h = some r → call' ws f args h = some r
def FLe (f f' : Env → H → Out) : Prop := ∀ e h r, f e h = some r → f' e h = some r
def LpLe (lp lp' : LoopF) : Prop := ∀ f f' keep e h r, FLe f f' → lp f keep e h = some r → lp' f' keep e h = some r

theorem doOp_le (hc : CallLe call call') {e : Env} {h : H} {i : I} {r : AV × H} (ev : doOp call fpol base ws e h i = some r) : doOp call' fpol base ws e h i = some r := by
  by_cases h1 : ∃ f args, i = .call f args
  · obtain ⟨f, args, rfl⟩ := h1
    simp only [doOp] at ev ⊢
    split at ev
    · exact hc _ _ _ _ _ ev
    · cases ev
  · by_cases h2 : ∃ pu f args, i = .callv pu f args
    · obtain ⟨pu, f, args, rfl⟩ := h2
      simp only [doOp] at ev ⊢
      split at ev
      · split at ev
        · rename_i hp
          simp only [hp, if_true]
          split at ev
          · exact hc _ _ _ _ _ ev
          · exact hc _ _ _ _ _ ev
          · cases ev
        · rename_i hp
          simp only [hp]
          exact hc _ _ _ _ _ ev
      · cases ev
    · cases i <;> first | exact ev | exact absurd ⟨_, _, rfl⟩ h1 | exact absurd ⟨_, _, _, rfl⟩ h2

mutual
theorem evS1_le (hc : CallLe call call') : ∀ (x : S1) (e : Env) (h : H) (r : Env × H), evS1 call fpol base ws x e h = some r → evS1 call' fpol base ws x e h = some r
  | .op d i, e, h, r, ev => by
    unfold evS1 at ev ⊢
    cases hx : doOp call fpol base ws e h i with
    | none => rw [hx] at ev; simp [andV] at ev
    | some p => rw [hx] at ev; rw [doOp_le hc hx]; exact ev
  | .sc s want body d rr o, e, h, r, ev => by
    unfold evS1 at ev ⊢
    split at ev
    · rename_i b hb
      split at ev
      · rename_i hw
        rw [if_pos hw]
        cases hbody : evS call fpol base ws body e h with
        | none => rw [hbody] at ev; simp [valIn, andV] at ev
        | some p => rw [hbody] at ev; rw [evS_le hc body e h p hbody]; exact ev
      · rename_i hw
        rw [if_neg hw]; exact ev
    · cases ev
theorem evS_le (hc : CallLe call call') : ∀ (l : List S1) (e : Env) (h : H) (r : Env × H), evS call fpol base ws l e h = some r → evS call' fpol base ws l e h = some r
  | [], e, h, r, ev => by unfold evS at ev ⊢; exact ev
  | x :: l, e, h, r, ev => by
    unfold evS at ev ⊢
    cases hx : evS1 call fpol base ws x e h with
    | none => rw [hx] at ev; cases ev
    | some p =>
      rw [hx] at ev
      rw [evS1_le hc x e h p hx]
      exact evS_le hc l p.1 p.2 r ev
end

theorem evC_le (hc : CallLe call call') (hl : LpLe lp lp') : ∀ (c : C), FLe (evC call lp fpol base ws c) (evC call' lp' fpol base ws c) := by
  intro c
  induction c with
  | skip => intro e h r ev; exact ev
  | stuck => intro e h r ev; simp [evC] at ev
  | ops l =>
    intro e h r ev
    simp only [evC] at ev ⊢
    cases hs : evS call fpol base ws l e h with
    | none => rw [hs] at ev; simp [done] at ev
    | some p => rw [hs] at ev; rw [evS_le hc l e h p hs]; exact ev
  | dops ord far l =>
    intro e h r ev
    simp only [evC] at ev ⊢
    cases hs : evS call fpol base ws l e h with
    | none => rw [hs] at ev; simp [ifFar, done] at ev
    | some p => rw [hs] at ev; rw [evS_le hc l e h p hs]; exact ev
  | seq c d ihc ihd =>
    intro e h r ev
    simp only [evC] at ev ⊢
    cases h3 : evC call lp fpol base ws c e h with
    | none => rw [h3] at ev; simp [andThen] at ev
    | some p =>
      obtain ⟨y, e2, h2⟩ := p
      rw [h3] at ev
      rw [ihc e h _ h3]
      cases y with
      | normal => exact ihd e2 h2 r ev
      | exit id => exact ev
      | ret => exact ev
  | cond v c d ihc ihd =>
    intro e h r ev
    simp only [evC, ifB] at ev ⊢
    split at ev
    · rename_i t hv
      cases t with
      | true => simpa using ihc e h r (by simpa using ev)
      | false => simpa using ihd e h r (by simpa using ev)
    · cases ev
  | block id c ihc =>
    intro e h r ev
    simp only [evC] at ev ⊢
    cases h3 : evC call lp fpol base ws c e h with
    | none => rw [h3] at ev; simp [inBlock] at ev
    | some p => rw [h3] at ev; rw [ihc e h p h3]; exact ev
  | loop keep c ihc =>
    intro e h r ev
    simp only [evC] at ev ⊢
    exact hl _ _ _ _ _ _ ihc ev
  | exit id => intro e h r ev; exact ev
  | ret => intro e h r ev; exact ev
  | forget keep c ihc =>
    intro e h r ev
    simp only [evC] at ev ⊢
    cases h3 : evC call lp fpol base ws c e h with
    | none => rw [h3] at ev; simp [keeping] at ev
    | some p => rw [h3] at ev; rw [ihc e h p h3]; exact ev

theorem evF_le (hc : CallLe call call') (hl : LpLe lp lp') {f : F} {args : List AV} {h : H} {r : AV × H} (ev : evF call lp fpol ws f args h = some r) : evF call' lp' fpol ws f args h = some r := by
  unfold evF at ev ⊢
  cases hargs : enterArgs f.pol h args with
  | none => rw [hargs] at ev; cases ev
  | some as =>
    rw [hargs] at ev
    dsimp only at ev ⊢
    cases h3 : evC call lp fpol h.length (wsOf f.pol ws h.length) f.code (argEnv 0 as) h with
    | none => rw [h3] at ev; simp [finish] at ev
    | some p => rw [h3] at ev; rw [evC_le hc hl f.code _ h p h3]; exact ev
end

theorem rounds_le {f f' : Env → H → Out} (hf : FLe f f') {keep : List Nat} : ∀ {n : Nat} {e : Env} {h : H} {r : Ex × Env × H}, rounds n f keep e h = some r → rounds n f' keep e h = some r
  | 0, e, h, r, ev => by simp [rounds] at ev
  | n + 1, e, h, r, ev => by
    rw [rounds] at ev ⊢
    cases h3 : f (e.keep keep) h with
    | none => rw [h3] at ev; simp [andThen] at ev
    | some p =>
      obtain ⟨y, e2, h2⟩ := p
      rw [h3] at ev
      rw [hf _ _ _ h3]
      cases y with
      | normal => exact rounds_le hf (n := n) ev
      | exit id => exact ev
      | ret => exact ev
theorem rounds_lpLe (n : Nat) : LpLe (rounds n) roundsL := fun _ _ _ _ _ _ hf ev => roundsL_some.2 ⟨n, rounds_le hf ev⟩

/-- WHAT IS REACHED IN SO MANY STEPS: by the kernel. -/
theorem callN_L {cfg : Cfg} : ∀ (n : Nat), CallLe (callN cfg n) (callL cfg)
  | 0, ws, f, args, h, r, ev => by simp [callN] at ev
  | n + 1, ws, f, args, h, r, ev => by
    unfold callN at ev
    split at ev
    · rename_i x hx; exact callL_ext hx ev
    · rename_i hx
      split at ev
      · rename_i fn hf; exact callL_fn hx hf (evF_le (callN_L n) (rounds_lpLe n) ev)
      · cases ev
end Go.Avm
