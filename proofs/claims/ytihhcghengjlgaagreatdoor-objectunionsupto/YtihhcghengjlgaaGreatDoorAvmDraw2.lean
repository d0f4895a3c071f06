/- What an operation looks at, and what it does to the heap. -/
import Derived.Test.YtihhcghengjlgaaGreatDoorAvmDraw1
set_option linter.all false
set_option linter.all false
set_option linter.all false
namespace Go.Avm
open Go.RowKit

def O.slots : O → List Nat
  | .t n => [n]
  | .k _ => []
def oSlots : Option O → List Nat
  | some x => x.slots
  | none => []
/-- The operands of an operation. -/
def I.opds : I → List O
  | .mv x | .box _ x | .ld _ _ x | .nilc x | .un _ x | .conv _ x | .fadr _ x | .fld _ _ _ x | .tupx x _ | .rng x | .nxt x | .len _ x => [x]
  | .own0 _ => []
  | .pick c a b => [c, a, b]
  | .build _ ps => ps.map fun p => p.2.2
  | .bsl _ _ _ ps => ps.map fun p => p.2
  | .st _ x v => [x, v]
  | .bin _ x y | .eqk _ _ x y | .idxa _ x y | .idx x y | .idxp _ _ x y | .idxv _ _ _ x y | .app _ _ _ x y | .mnx _ x y | .mks _ _ _ x y => [x, y]
  | .mkfn _ _ l => l
  | .slc _ x lo hi mx => [x] ++ lo.toList ++ hi.toList ++ mx.toList
  | .call _ l => l
  | .callv _ f l => f :: l
def I.slots (i : I) : List Nat := i.opds.flatMap O.slots

section
variable {e e' : Env} {call : CallF} {fpol : FuncId → Option Pol} {base ws : Nat} {h h' : H} {u : AV}

theorem val_same {x : O} (hs : ∀ n ∈ x.slots, e.get n = e'.get n) : x.val e = x.val e' := by
  cases x with
  | t n => exact hs n (by simp [O.slots])
  | k v => rfl
theorem valL_same : ∀ {l : List O}, (∀ x ∈ l, x.val e = x.val e') → valL e l = valL e' l
  | [], _ => rfl
  | x :: l, hs => by
    simp only [Avm.valL, hs x (by simp), valL_same (l := l) fun y hy => hs y (by simp [hy])]
theorem partsOf_same : ∀ {l : List (Nat × Nat × O)}, (∀ p ∈ l, p.2.2.val e = p.2.2.val e') → partsOf e l = partsOf e' l
  | [], _ => rfl
  | (i, j, x) :: l, hs => by
    have h1 : x.val e = x.val e' := hs (i, j, x) (by simp)
    simp only [Avm.partsOf, h1, partsOf_same (l := l) fun y hy => hs y (by simp [hy])]
theorem bslP_same {sz : Nat} : ∀ {l : List (Nat × O)} {els : List AV} {hh : H}, (∀ p ∈ l, p.2.val e = p.2.val e') → bslP base e sz l els hh = bslP base e' sz l els hh
  | [], _, _, _ => rfl
  | (i, x) :: l, els, hh, hs => by
    have h1 : x.val e = x.val e' := hs (i, x) (by simp)
    simp only [Avm.bslP, h1]
    cases x.val e' with
    | none => rfl
    | some v =>
      dsimp only
      cases frz base deep v hh with
      | none => rfl
      | some p =>
        dsimp only
        split
        · exact bslP_same fun y hy => hs y (by simp [hy])
        · rfl
theorem optVal_same {x : Option O} (hs : ∀ y, x = some y → y.val e = y.val e') : optVal e x = optVal e' x := by
  cases x with
  | none => rfl
  | some y => simp only [Avm.optVal, hs y rfl]
theorem opds_same {i : I} (hs : ∀ n ∈ i.slots, e.get n = e'.get n) : ∀ x ∈ i.opds, x.val e = x.val e' := fun x hx => val_same fun n hn => hs n (List.mem_flatMap.2 ⟨x, hx, hn⟩)
theorem evI_same_env {i : I} (hs : ∀ x ∈ i.opds, x.val e = x.val e') (hh : H) : evI base ws e hh i = evI base ws e' hh i := by
  cases i with
  | build zero ps => simp only [evI, partsOf_same (e := e) (e' := e') (l := ps) fun p hp => hs _ (List.mem_map.2 ⟨p, hp, rfl⟩)]
  | bsl sz n zero ps => simp only [evI, bslP_same (e := e) (e' := e') (l := ps) fun p hp => hs _ (List.mem_map.2 ⟨p, hp, rfl⟩)]
  | mkfn f k l => simp only [evI, valL_same (e := e) (e' := e') (l := l) hs]
  | slc k x lo hi mx =>
    simp only [evI, hs x (by simp [I.opds]), optVal_same (e := e) (e' := e') (x := lo) fun y hy => hs y (by simp [I.opds, hy]), optVal_same (e := e) (e' := e') (x := hi) fun y hy => hs y (by simp [I.opds, hy]),
      optVal_same (e := e) (e' := e') (x := mx) fun y hy => hs y (by simp [I.opds, hy])]
  | call f l => rfl
  | callv pu f l => rfl
  | own0 sz => rfl
  | pick c a b =>
    simp only [evI, hs c (by simp [I.opds])]
    split
    · rename_i t _
      cases t
      · simp only [Bool.false_eq_true, if_false, hs b (by simp [I.opds])]
      · simp only [if_true, hs a (by simp [I.opds])]
    · rfl
  | mv x => simp only [evI, hs x (by simp [I.opds])]
  | box _ x => simp only [evI, hs x (by simp [I.opds])]
  | ld _ _ x => simp only [evI, hs x (by simp [I.opds])]
  | nilc x => simp only [evI, hs x (by simp [I.opds])]
  | un _ x => simp only [evI, hs x (by simp [I.opds])]
  | conv _ x => simp only [evI, hs x (by simp [I.opds])]
  | fadr _ x => simp only [evI, hs x (by simp [I.opds])]
  | fld _ _ _ x => simp only [evI, hs x (by simp [I.opds])]
  | tupx x _ => simp only [evI, hs x (by simp [I.opds])]
  | rng x => simp only [evI, hs x (by simp [I.opds])]
  | nxt x => simp only [evI, hs x (by simp [I.opds])]
  | len _ x => simp only [evI, hs x (by simp [I.opds])]
  | st _ x y => simp only [evI, hs x (by simp [I.opds]), hs y (by simp [I.opds])]
  | bin _ x y => simp only [evI, hs x (by simp [I.opds]), hs y (by simp [I.opds])]
  | eqk _ _ x y => simp only [evI, hs x (by simp [I.opds]), hs y (by simp [I.opds])]
  | idxa _ x y => simp only [evI, hs x (by simp [I.opds]), hs y (by simp [I.opds])]
  | idx x y => simp only [evI, hs x (by simp [I.opds]), hs y (by simp [I.opds])]
  | idxp _ _ x y => simp only [evI, hs x (by simp [I.opds]), hs y (by simp [I.opds])]
  | idxv _ _ _ x y => simp only [evI, hs x (by simp [I.opds]), hs y (by simp [I.opds])]
  | app _ _ _ x y => simp only [evI, hs x (by simp [I.opds]), hs y (by simp [I.opds])]
  | mnx _ x y => simp only [evI, hs x (by simp [I.opds]), hs y (by simp [I.opds])]
  | mks _ _ _ x y => simp only [evI, hs x (by simp [I.opds]), hs y (by simp [I.opds])]
theorem doOp_same_env {i : I} (hs : ∀ x ∈ i.opds, x.val e = x.val e') (hh : H) : doOp call fpol base ws e hh i = doOp call fpol base ws e' hh i := by
  cases i with
  | call f l => simp only [doOp, valL_same (e := e) (e' := e') (l := l) hs]
  | callv pu f l => simp only [doOp, hs f (by simp [I.opds]), valL_same (e := e) (e' := e') (l := l) fun y hy => hs y (by simp [I.opds, hy])]
  | _ => exact evI_same_env (base := base) (ws := ws) hs hh

/-! ### Kinds -/
inductive Kd where
  | free
  | read (x : O)
  | birth
  | call
  | touch (x : Option O)
  | ecall
def O.same : O → O → Bool
  | .t n, .t m => n == m
  | _, _ => false
def isPur (dyn : List Dyn) (x : O) : Bool := match x with
  | .k v => v.pure
  | x => dyn.any fun d => match d with | .pur y => O.same x y | _ => false
/-- pf: the functions that write nothing that was there. -/
def kindOf (pf : FuncId → Bool) (dyn : List Dyn) : I → Kd
  | .mv _ | .pick .. | .build .. | .nilc _ | .bin .. | .eqk .. | .un .. | .mkfn .. | .fadr .. | .fld .. | .idxa .. | .idx .. | .idxp .. | .idxv .. | .tupx .. | .len .. | .mnx .. => .free
  | .ld _ _ x => .read x
  | .slc k x _ _ _ => (match k with | .str => .free | .sl _ => .read x)
  | .conv c x => (match c with | .intk _ | .same => .free | .b2s => .read x | .s2b => .touch none)
  | .box .. | .own0 _ => .birth
  | .bsl _ _ _ ps => if ps.all (fun p => isPur dyn p.2) = true then .birth else .touch none
  | .st _ x _ => .touch (some x)
  | .app _ _ _ x _ => .touch (some x)
  | .mks .. | .rng _ | .nxt _ => .touch none
  | .call f _ => if pf f = true then .call else .ecall
  | .callv pu _ _ => if pu = true then .call else .ecall

theorem free_any {pf : FuncId → Bool} {dyn : List Dyn} {i : I} (hk : kindOf pf dyn i = .free) (ev : evI base ws e h i = some (u, h')) : h' = h ∧ ∀ g, evI base ws e g i = some (u, g) := by
  cases i with
  | slc k x lo hi mx =>
    cases k with
    | sl sz => simp [kindOf] at hk
    | str =>
      simp only [evI] at ev ⊢
      split at ev
      · split at ev
        · simp at ev; obtain ⟨rfl, rfl⟩ := ev
          rename_i h1
          refine ⟨rfl, fun g => ?_⟩
          simp only [slcI] at h1 ⊢
          rw [h1]
        · cases ev
      · cases ev
  | conv c x =>
    cases c <;> simp [kindOf] at hk
    all_goals
      simp only [evI] at ev ⊢
      repeat' split at ev
      all_goals first
        | (cases ev; done)
        | (simp at ev; obtain ⟨rfl, rfl⟩ := ev; exact ⟨rfl, fun g => by simp_all⟩)
        | (simp_all; done)
  | mnx b x y =>
    simp only [evI] at ev ⊢
    split at ev
    · rename_i h1 h2
      simp at ev; obtain ⟨rfl, rfl⟩ := ev
      exact ⟨rfl, fun g => by simp only [h1, h2]⟩
    · cases ev
  | call f l => simp only [kindOf] at hk; split at hk <;> cases hk
  | callv pu f l => simp only [kindOf] at hk; split at hk <;> cases hk
  | bsl sz n zero ps => simp only [kindOf] at hk; split at hk <;> cases hk
  | ld _ _ _ => simp [kindOf] at hk
  | st _ _ _ => simp [kindOf] at hk
  | app _ _ _ _ _ => simp [kindOf] at hk
  | box _ _ => simp [kindOf] at hk
  | own0 _ => simp [kindOf] at hk
  | mks _ _ _ _ _ => simp [kindOf] at hk
  | rng _ => simp [kindOf] at hk
  | nxt _ => simp [kindOf] at hk
  | _ =>
    simp only [evI] at ev ⊢
    repeat' split at ev
    all_goals first
      | (cases ev; done)
      | (simp at ev; obtain ⟨rfl, rfl⟩ := ev; exact ⟨rfl, fun g => by simp_all⟩)
end
end Go.Avm
