/- Reading elsewhere, being born elsewhere. -/
import Derived.Test.YtihhcghengjlgaaGreatDoorAvmDraw2
set_option linter.all false
set_option linter.all false
set_option linter.all false
namespace Go.Avm
open Go.RowKit
section
variable {e : Env} {base ws : Nat} {h h' : H} {u : AV} {pf : FuncId → Bool} {dyn : List Dyn}

theorem look_same {g : H} {b ver sz off len : Nat} (hs : g[b]? = h[b]?) : look g b ver sz off len = look h b ver sz off len := by unfold look; rw [hs]
theorem cellsAt_same {g : H} {v : AV} (hs : ∀ b, blockOf v = some b → g[b]? = h[b]?) : cellsAt g v = cellsAt h v := by
  cases v with
  | ptr b ver sz i o => simp only [cellsAt, hs b rfl]
  | _ => rfl
theorem elsOf_same {g : H} {v : AV} (hs : ∀ b, blockOf v = some b → g[b]? = h[b]?) : elsOf g v = elsOf h v := by
  cases v with
  | osl b ver sz off len => simp only [elsOf, look_same (hs b rfl)]
  | _ => rfl
theorem slcI_same {g : H} {k : SlK} {v : AV} {lo hi mx : Option AV} (hs : ∀ b, blockOf v = some b → g[b]? = h[b]?) : slcI g k v lo hi mx = slcI h k v lo hi mx := by
  cases k with
  | str => rfl
  | sl sz =>
    cases v with
    | osl b ver sz' off len => simp only [slcI, look_same (hs b rfl)]
    | _ => rfl

theorem read_any {i : I} {x : O} (hk : kindOf pf dyn i = .read x) (ev : evI base ws e h i = some (u, h')) :
    h' = h ∧ x ∈ i.opds ∧ ∀ g, (∀ v b, x.val e = some v → blockOf v = some b → g[b]? = h[b]?) → evI base ws e g i = some (u, g) := by
  cases i with
  | ld sz ag y =>
    simp only [kindOf, Kd.read.injEq] at hk; subst hk
    simp only [evI] at ev ⊢
    split at ev
    · rename_i v hv
      split at ev
      · rename_i l hl
        split at ev
        · rename_i r hr
          simp at ev; obtain ⟨rfl, rfl⟩ := ev
          refine ⟨rfl, by simp [I.opds], fun g hg => ?_⟩
          try simp only [hv]
          rw [cellsAt_same fun b hb => hg v b hv hb, hl]
          simp only [hr]
        · cases ev
      · cases ev
    · cases ev
  | slc k y lo hi mx =>
    cases k with
    | str => simp [kindOf] at hk
    | sl sz =>
      simp only [kindOf, Kd.read.injEq] at hk; subst hk
      simp only [evI] at ev ⊢
      split at ev
      · rename_i v l r m hv h1 h2 h3
        split at ev
        · rename_i w hw
          simp at ev; obtain ⟨rfl, rfl⟩ := ev
          refine ⟨rfl, by simp [I.opds], fun g hg => ?_⟩
          rw [slcI_same fun b hb => hg v b hv hb, hw]
        · cases ev
      · cases ev
  | conv c y =>
    cases c with
    | b2s =>
      simp only [kindOf, Kd.read.injEq] at hk; subst hk
      simp only [evI] at ev ⊢
      split at ev
      · rename_i v hv
        refine ⟨?_, by simp [I.opds], fun g hg => ?_⟩
        · repeat' split at ev
          all_goals first
            | (cases ev; done)
            | (simp at ev; exact ev.2.symm)
            | (simp_all; done)
        · have hels : elsOf g v = elsOf h v := elsOf_same fun b hb => hg v b hv hb
          try simp only [hv]
          rw [hels]
          repeat' split at ev
          all_goals first
            | (cases ev; done)
            | (simp at ev; obtain ⟨rfl, rfl⟩ := ev; simp only [*]; done)
            | (simp_all; done)
      · cases ev
    | intk k => simp [kindOf] at hk
    | same => simp [kindOf] at hk
    | s2b => simp [kindOf] at hk
  | call f l => simp only [kindOf] at hk; split at hk <;> cases hk
  | callv pu f l => simp only [kindOf] at hk; split at hk <;> cases hk
  | bsl sz n zero ps => simp only [kindOf] at hk; split at hk <;> cases hk
  | _ => simp [kindOf] at hk

theorem bslP_pure {sz : Nat} : ∀ {ps : List (Nat × O)} {els els' : List AV}, (∀ p ∈ ps, ∀ v, p.2.val e = some v → v.pure = true) → bslP base e sz ps els h = some (els', h') →
    h' = h ∧ (∀ g, bslP base e sz ps els g = some (els', g)) ∧ ∀ n, underL n els = true → underL n els' = true
  | [], els, els', _, ev => by
    simp [bslP] at ev
    obtain ⟨rfl, rfl⟩ := ev
    exact ⟨rfl, fun g => rfl, fun _ h => h⟩
  | (i, x) :: r, els, els', hp, ev => by
    unfold bslP at ev
    split at ev
    · rename_i v hv
      have hpv := hp (i, x) (by simp) v hv
      have hf : ∀ g, frz base deep v g = some (v, g) := fun g => by unfold deep frz; rw [if_pos hpv]
      rw [hf] at ev
      dsimp only at ev
      split at ev
      · rename_i hc
        obtain ⟨h1, h2, h3⟩ := bslP_pure (fun p hp' => hp p (by simp [hp'])) ev
        refine ⟨h1, fun g => ?_, fun n hn => h3 n ?_⟩
        · unfold bslP
          rw [hv]
          dsimp only
          rw [hf]
          dsimp only
          rw [if_pos hc]
          exact h2 g
        · rw [underL_iff] at hn ⊢
          intro y hy
          rcases List.mem_or_eq_of_mem_set hy with hy | rfl
          · exact hn y hy
          · exact pure_under n _ hpv
      · cases ev
    · cases ev

variable {P : Program} {o : Oper} {a : Act} {V : View} {β : Beta}
theorem birth_any {i : I} {L : Nat} (hop : opIs P o.op o.type i = true) (hk : kindOf pf dyn i = .birth) (hE : EnvRel V β e a.tmps) (hdom : ∀ b v x, β b v = some x → b < L)
    (hp : ∀ x ∈ i.opds, isPur dyn x = true → ∀ v, x.val e = some v → v.pure = true) (ev : evI base ws e h i = some (u, h')) :
    ∃ sz els, h' = h ++ [.arr 0 sz els] ∧ underL L els = true ∧ ∀ g, ∃ ug, evI base ws e g i = some (ug, g ++ [.arr 0 sz els]) ∧
      ∀ (V' : View) (β1 β2 : Beta) (v : Value), (∀ ver, β2 h.length ver = β1 g.length ver) → Rel V' β1 ug v → Rel V' β2 u v := by
  cases i with
  | own0 sz =>
    simp only [evI, Option.some.injEq, Prod.mk.injEq] at ev ⊢
    obtain ⟨rfl, rfl⟩ := ev
    refine ⟨sz, [], rfl, rfl, fun g => ⟨_, ⟨rfl, rfl⟩, fun V' β1 β2 v hb hr => ?_⟩⟩
    unfold Rel at hr ⊢
    rw [hb]; exact hr
  | box sz y =>
    simp only [evI] at ev ⊢
    split at ev
    · rename_i v hv
      split at ev
      · rename_i hc
        simp at ev; obtain ⟨rfl, rfl⟩ := ev
        refine ⟨sz, [v], rfl, ?_, fun g => ⟨_, by rw [if_pos hc], fun V' β1 β2 v hb hr => ?_⟩⟩
        · have hr : ∃ w, Rel V β v w := by
            simp only [opIs] at hop
            split at hop
            · exact ⟨_, sameO_rel hE hop hv⟩
            · split at hop
              · obtain ⟨zv, _, _, hz⟩ := zeroIs_run hop
                simp only [O.val] at hv
                injection hv with hv
                subst hv
                exact ⟨zv, hz _ _⟩
              · cases hop
            · cases hop
          obtain ⟨w, hr⟩ := hr
          simp [underL, Rel.isUnder hdom _ _ hr]
        · unfold Rel at hr ⊢
          rw [hb]; exact hr
      · cases ev
    · cases ev
  | bsl sz n zero ps =>
    simp only [kindOf] at hk
    split at hk
    · rename_i hall
      simp only [evI] at ev ⊢
      split at ev
      · rename_i els h1 hb1
        simp at ev; obtain ⟨rfl, rfl⟩ := ev
        obtain ⟨rfl, h2, h3⟩ := bslP_pure (fun p hp' v hv => hp p.2 (List.mem_map.2 ⟨p, hp', rfl⟩) (List.all_eq_true.1 hall p hp') v hv) hb1
        refine ⟨sz, els, rfl, h3 L ?_, fun g => ⟨_, by rw [h2 g], fun V' β1 β2 v hb hr => ?_⟩⟩
        · simp only [opIs] at hop
          split at hop
          · split at hop
            · simp only [Bool.and_eq_true] at hop
              obtain ⟨zv, _, _, hz⟩ := zeroIs_run hop.1.1.1.1.1.2
              rw [underL_iff]
              intro y hy
              rw [List.eq_of_mem_replicate hy]
              exact Rel.isUnder hdom _ _ (hz V β)
            · cases hop
          · cases hop
        · unfold Rel at hr ⊢
          rw [hb]; exact hr
      · cases ev
    · cases hk
  | slc k y lo hi mx => cases k <;> simp [kindOf] at hk
  | conv c y => cases c <;> simp [kindOf] at hk
  | call f l => simp only [kindOf] at hk; split at hk <;> cases hk
  | callv pu f l => simp only [kindOf] at hk; split at hk <;> cases hk
  | _ => simp [kindOf] at hk
end
end Go.Avm
