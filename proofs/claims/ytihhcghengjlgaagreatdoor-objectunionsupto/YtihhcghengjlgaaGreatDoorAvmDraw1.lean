/- For regions that draw their order: heaps that agree, blocks that are born later than reckoned, what an operation looks at. -/
import Derived.Test.YtihhcghengjlgaaGreatDoorAvmTop
set_option linter.all false
set_option linter.all false
set_option linter.all false
namespace Go.Avm
open Go.RowKit

section
variable {P : Program} {w0 w w1 : World} {wr : Nat} {β β1 : Beta} {h h' G : H}

theorem live_of {wr' : Nat} (hd : ∀ b v x, β b v = some x → h'[b]? = h[b]?) {c : Nat} (hl : Live wr' β h' c) : Live wr' β h c := by
  obtain ⟨b, v, h1, h2, h3⟩ := hl
  refine ⟨b, v, h1, ?_, h3⟩
  unfold cur at h2 ⊢
  rwa [hd b v _ h3] at h2

/-- A heap that is the same wherever the model has a block. -/
theorem sim_agree (S : Sim w0 wr β h w) (hd : ∀ b v x, β b v = some x → b < h'.length ∧ h'[b]? = h[b]?) : Sim w0 wr β h' w ∧ ∀ c, Live wr β h' c ↔ Live wr β h c := by
  have hlive : ∀ c, Live wr β h' c ↔ Live wr β h c := fun c => ⟨live_of fun b v x hx => (hd b v x hx).2, live_of fun b v x hx => (hd b v x hx).2.symm⟩
  have hv := view_le (w := w) fun c => (hlive c).1
  have hc : ∀ {b v v0 x}, cur h' b = some v → β b v0 = some x → cur h b = some v := fun {b v v0 x} h1 h2 => by
    unfold cur at h1 ⊢
    rwa [(hd b v0 x h2).2] at h1
  refine ⟨⟨S.below, fun b v c hb => ⟨(hd b v _ hb).1, (S.dom b v c hb).2⟩, fun b v hb => (hd b v _ hb).1, fun k k' v v' c h1 h2 h3 h4 => S.inj k k' v v' c (hc h1 h3) (hc h2 h4) h3 h4, fun b v sz els c h1 h2 => ?_, fun b s p c h1 h2 => ?_, fun b v v0 h1 h2 => ?_, fun b v v0 h1 h2 => ?_⟩, hlive⟩
  · rw [(hd b v _ h2).2] at h1
    obtain ⟨h3, h4, h5⟩ := S.arr b v sz els c h1 h2
    exact ⟨h3, h4, h5.mono (fun _ _ h => h) hv (Beta.Le.refl _)⟩
  · rw [(hd b 0 _ h2).2] at h1
    exact S.sit b s p c h1 h2
  · cases h3 : β b v with
    | none => rfl
    | some x => have := S.old b v v0 (hc h1 h3) h2; rw [h3] at this; cases this
  · cases h3 : β b v with
    | none => rfl
    | some x =>
      rw [(hd b v x h3).2] at h1
      have := S.oldd b v v0 h1 h2; rw [h3] at this; cases this
theorem dom_lt (S : Sim w0 wr β h w) {b v : Nat} {x : Option Nat} (hx : β b v = some x) : b < h.length := by
  cases x with
  | none => exact S.domv b v hx
  | some c => exact (S.dom b v c hx).1
theorem sim_more (S : Sim w0 wr β h w) (t : H) : Sim w0 wr β (h ++ t) w ∧ ∀ c, Live wr β (h ++ t) c ↔ Live wr β h c :=
  sim_agree S fun b v x hx => ⟨by have := dom_lt S hx; simp; omega, List.getElem?_append_left (dom_lt S hx)⟩
theorem sim_less {t : H} (S : Sim w0 wr β (h ++ t) w) (hn : ∀ b v, h.length ≤ b → β b v = none) : Sim w0 wr β h w ∧ ∀ c, Live wr β h c ↔ Live wr β (h ++ t) c := by
  refine sim_agree S fun b v x hx => ?_
  have hb : b < h.length := by
    rcases Nat.lt_or_ge b h.length with h1 | h1
    · exact h1
    · rw [hn b v h1] at hx; cases hx
  exact ⟨hb, (List.getElem?_append_left hb).symm⟩

/-- What is known of the old blocks' elements. -/
theorem els_under (S : Sim w0 wr β h w) {b v sz c : Nat} {els : List AV} (hb : h[b]? = some (.arr v sz els)) (hβ : β b v = some (some c)) : underL h.length els = true := by
  obtain ⟨_, _, hbe⟩ := S.arr b v sz els c hb hβ
  rw [underL_iff]
  intro x hx
  obtain ⟨i, hi, rfl⟩ := List.mem_iff_getElem.1 hx
  have := (hbe i els[i] (by simp)).2
  rw [← under_cells, underL_iff]
  intro y hy
  obtain ⟨j, hj, rfl⟩ := List.mem_iff_getElem.1 hy
  obtain ⟨u, _, hr⟩ := this j _ (List.getElem?_eq_getElem hj)
  exact Rel.isUnder (fun b v x hx => dom_lt S hx) _ _ hr
theorem be_narrow {rd : Nat → Nat → Option Value} {V : View} {n c o sz : Nat} {els : List AV} (hb : BE rd V β c o sz els) (hu : underL n els = true) : BE rd V (restr n β) c o sz els := by
  intro i x hx
  obtain ⟨h5, h6⟩ := hb i x hx
  refine ⟨h5, fun j y hy => ?_⟩
  obtain ⟨u, h7, h8⟩ := h6 j y hy
  have hxu : x.under n = true := underL_iff.1 hu x (List.mem_of_getElem? hx)
  rw [← under_cells, underL_iff] at hxu
  exact ⟨u, h7, Rel.narrow _ _ (hxu y (List.mem_of_getElem? hy)) h8⟩

def moved (b L : Nat) (β : Beta) : Beta := fun k v => if k = b then β L v else if k < L then β k v else none

/-- A block that was made at the heap's end becomes the one that it was to be. -/
theorem move_birth {b sz : Nat} {els : List AV} (S : Sim w0 wr β G w) (S1 : Sim w0 wr β1 (G ++ [.arr 0 sz els]) w1) (E : Ext wr β G w β1 (G ++ [.arr 0 sz els]) w1) (hb : G[b]? = some (.arr 0 sz els)) (hwr : wr ≤ b) (hn : ∀ v, β b v = none) (hu : underL G.length els = true) :
    Sim w0 wr (moved b G.length β1) G w1 ∧ Ext0 wr β G w (moved b G.length β1) G w1 ∧ (∀ c, Live wr (moved b G.length β1) G c → Live wr β1 (G ++ [.arr 0 sz els]) c) ∧ (restr G.length β1).Le (moved b G.length β1) := by
  have hbl : b < G.length := (List.getElem?_eq_some_iff.1 hb).1
  have hn1 : ∀ v, β1 b v = none := E.fresh b hbl hn
  have hlow : ∀ k, k < G.length → (G ++ [.arr 0 sz els])[k]? = G[k]? := fun k hk => List.getElem?_append_left hk
  have hat : (G ++ [.arr 0 sz els])[G.length]? = some (.arr 0 sz els) := by simp
  have hle : (restr G.length β1).Le (moved b G.length β1) := fun k v x hx => by
    unfold restr at hx
    split at hx
    · rename_i hk
      unfold moved
      rw [if_neg (by rintro rfl; rw [hn1 v] at hx; cases hx), if_pos hk]
      exact hx
    · cases hx
  have cases_of : ∀ k v x, moved b G.length β1 k v = some x → (k = b ∧ β1 G.length v = some x) ∨ (k ≠ b ∧ k < G.length ∧ β1 k v = some x) := fun k v x hx => by
    unfold moved at hx
    split at hx
    · rename_i hk; exact .inl ⟨hk, hx⟩
    · rename_i hk
      split at hx
      · rename_i hkl; exact .inr ⟨hk, hkl, hx⟩
      · cases hx
  have hsrc : ∀ k v x, moved b G.length β1 k v = some x → ∃ k0, β1 k0 v = some x ∧ (G ++ [.arr 0 sz els])[k0]? = G[k]? ∧ k < G.length ∧ k ≤ k0 ∧ ((k = b ∧ k0 = G.length) ∨ (k ≠ b ∧ k0 = k)) := fun k v x hx => by
    rcases cases_of k v x hx with ⟨rfl, h1⟩ | ⟨h1, h2, h3⟩
    · exact ⟨G.length, h1, by rw [hat, hb], hbl, Nat.le_of_lt hbl, .inl ⟨rfl, rfl⟩⟩
    · exact ⟨k, h3, hlow k h2, h2, Nat.le_refl _, .inr ⟨h1, rfl⟩⟩
  have hcur : ∀ {k k0 v : Nat}, (G ++ [.arr 0 sz els])[k0]? = G[k]? → cur G k = some v → cur (G ++ [.arr 0 sz els]) k0 = some v := fun {k k0 v} h1 h2 => by
    unfold cur at h2 ⊢; rwa [h1]
  have hlive : ∀ c, Live wr (moved b G.length β1) G c → Live wr β1 (G ++ [.arr 0 sz els]) c := by
    rintro c ⟨k, v, h1, h2, h3⟩
    obtain ⟨k0, h4, h5, _, h6, _⟩ := hsrc k v _ h3
    exact ⟨k0, v, Nat.le_trans h1 h6, hcur h5 h2, h4⟩
  have hv := view_le (w := w1) hlive
  refine ⟨⟨S1.below, fun k v c hk => ?_, fun k v hk => ?_, ?_, ?_, ?_, ?_, ?_⟩, ⟨E.os, E.tape, E.output, E.size, Nat.le_refl _, fun k v x hx => ?_, fun c hc hl => ⟨(E.stay c hc hl).1, fun h2 => (E.stay c hc hl).2 (hlive c h2)⟩, E.shape⟩, hlive, hle⟩
  · obtain ⟨k0, h4, _, h5, _⟩ := hsrc k v _ hk
    exact ⟨h5, (S1.dom k0 v c h4).2⟩
  · exact (hsrc k v _ hk).choose_spec.2.2.1
  · intro k k' v v' c h1 h2 h3 h4
    obtain ⟨k0, a1, a2, _, _, a3⟩ := hsrc k v _ h3
    obtain ⟨k1, b1, b2, _, _, b3⟩ := hsrc k' v' _ h4
    have := S1.inj k0 k1 v v' c (hcur a2 h1) (hcur b2 h2) a1 b1
    subst this
    rcases a3 with ⟨a3, a4⟩ | ⟨a3, a4⟩ <;> rcases b3 with ⟨b3, b4⟩ | ⟨b3, b4⟩
    · rw [a3, b3]
    · subst b4
      have h5 := (cases_of _ v' _ h4)
      rcases h5 with ⟨h5, _⟩ | ⟨_, h5, _⟩
      · exact absurd h5 b3
      · omega
    · subst a4
      have h5 := (cases_of _ v _ h3)
      rcases h5 with ⟨h5, _⟩ | ⟨_, h5, _⟩
      · exact absurd h5 a3
      · omega
    · rw [← a4, ← b4]
  · intro k v z es c h1 h2
    obtain ⟨k0, h3, h4, _, _, h5⟩ := hsrc k v _ h2
    rw [← h4] at h1
    obtain ⟨h6, h7, h8⟩ := S1.arr k0 v z es c h1 h3
    refine ⟨h6, h7, (be_narrow h8 (n := G.length) ?_).mono (fun _ _ h => h) hv hle⟩
    rcases h5 with ⟨_, rfl⟩ | ⟨hkb, rfl⟩
    · rw [hat] at h1; simp at h1; obtain ⟨_, _, rfl⟩ := h1; exact hu
    · have hkl : k0 < G.length := by
        rcases cases_of k0 v _ h2 with ⟨h9, _⟩ | ⟨_, h9, _⟩
        · exact absurd h9 hkb
        · exact h9
      rw [hlow k0 hkl] at h1
      cases h10 : β k0 v with
      | none =>
        have := E.freshv k0 v hkl (fun v0 h11 => by
          have : cur G k0 = some v := by unfold cur; rw [h1]
          rw [this] at h11; injection h11 with h11; omega) h10
        rw [this] at h3; cases h3
      | some y =>
        have h11 := E.beta k0 v y h10
        rw [h3] at h11
        injection h11 with h11
        subst h11
        exact els_under S h1 h10
  · intro k s p c h1 h2
    obtain ⟨k0, h3, h4, _⟩ := hsrc k 0 _ h2
    rw [← h4] at h1
    exact S1.sit k0 s p c h1 h3
  · intro k v v0 h1 h2
    cases h3 : moved b G.length β1 k v with
    | none => rfl
    | some x =>
      obtain ⟨k0, h4, h5, _⟩ := hsrc k v x h3
      have := S1.old k0 v v0 (hcur h5 h1) h2
      rw [h4] at this; cases this
  · intro k v v0 h1 h2
    cases h3 : moved b G.length β1 k v with
    | none => rfl
    | some x =>
      obtain ⟨k0, h4, h5, _⟩ := hsrc k v x h3
      rw [← h5] at h1
      have := S1.oldd k0 v v0 h1 h2
      rw [h4] at this; cases this
  · have hk := dom_lt S hx
    exact hle k v x (by unfold restr; rw [if_pos hk]; exact E.beta k v x hx)
end
end Go.Avm
