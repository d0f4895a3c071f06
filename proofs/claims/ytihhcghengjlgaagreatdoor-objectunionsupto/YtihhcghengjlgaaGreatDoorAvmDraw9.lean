/- Regions that draw their order are sound. -/
import Derived.Test.YtihhcghengjlgaaGreatDoorAvmDraw8
set_option linter.all false
set_option linter.all false
set_option linter.all false
namespace Go.Avm
open Go.RowKit

section
variable {call : CallF} {fpol : FuncId → Option Pol} {base ws : Nat}

def stP (call : CallF) (fpol : FuncId → Option Pol) (base ws : Nat) (fl : List Fl) (e : Env) (h : H) (k : Nat) : Env × H := (evFl call fpol base ws (fl.take k) e h).getD (e, h)
theorem stP_some {fl : List Fl} {e e1 : Env} {h h1 : H} (ev : evFl call fpol base ws fl e h = some (e1, h1)) (k : Nat) : evFl call fpol base ws (fl.take k) e h = some (stP call fpol base ws fl e h k) := by
  rw [← List.take_append_drop k fl, evFl_append] at ev
  unfold stP
  cases hx : evFl call fpol base ws (fl.take k) e h with
  | none => rw [hx] at ev; cases ev
  | some p => rfl
theorem stP_next {fl : List Fl} {e e1 : Env} {h h1 : H} (ev : evFl call fpol base ws fl e h = some (e1, h1)) {k : Nat} {x : Fl} (hx : fl[k]? = some x) :
    evFl call fpol base ws [x] (stP call fpol base ws fl e h k).1 (stP call fpol base ws fl e h k).2 = some (stP call fpol base ws fl e h (k + 1)) := by
  have h1 := stP_some ev (k + 1)
  have h2 := stP_some ev k
  rw [List.take_add_one, hx, evFl_append, h2] at h1
  exact h1

theorem trace_of {fl : List Fl} {ord : List Nat} {e e1 : Env} {h h1 : H} (hl : fl.length = ord.length) (ev : evFl call fpol base ws fl e h = some (e1, h1)) :
    Trace call fpol base ws (itAt (itemsOf fl ord)) fl.length (fun k => (stP call fpol base ws fl e h k).1) (fun k => (stP call fpol base ws fl e h k).2) := by
  constructor
  · intro k hk hi
    rcases items_get hl hk with ⟨f, j, _, h3⟩ | ⟨d, h2, _⟩
    · rw [hi] at h3; cases h3
    · have h4 := stP_next ev h2
      simp only [evFl, Option.some.injEq] at h4
      try dsimp only
      rw [← h4]
      refine ⟨rfl, fun s x hx => ?_⟩
      rw [get_drop] at hx
      split at hx
      · cases hx
      · exact hx
  · intro k hk f j hi
    rcases items_get hl hk with ⟨f', j', h2, h3⟩ | ⟨d, _, h3⟩
    · rw [hi] at h3
      injection h3 with h3; injection h3 with h3 _
      subst h3
      have h4 := stP_next ev h2
      try dsimp only
      simp only [evFl] at h4
      split at h4
      · rename_i hg
        split at h4
        · rename_i v h' hdo
          simp only [Option.some.injEq] at h4
          rw [← h4]
          exact ⟨v, .inl ⟨fun s w hs => (by rw [hg] at hs; cases hs), hdo⟩, rfl⟩
        · cases h4
      · rename_i g want hg
        split at h4
        · rename_i b hb
          split at h4
          · rename_i hbw
            split at h4
            · rename_i v h' hdo
              simp only [Option.some.injEq] at h4
              rw [← h4]
              refine ⟨v, .inl ⟨fun s w hs => ?_, hdo⟩, rfl⟩
              rw [hg] at hs; injection hs with hs; injection hs with hs1 hs2
              subst hs1 hs2
              rw [hb, hbw]
            · cases h4
          · rename_i hbw
            simp only [Option.some.injEq] at h4
            rw [← h4]
            refine ⟨.tup [], .inr ⟨⟨g, want, hg, .inl ?_⟩, rfl, rfl⟩, rfl⟩
            rw [hb]
            cases b <;> cases want <;> simp_all
        · rename_i hb
          simp only [Option.some.injEq] at h4
          rw [← h4]
          exact ⟨.tup [], .inr ⟨⟨g, want, hg, .inr hb⟩, rfl, rfl⟩, rfl⟩
        · cases h4
    · rw [hi] at h3; cases h3
end

theorem dyn_same {e e' : Env} (he : EqE e e') (h : H) (dyn : List Dyn) : farAll e h dyn = farAll e' h dyn := by
  unfold farAll
  congr 1
  funext d
  cases d with
  | far x y => simp only [Dyn.ok, he.val]
  | pur x => simp only [Dyn.ok, he.val]
  | alive x => simp only [Dyn.ok, he.val]

theorem drawOk {P : Program} {w0 : World} {call : CallF} {fpol : FuncId → Option Pol} {pf : FuncId → Bool} (hm : P.follows .mixedOrders = true) (hcall : CallOk P w0 call) (hkeep : CallKeep call) (hpu : CallPure call fpol)
    (hpf : ∀ g, pf g = true → (fpol g = some .snap ∨ ∃ b, fpol g = some (.pur b))) (n : Nat) : DrawOk P w0 call fpol n (drawIs P pf n) := by
  intro ops ord dyn l hchk wr base ws id β h h1 w e e1 a Q hws hwb hb hwl hn hE S hev hfar hq
  obtain ⟨hok, hl, St⟩ := stat_of hchk
  obtain ⟨e2, hfl, heq, _⟩ := on_L none l false [] e e1 h h1 hok (fun _ _ h => by cases h) (fun _ _ h => by cases h) hev
  have T := trace_of hl hfl
  have h0 : stP call fpol base ws (flatL none l) e h 0 = (e, h) := by simp [stP, evFl]
  have hend : stP call fpol base ws (flatL none l) e h (flatL none l).length = (e2, h1) := by simp [stP, hfl]
  obtain ⟨S1, E1⟩ := sim_drew S
  refine wp_region_any hm ?_
  have hfar' : farAll (stP call fpol base ws (flatL none l) e h (flatL none l).length).1 (stP call fpol base ws (flatL none l) e h (flatL none l).length).2 dyn = true := by
    rw [hend]; rw [← dyn_same heq]; exact hfar
  have hq' : ∀ a' w', Post w0 wr β (stP call fpol base ws (flatL none l) e h 0).2 w.drew a (stP call fpol base ws (flatL none l) e h (flatL none l).length).1 (stP call fpol base ws (flatL none l) e h (flatL none l).length).2 a' w' → Q .normal a' w' := by
    intro a' w' p
    rw [h0, hend] at p
    refine hq a' w' ?_
    obtain ⟨⟨β2, g1, g2, g3⟩, g4, g5⟩ := p
    exact ⟨⟨β2, g1, E1.trans g2, fun s x hx => g3 s x (by rw [← heq s]; exact hx)⟩, g4, g5⟩
  have hb' : base ≤ (stP call fpol base ws (flatL none l) e h 0).2.length := by rw [h0]; exact hb
  have hwl' : ws ≤ (stP call fpol base ws (flatL none l) e h 0).2.length := by rw [h0]; exact hwl
  -- the beginning
  have hnone : ∀ j, ¬ Dn (Array.replicate ops.size false) j := fun j hj => by
    unfold Dn at hj
    rw [Array.getD_eq_getD_getElem?] at hj
    by_cases hjl : j < ops.size
    · simp [hjl] at hj
    · simp [Array.getElem?_eq_none, hjl] at hj
  obtain ⟨c, _, hc2, hc3, hc4⟩ := next_touch (it := itAt (itemsOf (flatL none l) ord)) (pf := pf) (dyn := dyn) (m := (flatL none l).length) (fun _ => False) 0 (Nat.zero_le _)
  have hno : ∀ i f1 j1, i < c → itAt (itemsOf (flatL none l) ord) i = some (f1, j1) → ¬ isTouch pf dyn f1.i := fun i f1 j1 h2 h3 h4 => hc3 i f1 j1 (Nat.zero_le _) h2 h3 h4
  obtain ⟨t, ht⟩ := seg_app T St hfar' hpu hpf (k := 0) c (Nat.zero_le _) hc2 fun i f1 j1 _ h2 h3 => hno i f1 j1 h2 h3
  try dsimp only at ht
  have S0 : Sim w0 wr β (stP call fpol base ws (flatL none l) e h 0).2 w.drew := by rw [h0]; exact S1
  have Sc : Sim w0 wr β (stP call fpol base ws (flatL none l) e h c).2 w.drew := by rw [ht]; exact (sim_more S0 t).1
  have Ec : Ext0 wr β (stP call fpol base ws (flatL none l) e h 0).2 w.drew β (stP call fpol base ws (flatL none l) e h c).2 w.drew := by rw [ht]; exact ext0_more S0 t
  refine draw_any T St hfar' hcall hkeep hpu hpf hws hwb hb' hwl' hn hq' ops.size (Array.replicate ops.size false) a w.drew c β
    ⟨hc2, fun k f j h2 h3 h4 => absurd h4 (hno k f j h2 h3), ?_, fun j o hj => absurd hj (hnone j), by simp, Sc, ⟨Ec, ?_⟩, ?_, ?_, fun k f j _ _ hj => absurd hj (hnone j), ?_, rfl, rfl⟩ ?_
  · rcases hc4 with h2 | ⟨h2, f, j, h3, h4, h5⟩
    · exact .inl h2
    · exact .inr ⟨h2, f, j, h3, h4, hnone j⟩
  · exact fresh_of (Fresh.refl _ _) (fun _ _ _ => rfl) fun b hbl => by rw [ht]; exact List.getElem?_append_left hbl
  · intro k f j hk hi _ b h2 h3 v
    cases hx : β b v with
    | none => rfl
    | some x =>
      have h4 := dom_lt S0 hx
      have h5 := (T.len hkeep hb' k (Nat.le_of_lt hk)).2
      try dsimp only at h5 h2
      omega
  · intro k f j hk hi _ b h2 h3
    obtain ⟨t2, ht2⟩ := seg_app T St hfar' hpu hpf (k := k + 1) c hk hc2 fun i f1 j1 _ h2 h3 => hno i f1 j1 h2 h3
    try dsimp only at ht2
    rw [ht2]; exact List.getElem?_append_left h3
  · intro d x hx _
    rw [h0] at hx
    obtain ⟨u, g1, g2⟩ := hE d x hx
    exact ⟨u, g1, (g2.to E1.view E1.beta).to (by rw [h0] at Ec; exact Ec.view) (Beta.Le.refl _)⟩
  · have := List.count_le_length (a := false) (l := (Array.replicate ops.size false).toList)
    simpa using this

/-- Every region that passes the check is sound. -/
theorem drawAll {P : Program} {w0 : World} {fpol : FuncId → Option Pol} {pf : FuncId → Bool} (hm : P.follows .mixedOrders = true) (hpf : ∀ g, pf g = true → (fpol g = some .snap ∨ ∃ b, fpol g = some (.pur b))) : DrawAll P w0 fpol (drawIs P pf) :=
  fun _ h1 h2 h3 n => drawOk hm h1 h2 h3 hpf n
end Go.Avm
