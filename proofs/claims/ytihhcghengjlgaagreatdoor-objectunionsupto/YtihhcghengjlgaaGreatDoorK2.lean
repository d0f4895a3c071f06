/- What is not looked into keeps its word. -/
import Derived.Test.YtihhcghengjlgaaGreatDoorK
import Derived.Test.YtihhcghengjlgaaGreatDoorTwice
import Derived.Test.YtihhcghengjlgaaGreatDoorAvmClone
set_option linter.all false
set_option linter.all false
namespace Go.Proofs.YtihhcghengjlgaaGreatDoor
open Go Go.Avm Go.RowKit
theorem strs_some : ∀ {els : List AV} {l : List ByteArray}, strs els = some l → els = l.map .str
  | [], l, h => by cases h; rfl
  | x :: r, l, h => by
    cases x with
    | str s =>
      simp only [strs] at h
      cases hr : strs r with
      | none => rw [hr] at h; cases h
      | some q => rw [hr] at h; cases h; rw [strs_some hr]; rfl
    | _ => simp [strs] at h
theorem distinct_iff : ∀ (l : List ByteArray), distinct l = true ↔ (l.map (·.data.toList)).Nodup
  | [] => by simp [distinct]
  | x :: l => by
    simp only [distinct, Bool.and_eq_true, List.all_eq_true, Bool.not_eq_true', beq_eq_false_iff_ne, List.map_cons, List.nodup_cons, distinct_iff l, List.mem_map, not_exists, not_and, ByteArray.toList_eq]
    exact ⟨fun h => ⟨fun y hy e => h.1 y hy e.symm, h.2⟩, fun h => ⟨fun y hy e => h.1 y hy e.symm, h.2⟩⟩
theorem strsAt_of {w0 w : World} {wr : Nat} {β : Beta} {h : Avm.H} {x : AV} {v : Value} {l : List ByteArray} (S : Sim w0 wr β h w) (he : elsOf h x = some (l.map .str)) (hr : Rel (view wr β h w) β x v) : StrsAt w v (l.map (·.data.toList)) := by
  obtain ⟨a, cap, rfl, hcap, hq⟩ := elsOf_rel S he hr
  by_cases hl : l = []
  · subst hl; exact .inl ⟨rfl, a, cap, rfl⟩
  · rcases hq with hq | ⟨c, o, sz, rfl, hbe⟩
    · exact absurd (by simpa using hq) hl
    · have hg : ∀ j s, l[j]? = some s → w.cell? ⟨c, o + j, none⟩ = some (.string s) := fun j s hj => by
        obtain ⟨h1, h2⟩ := hbe j (.str s) (by rw [List.getElem?_map, hj]; rfl)
        have hsz : sz = 1 := h1.symm
        subst hsz
        obtain ⟨u, h3, h4⟩ := h2 0 (.str s) rfl
        unfold Rel at h4
        subst h4
        unfold rdw at h3
        simpa using h3
      refine .inr ⟨c, o, cap, by simp, by simpa using hcap, ?_, fun j hj => ?_⟩
      · have hp : 0 < l.length := List.length_pos_iff.2 hl
        exact cell_lt (hg 0 _ (List.getElem?_eq_getElem hp))
      · have hj' : j < l.length := by simpa using hj
        rw [hg j _ (List.getElem?_eq_getElem hj')]
        simp [Go.Proofs.encStr, hj']
theorem twice_ext (w0 : World) : ExtOk Tryz.prog w0 50 twiceX := by
  refine ⟨fun args h r h' ev => ?_, fun args h r h' wr β w vs ev hwr S hr => ?_⟩
  · unfold twiceX at ev
    split at ev
    · split at ev
      · split at ev
        · split at ev
          · cases ev; exact ⟨[], by simp⟩
          · cases ev
        · cases ev
      · cases ev
    · cases ev
  · unfold twiceX at ev
    split at ev
    · split at ev
      · rename_i els hels
        split at ev
        · rename_i l hl
          split at ev
          · rename_i hlen
            cases ev
            rw [strs_some hl] at hels
            unfold RelL at hr
            obtain ⟨v, r1, e1, hv, hr⟩ := hr
            unfold RelL at hr
            subst hr
            obtain rfl : vs = #[v] := by cases vs; simp_all
            refine .inl ⟨callFunc_run Tryz.func50 (by decide +kernel) rfl _ w, (twice_calls _ v w (strsAt_of S hels hv) (by simpa using hlen)).mono ?_⟩
            rintro e w' ⟨rfl, hb⟩
            obtain ⟨S', E⟩ := sim_grow S hb.os hb.tape hb.output hb.size hb.block
            refine ⟨_, rfl, β, S', E, ?_⟩
            unfold Rel
            congr 1
            have := distinct_iff l
            cases hd : distinct l <;> simp_all
          · cases ev
        · cases ev
      · cases ev
    · cases ev
theorem contains_ext {w0 : World} {m : Int} (hm : w0.cell? ⟨Tryz.layCo_ren.g 1, 0, none⟩ = some (.int .i64 m)) : ExtOk Tryz.prog w0 94 containsX := by
  refine ⟨fun args h r h' ev => ?_, fun args h r h' wr β w vs ev hwr S hr => ?_⟩
  · unfold containsX at ev
    split at ev
    · split at ev
      · cases ev; exact ⟨[], by simp⟩
      · cases ev
    · cases ev
  · unfold containsX at ev
    split at ev
    · rename_i s t
      split at ev
      · rename_i hs
        cases ev
        unfold RelL at hr
        obtain ⟨v, r1, e1, hv, hr⟩ := hr
        unfold RelL at hr
        obtain ⟨v2, r2, rfl, hv2, hr⟩ := hr
        unfold RelL at hr
        subst hr
        unfold Rel at hv hv2
        subst hv hv2
        obtain rfl : vs = #[.string s, .string t] := by cases vs; simp_all
        have hmw : w.cell? ⟨Tryz.layCo_ren.g 1, 0, none⟩ = some (.int .i64 m) := (S.below.cell (cell_lt hm)).trans hm
        refine .inl ⟨callFunc_run Tryz.func94 (by decide +kernel) rfl _ w, (Any.strings_Contains { Tryz.layCo with } s t m w hs hmw).mono ?_⟩
        rintro e w' ⟨rfl, rfl⟩
        exact ⟨_, rfl, β, S, Ext.refl _ _ _ _, by unfold Rel; rfl⟩
      · cases ev
    · cases ev
theorem cloneI_ext (w0 : World) : ExtOk Tryz.prog w0 38 (cloneX 1 lim) :=
  clone_ok Tryz.layCi Tryz.t3 _ 1 8 lim (by kernel_rfl) rfl rfl rfl rfl (by decide) Tryz.sizeOf3 (by unfold lim; omega) (by unfold lim maxLen; omega) (enters_of Tryz.func38 (by kernel_rfl) rfl) w0
theorem cloneS_ext (w0 : World) : ExtOk Tryz.prog w0 79 (cloneX 1 lim) :=
  clone_ok Tryz.layCs Tryz.t9 _ 1 16 lim (by kernel_rfl) rfl rfl rfl rfl (by decide) Tryz.sizeOf9 (by unfold lim; omega) (by unfold lim maxLen; omega) (enters_of Tryz.func79 (by kernel_rfl) rfl) w0
theorem fn_ok {f : FuncId} {F : F} (hF : fnOf fnl f = some F) : FOk Tryz.prog (drawIs Tryz.prog pf) f F := by
  have h := List.all_eq_true.1 checked (f, F) (fnOf_mem hF)
  exact fOk_of h
theorem cfg_ok {w0 : World} {m : Int} (hm : w0.cell? ⟨Tryz.layCo_ren.g 1, 0, none⟩ = some (.int .i64 m)) : CfgOk Tryz.prog w0 (drawIs Tryz.prog pf) cfg where
  fn := fun f F _ hF => fn_ok hF
  ext := fun f x hx => by
    simp only [cfg, extOf] at hx
    split at hx
    · rename_i hf; cases hx; subst hf; exact twice_ext w0
    · split at hx
      · rename_i hf; cases hx; subst hf; exact contains_ext hm
      · split at hx
        · rename_i hf; cases hx; subst hf; exact cloneI_ext w0
        · split at hx
          · rename_i hf; cases hx; subst hf; exact cloneS_ext w0
          · cases hx
  draw := drawAll follows fun g hg => by
    unfold pf at hg
    split at hg
    · rename_i h; exact .inl h
    · rename_i b h; exact .inr ⟨b, h⟩
    · cases hg
end Go.Proofs.YtihhcghengjlgaaGreatDoor
