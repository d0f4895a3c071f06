/- The machine's configuration; the functions are those of the program. -/
import Derived.Test.YtpnnkjhofkignaaGreatDoorAn4
set_option linter.all false
namespace Go.Proofs.YtpnnkjhofkignaaGreatDoor
open Go Go.Avm
def strs : List AV → Option (List ByteArray)
  | [] => some []
  | .str s :: l => match strs l with | some r => some (s :: r) | none => none
  | _ => none
def namesX : List AV → Avm.H → Option (AV × Avm.H)
  | [.isl els, .int .i64 a, .int .i64 b], h => match strs els with
    | some l => if l.length ≤ 1048576 then some (.bool (namesB l a b), h) else none
    | none => none
  | _, _ => none
def cfg : Cfg := ⟨fnOf fnl, fun f => if f = 37 then some namesX else none⟩
def pf (f : FuncId) : Bool := match cfg.pol f with | some .snap => true | some (.pur _) => true | _ => false
set_option maxRecDepth 100000 in
theorem checked : fnl.all (fun p => fOkB Tryz.prog pf p.1 p.2) = true := by kernel_rfl
theorem strs_some : ∀ {els : List AV} {l : List ByteArray}, strs els = some l → els = l.map .str
  | [], l, h => by cases h; rfl
  | x :: r, l, h => by
    cases x with
    | str s =>
      simp only [strs] at h
      cases hr : strs r with
      | none => rw [hr] at h; cases h
      | some q => rw [hr] at h; cases h; rw [strs_some hr]; rfl
    | _ => simp [strs] at h
theorem strsAt_of {w0 w : World} {wr : Nat} {β : Beta} {h : Avm.H} {v : Value} {l : List ByteArray} (hr : Rel (view wr β h w) β (.isl (l.map .str)) v) : StrsAt w v (l.map (·.data.toList)) := by
  unfold Rel at hr
  obtain ⟨a, cap, rfl, hcap, hr⟩ := hr
  by_cases hl : l = []
  · subst hl; exact .inl ⟨rfl, a, cap, rfl⟩
  · rcases hr with hr | ⟨c, o, sz, rfl, hr⟩
    · exact absurd (by simpa using hr) hl
    · rw [RelE_iff] at hr
      have hg : ∀ j s, l[j]? = some s → w.cell? ⟨c, o + j, none⟩ = some (.string s) := fun j s hj => by
        obtain ⟨h1, h2⟩ := hr j (.str s) (by rw [List.getElem?_map, hj]; rfl)
        have hsz : sz = 1 := h1.symm
        subst hsz
        obtain ⟨u, h3, h4⟩ := h2 0 (.str s) rfl
        unfold Rel at h4
        subst h4
        simpa using (view_M h3).1
      refine .inr ⟨c, o, cap, by simp, by simpa using hcap, ?_, fun j hj => ?_⟩
      · have hp : 0 < l.length := List.length_pos_iff.2 hl
        exact cell_lt (hg 0 _ (List.getElem?_eq_getElem hp))
      · have hj' : j < l.length := by simpa using hj
        rw [hg j _ (List.getElem?_eq_getElem hj')]
        simp [Go.Proofs.encStr, hj']
theorem names_ext (w0 : World) : ExtOk Tryz.prog w0 37 namesX := by
  refine ⟨fun args h r h' ev => ?_, fun args h r h' wr β w vs ev hwr S hr => ?_⟩
  · unfold namesX at ev
    split at ev
    · split at ev
      · split at ev
        · cases ev; exact ⟨[], by simp⟩
        · cases ev
      · cases ev
    · cases ev
  · unfold namesX at ev
    split at ev
    · rename_i els a b
      split at ev
      · rename_i l hl
        split at ev
        · rename_i hlen
          cases ev
          rw [strs_some hl] at hr
          unfold RelL at hr
          obtain ⟨v, r1, e1, hv, hr⟩ := hr
          unfold RelL at hr
          obtain ⟨v2, r2, rfl, hv2, hr⟩ := hr
          unfold RelL at hr
          obtain ⟨v3, r3, rfl, hv3, hr⟩ := hr
          unfold RelL at hr
          subst hr
          unfold Rel at hv2 hv3
          subst hv2 hv3
          obtain rfl : vs = #[v, .int .i64 a, .int .i64 b] := by cases vs; simp_all
          refine .inl ⟨callFunc_run Tryz.func37 (by decide +kernel) rfl _ w, (names_calls l v a b w (strsAt_of (w0 := w0) hv) hlen).mono ?_⟩
          rintro e w' ⟨rfl, hb⟩
          obtain ⟨S', E⟩ := sim_grow S hb.os hb.tape hb.output hb.size hb.block
          exact ⟨_, rfl, β, S', E, by unfold Rel; rfl⟩
        · cases ev
      · cases ev
    · cases ev
theorem fn_ok {f : FuncId} {F : F} (hF : fnOf fnl f = some F) : FOk Tryz.prog (drawIs Tryz.prog pf) f F := by
  have h := List.all_eq_true.1 checked (f, F) (fnOf_mem hF)
  exact fOk_of h
theorem cfg_ok (w0 : World) : CfgOk Tryz.prog w0 (drawIs Tryz.prog pf) cfg where
  fn := fun f F _ hF => fn_ok hF
  ext := fun f x hx => by
    simp only [cfg] at hx
    split at hx
    · rename_i hf; cases hx; subst hf; exact names_ext w0
    · cases hx
  draw := drawAll follows fun g hg => by
    unfold pf at hg
    split at hg
    · rename_i h; exact .inl h
    · rename_i b h; exact .inr ⟨b, h⟩
    · cases hg
set_option maxRecDepth 100000 in
theorem sane : callN cfg 40 0 8 [] [] = some (.bool true, []) := by kernel_rfl
end Go.Proofs.YtpnnkjhofkignaaGreatDoor
