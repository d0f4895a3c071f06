/- Unions and differences of sets: the reference's, and the program's union. -/
import Derived.Test.YtihhcghengjlgaaGreatDoorO4
set_option linter.all false
set_option linter.all false
namespace Go.Proofs.YtihhcghengjlgaaGreatDoor
open Go Go.Avm
theorem rexcept_ok (a b : OSet) (ha : a.ok) (hb : b.ok) (ws : Nat) (h : Avm.H) : callL cfg ws 19 [a.enc, b.enc] h = some (.tup [(exceptS a b).1.enc, .int .i64 (exceptS a b).2], h) := by
  refine callL_fn rfl rfl ?_
  have hlp := loop_post (γ := AV × Avm.H) (f := evC (callL cfg) roundsL cfg.pol h.length h.length c19L0) (keep := [2, 3, 4, 6, 7]) a.objects
      (fun i c => SlcIn h.length 4 7 c.2 (((a.objects.take i).filter (absentIn b.objects)).map Obj.enc) c.1)
      (fun i _ => [(2, .ptr h.length 0 3 0 0), (3, .ptr (h.length + 1) 0 3 0 0), (4, .ptr (h.length + 2) 0 3 0 0), (6, .ptr (h.length + 3) 0 3 0 0), (7, .int .i64 i)])
      (fun _ g => h ++ ([.arr 0 3 [a.enc], .arr 0 3 [b.enc], .arr 0 3 [.agg [.str ⟨#[]⟩, .esl, .bool false]], .arr 0 3 [.agg [.str a.name, g.1, .bool a.ext]]] ++ g.2))
      (fun _ _ o => ∃ v2 g, SlcIn h.length 4 7 g ((a.objects.filter (absentIn b.objects)).map Obj.enc) v2 ∧ o = (.exit 0, [(2, .ptr h.length 0 3 0 0), (3, .ptr (h.length + 1) 0 3 0 0), (4, .ptr (h.length + 2) 0 3 0 0), (6, .ptr (h.length + 3) 0 3 0 0), (7, .int .i64 a.objects.length)],
        h ++ ([.arr 0 3 [a.enc], .arr 0 3 [b.enc], .arr 0 3 [.agg [.str ⟨#[]⟩, .esl, .bool false]], .arr 0 3 [.agg [.str a.name, v2, .bool a.ext]]] ++ g))) ?_ ?_ (.esl, []) (.inl ⟨rfl, rfl⟩)
  · obtain ⟨o, hl, v2, g, hI, ho⟩ := hlp
    subst ho
    simp [OSet.enc] at hl
    unfold exceptS
    generalize hout : a.objects.filter (absentIn b.objects) = out at hI
    by_cases h40 : out.length > 40
    · rcases hI.len with ⟨rfl, he⟩ | ⟨b', ver, rfl⟩
      · simp at he; subst he; simp at h40
      · have h41 : (40 : Int) < out.length := by omega
        simp at hl
        simp [OSet.enc, OSet.zero, F19, c19, hl, h40, h41]
    · have h41 : ¬ (40 : Int) < out.length := by omega
      rcases hI.len with ⟨rfl, he⟩ | ⟨b', ver, rfl⟩
      · simp at he; subst he
        simp [OSet.enc, F19, c19, hl]
      · simp at hl
        simp [OSet.enc, F19, c19, hl, h40, h41, -frz_osl]
        generalize hA : frz _ _ _ _ = r
        obtain ⟨g', rfl⟩ := SlcIn.frz_use (pre := [_, _, _, _]) hI (by simpa using hA) (by simp)
        simp
  · intro i x r c hd hi hx hI K hK
    have hlen := ha.1
    have hw := wrap_nat (n := i + 1) (by omega)
    simp at hw
    have hxo := ha.2 x (by rw [← hx]; exact List.getElem_mem hi)
    have hf := rfind_ok b hb x.code
    have hown := rown_ok x hxo.1 hxo.2
    simp at hown
    have ht : a.objects.take (i + 1) = a.objects.take i ++ [x] := by rw [List.take_succ_eq_append_getElem hi, hx]
    have hle : ((a.objects.take i).filter (absentIn b.objects)).length ≤ 1048576 := Nat.le_trans (List.length_filter_le _ _) (by simp; omega)
    rw [ht, List.filter_append] at hK
    obtain ⟨v, g⟩ := c
    have hc := hI.cells
    have h1 := hI.one
    dsimp only at hc h1 hI
    cases hq : b.objects.find? fun o => o.code == x.code
    · have hab : absentIn b.objects x = true := by simp [absentIn, hq]
      (simp only [hq] at hf; simp [OSet.enc, Obj.zero] at hf)
      simp [-Prod.exists, OSet.enc, c19L0, hi, hx, hf, hown, hw, bslP, appended, hc, h1]
      generalize hA : appI _ _ _ _ _ _ = r
      obtain ⟨v', g', rfl, h2⟩ := SlcIn.use (pre := [_, _, _, _]) hI hA (by simp; omega) (by simp)
      have hc' := h2.cells
      have h1' := h2.one
      obtain ⟨o, h4, h5⟩ := hK (v', g') (by simpa [hab] using h2)
      refine ⟨o, ?_, h5⟩
      simp [OSet.enc] at h4
      simp [hc', h1', h4, hw]
    · rename_i y
      have hab : absentIn b.objects x = false := by simp [absentIn, hq]
      (simp only [hq] at hf; simp [OSet.enc] at hf)
      obtain ⟨o, h4, h5⟩ := hK (v, g ++ [.arr 0 7 [y.enc]]) (by simpa [hab] using hI.grow _)
      refine ⟨o, ?_, h5⟩
      simp [OSet.enc] at h4
      simp [OSet.enc, c19L0, hi, hx, hf, hw, hc, h1, h4]
  · intro c K hI
    refine ⟨_, ?_, c.1, c.2, by simpa using hI, rfl⟩
    simp [OSet.enc, c19L0]
theorem union_loop0 (a b : OSet) (ha : a.ok) (h : Avm.H) : ∃ v2 g, SlcIn h.length 4 7 g (a.objects.map Obj.enc) v2 ∧ roundsL (evC (callL cfg) roundsL cfg.pol h.length h.length c15L0) [2, 3, 4, 6, 23, 24, 25] ([(2, .ptr h.length 0 3 0 0), (3, .ptr (h.length + 1) 0 3 0 0), (4, .ptr (h.length + 2) 0 3 0 0), (6, .ptr (h.length + 3) 0 3 0 0), (23, .isl (a.objects.map Obj.enc)), (24, .int .i64 a.objects.length), (25, .int .i64 (0 : Nat))]) (h ++ ([.arr 0 3 [a.enc], .arr 0 3 [b.enc], .arr 0 3 [.agg [.str ⟨#[]⟩, .esl, .bool false]], .arr 0 3 [.agg [.str a.name, .esl, .bool (a.ext || b.ext)]]] ++ [])) = some (.exit 0, [(2, .ptr h.length 0 3 0 0), (3, .ptr (h.length + 1) 0 3 0 0), (4, .ptr (h.length + 2) 0 3 0 0), (6, .ptr (h.length + 3) 0 3 0 0), (23, .isl (a.objects.map Obj.enc)), (24, .int .i64 a.objects.length), (25, .int .i64 a.objects.length)], h ++ ([.arr 0 3 [a.enc], .arr 0 3 [b.enc], .arr 0 3 [.agg [.str ⟨#[]⟩, .esl, .bool false]], .arr 0 3 [.agg [.str a.name, v2, .bool (a.ext || b.ext)]]] ++ g)) := by
  have hlp := loop_post (γ := AV × Avm.H) (f := evC (callL cfg) roundsL cfg.pol h.length h.length c15L0) (keep := [2, 3, 4, 6, 23, 24, 25]) a.objects
      (fun i c => SlcIn h.length 4 7 c.2 ((a.objects.take i).map Obj.enc) c.1)
      (fun i _ => [(2, .ptr h.length 0 3 0 0), (3, .ptr (h.length + 1) 0 3 0 0), (4, .ptr (h.length + 2) 0 3 0 0), (6, .ptr (h.length + 3) 0 3 0 0), (23, .isl (a.objects.map Obj.enc)), (24, .int .i64 a.objects.length), (25, .int .i64 i)])
      (fun _ g => h ++ ([.arr 0 3 [a.enc], .arr 0 3 [b.enc], .arr 0 3 [.agg [.str ⟨#[]⟩, .esl, .bool false]], .arr 0 3 [.agg [.str a.name, g.1, .bool (a.ext || b.ext)]]] ++ g.2))
      (fun _ _ o => ∃ v2 g, SlcIn h.length 4 7 g (a.objects.map Obj.enc) v2 ∧ o = (.exit 0, [(2, .ptr h.length 0 3 0 0), (3, .ptr (h.length + 1) 0 3 0 0), (4, .ptr (h.length + 2) 0 3 0 0), (6, .ptr (h.length + 3) 0 3 0 0), (23, .isl (a.objects.map Obj.enc)), (24, .int .i64 a.objects.length), (25, .int .i64 a.objects.length)], h ++ ([.arr 0 3 [a.enc], .arr 0 3 [b.enc], .arr 0 3 [.agg [.str ⟨#[]⟩, .esl, .bool false]], .arr 0 3 [.agg [.str a.name, v2, .bool (a.ext || b.ext)]]] ++ g))) ?_ ?_ (.esl, []) (.inl ⟨rfl, rfl⟩)
  · obtain ⟨o, hl, v2, g, hI, ho⟩ := hlp
    exact ⟨v2, g, hI, ho ▸ hl⟩
  · intro i x r c hd hi hx hI K hK
    have hlen := ha.1
    have hw := wrap_nat (n := i + 1) (by omega)
    simp at hw
    have hxo := ha.2 x (by rw [← hx]; exact List.getElem_mem hi)
    have hown := own_ok x hxo.1 hxo.2
    simp at hown
    have ht : a.objects.take (i + 1) = a.objects.take i ++ [x] := by rw [List.take_succ_eq_append_getElem hi, hx]
    rw [ht] at hK
    obtain ⟨v, g⟩ := c
    have hc := hI.cells
    have h1 := hI.one
    dsimp only at hc h1 hI
    have hab : True := trivial
    simp [-Prod.exists, OSet.enc, c15L0, hi, hx, hown, hw, bslP, appended, hc, h1]
    generalize hA : appI _ _ _ _ _ _ = r
    obtain ⟨v', g', rfl, h2⟩ := SlcIn.use (pre := [_, _, _, _]) hI hA (by simp; omega) (by simp)
    have hc' := h2.cells
    have h1' := h2.one
    obtain ⟨o, h4, h5⟩ := hK (v', g') (by simpa [hab] using h2)
    refine ⟨o, ?_, h5⟩
    simp [OSet.enc] at h4
    simp [hc', h1', h4, hw]
  · intro c K hI
    refine ⟨_, ?_, c.1, c.2, by simpa using hI, rfl⟩
    simp [OSet.enc, c15L0]
def UPost (a b : OSet) (h : Avm.H) (r : List Obj) (o : Ex × Env × Avm.H) : Prop := if r.any (conf a.objects) then ∃ v2 g, o = (.ret, [(4, .ptr (h.length + 2) 0 3 0 0), (5, .int .i64 7)], h ++ ([.arr 0 3 [a.enc], .arr 0 3 [b.enc], .arr 0 3 [.agg [.str ⟨#[]⟩, .esl, .bool false]], .arr 0 3 [.agg [.str a.name, v2, .bool (a.ext || b.ext)]]] ++ g)) else
        ∃ v2 g, SlcIn h.length 4 7 g ((a.objects ++ b.objects.filter (absentIn a.objects)).map Obj.enc) v2 ∧ o = (.exit 2, [(2, .ptr h.length 0 3 0 0), (4, .ptr (h.length + 2) 0 3 0 0), (6, .ptr (h.length + 3) 0 3 0 0), (38, .isl (b.objects.map Obj.enc)), (39, .int .i64 b.objects.length), (40, .int .i64 b.objects.length)], h ++ ([.arr 0 3 [a.enc], .arr 0 3 [b.enc], .arr 0 3 [.agg [.str ⟨#[]⟩, .esl, .bool false]], .arr 0 3 [.agg [.str a.name, v2, .bool (a.ext || b.ext)]]] ++ g))
theorem union_loop1 (a b : OSet) (ha : a.ok) (hb : b.ok) (h : Avm.H) (v0 : AV) (g0 : Avm.H) (hI0 : SlcIn h.length 4 7 g0 (a.objects.map Obj.enc) v0) : ∃ o, roundsL (evC (callL cfg) roundsL cfg.pol h.length h.length c15L1) [2, 4, 6, 38, 39, 40] ([(2, .ptr h.length 0 3 0 0), (4, .ptr (h.length + 2) 0 3 0 0), (6, .ptr (h.length + 3) 0 3 0 0), (38, .isl (b.objects.map Obj.enc)), (39, .int .i64 b.objects.length), (40, .int .i64 (0 : Nat))]) (h ++ ([.arr 0 3 [a.enc], .arr 0 3 [b.enc], .arr 0 3 [.agg [.str ⟨#[]⟩, .esl, .bool false]], .arr 0 3 [.agg [.str a.name, v0, .bool (a.ext || b.ext)]]] ++ g0)) = some o ∧
    if b.objects.any (conf a.objects) then ∃ v2 g, o = (.ret, [(4, .ptr (h.length + 2) 0 3 0 0), (5, .int .i64 7)], h ++ ([.arr 0 3 [a.enc], .arr 0 3 [b.enc], .arr 0 3 [.agg [.str ⟨#[]⟩, .esl, .bool false]], .arr 0 3 [.agg [.str a.name, v2, .bool (a.ext || b.ext)]]] ++ g)) else
      ∃ v2 g, SlcIn h.length 4 7 g ((a.objects ++ b.objects.filter (absentIn a.objects)).map Obj.enc) v2 ∧ o = (.exit 2, [(2, .ptr h.length 0 3 0 0), (4, .ptr (h.length + 2) 0 3 0 0), (6, .ptr (h.length + 3) 0 3 0 0), (38, .isl (b.objects.map Obj.enc)), (39, .int .i64 b.objects.length), (40, .int .i64 b.objects.length)], h ++ ([.arr 0 3 [a.enc], .arr 0 3 [b.enc], .arr 0 3 [.agg [.str ⟨#[]⟩, .esl, .bool false]], .arr 0 3 [.agg [.str a.name, v2, .bool (a.ext || b.ext)]]] ++ g)) := by
  have hlp := loop_post (γ := AV × Avm.H) (f := evC (callL cfg) roundsL cfg.pol h.length h.length c15L1) (keep := [2, 4, 6, 38, 39, 40]) b.objects
      (fun i c => SlcIn h.length 4 7 c.2 ((a.objects ++ (b.objects.take i).filter (absentIn a.objects)).map Obj.enc) c.1)
      (fun i _ => [(2, .ptr h.length 0 3 0 0), (4, .ptr (h.length + 2) 0 3 0 0), (6, .ptr (h.length + 3) 0 3 0 0), (38, .isl (b.objects.map Obj.enc)), (39, .int .i64 b.objects.length), (40, .int .i64 i)])
      (fun _ g => h ++ ([.arr 0 3 [a.enc], .arr 0 3 [b.enc], .arr 0 3 [.agg [.str ⟨#[]⟩, .esl, .bool false]], .arr 0 3 [.agg [.str a.name, g.1, .bool (a.ext || b.ext)]]] ++ g.2))
      (fun _ r o => UPost a b h r o) ?_ ?_ (v0, g0) (by simpa using hI0)
  · exact hlp
  · intro i x r c hd hi hx hI K hK
    have hlen := hb.1
    have hlen' := ha.1
    have hw := wrap_nat (n := i + 1) (by omega)
    simp at hw
    have hxo := hb.2 x (by rw [← hx]; exact List.getElem_mem hi)
    have hf := find_ok a ha x.code
    have hown := own_ok x hxo.1 hxo.2
    simp at hown
    have hcn := fun ws h cap (hcap : snapL (snap h 7) cap = some [.iptr x.cells]) => containsO_ok a.objects ha.1 (.inl rfl) h hcap (by simp [Obj.cells]) (fun y hy ws h => unionf_ok y x (ha.2 y hy) ws h) ws
    have hcx : (a.objects.any fun y => conf1 y x) = conf a.objects x := rfl
    simp only [Obj.cells, hcx] at hcn
    have ht : b.objects.take (i + 1) = b.objects.take i ++ [x] := by rw [List.take_succ_eq_append_getElem hi, hx]
    have hle : ((b.objects.take i).filter (absentIn a.objects)).length ≤ 1048576 := Nat.le_trans (List.length_filter_le _ _) (by simp; omega)
    rw [ht, List.filter_append] at hK
    obtain ⟨v, g⟩ := c
    have hc := hI.cells
    have h1 := hI.one
    dsimp only at hc h1 hI
    cases hcf : conf a.objects x
    · rw [hcf] at hcn
      have hpo : ∀ o, UPost a b h (x :: r) o = UPost a b h r o := fun o => by unfold UPost; rw [List.any_cons, hcf, Bool.false_or]
      simp only [hpo]
      cases hq : a.objects.find? fun o => o.code == x.code
      · have hab : absentIn a.objects x = true := by simp [absentIn, hq]
        (simp only [hq] at hf; simp [OSet.enc, Obj.zero] at hf)
        simp [-Prod.exists, OSet.enc, c15L1, hi, hx, hf, hcn, hown, hw, bslP, appended, hc, h1]
        generalize hA : appI _ _ _ _ _ _ = r
        obtain ⟨v', g', rfl, h2⟩ := SlcIn.use (pre := [_, _, _, _]) hI hA (by simp; omega) (by simp)
        have hc' := h2.cells
        have h1' := h2.one
        obtain ⟨o, h4, h5⟩ := hK (v', g') (by simpa [hab] using h2)
        refine ⟨o, ?_, h5⟩
        simp [OSet.enc] at h4
        simp [hc', h1', h4, hw]
      · rename_i y
        have hab : absentIn a.objects x = false := by simp [absentIn, hq]
        (simp only [hq] at hf; simp [OSet.enc] at hf)
        obtain ⟨o, h4, h5⟩ := hK (v, g ++ [.arr 0 7 [x.enc], .arr 0 7 [y.enc]]) (by simpa [hab] using hI.grow _)
        refine ⟨o, ?_, h5⟩
        simp [OSet.enc] at h4
        simp [OSet.enc, c15L1, hi, hx, hf, hcn, hw, hc, h1, h4]
    · rw [hcf] at hcn
      refine ⟨_, ?_, by unfold UPost; rw [List.any_cons, hcf, Bool.true_or, if_pos rfl]; exact ⟨v, g ++ [.arr 0 7 [x.enc]], rfl⟩⟩
      simp [OSet.enc, c15L1, hi, hx, hcn, hw, hc, h1]
  · intro c K hI
    refine ⟨_, ?_, by unfold UPost; simp only [List.any_nil, Bool.false_eq_true, if_false]; exact ⟨c.1, c.2, by simpa using hI, rfl⟩⟩
    simp [OSet.enc, c15L1]
theorem union_ok (a b : OSet) (ha : a.ok) (hb : b.ok) (ws : Nat) (h : Avm.H) : callL cfg ws 15 [a.enc, b.enc] h = some (.tup [(unionS a b).1.enc, .int .i64 (unionS a b).2], h) := by
  refine callL_fn rfl rfl ?_
  obtain ⟨v0, g0, hI0, l0⟩ := union_loop0 a b ha h
  obtain ⟨o, l1, ho⟩ := union_loop1 a b ha hb h v0 g0 hI0
  have hc0 := hI0.cells
  have h10 := hI0.one
  simp [OSet.enc] at l0
  unfold unionS
  have hob : ∀ (c : Bool) (x y : AV × Avm.H), (if c = true then some x else some y) = some (if c = true then x else y) := fun c x y => by cases c <;> rfl
  cases hcf : b.objects.any (conf a.objects)
  · rw [hcf] at ho
    simp only [Bool.false_eq_true, if_false] at ho ⊢
    obtain ⟨v2, g, hI, rfl⟩ := ho
    have hl := l1
    simp [OSet.enc] at hl
    generalize hout : a.objects ++ b.objects.filter (absentIn a.objects) = out at hI
    by_cases h40 : out.length > 40
    · rcases hI.len with ⟨rfl, he⟩ | ⟨b', ver, rfl⟩
      · simp at he; subst he; simp at h40
      · have h41 : (40 : Int) < out.length := by omega
        simp at hl
        simp [OSet.enc, OSet.zero, F15, c15, l0, hl, h40, h41]
    · have h41 : ¬ (40 : Int) < out.length := by omega
      rcases hI.len with ⟨rfl, he⟩ | ⟨b', ver, rfl⟩
      · simp at he; subst he
        simp [OSet.enc, F15, c15, l0, hl]
      · simp at hl
        simp [OSet.enc, F15, c15, l0, hl, h40, h41, -frz_osl]
        generalize hA : frz _ _ _ _ = r
        obtain ⟨g', rfl⟩ := SlcIn.frz_use (pre := [_, _, _, _]) hI (by simpa using hA) (by simp)
        simp
  · rw [hcf] at ho
    simp only [if_true] at ho ⊢
    obtain ⟨v2, g, rfl⟩ := ho
    simp [OSet.enc] at l1
    simp [OSet.enc, OSet.zero, F15, c15, l0, l1]
end Go.Proofs.YtihhcghengjlgaaGreatDoor
