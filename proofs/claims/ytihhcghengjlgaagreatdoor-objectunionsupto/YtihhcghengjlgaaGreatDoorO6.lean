/- The reference's union. -/
import Derived.Test.YtihhcghengjlgaaGreatDoorO5
set_option linter.all false
set_option linter.all false
namespace Go.Proofs.YtihhcghengjlgaaGreatDoor
open Go Go.Avm
def RPost (a b : OSet) (h : Avm.H) (c : Bool) (e : Ex × Env) (r : Ex × Env × Avm.H) : Prop := if c = true then ∃ g, r = (.ret, [(4, .ptr (h.length + 2) 0 3 0 0), (5, .int .i64 7)], h ++ ([.arr 0 3 [a.enc], .arr 0 3 [b.enc], .arr 0 3 [.agg [.str ⟨#[]⟩, .esl, .bool false]]] ++ g)) else ∃ g, r = (e.1, e.2, h ++ ([.arr 0 3 [a.enc], .arr 0 3 [b.enc], .arr 0 3 [.agg [.str ⟨#[]⟩, .esl, .bool false]]] ++ g))
/-- A heap that has both sets and the zero one behind h. -/
structure Has (a b : OSet) (h k : Avm.H) : Prop where
  len : h.length ≤ k.length
  a : ∀ X : Avm.H, (k ++ X)[h.length]? = some (.arr 0 3 [a.enc])
  b : ∀ X : Avm.H, (k ++ X)[h.length + 1]? = some (.arr 0 3 [b.enc])
theorem runion_inner (a b : OSet) (ha : a.ok) (i : Int) (o : Obj) (h g1 : Avm.H) : ∃ r, roundsL (evC (callL cfg) roundsL cfg.pol h.length h.length c17L0) [2, 3, 4, 6, 7, 8] ([(2, .ptr h.length 0 3 0 0), (3, .ptr (h.length + 1) 0 3 0 0), (4, .ptr (h.length + 2) 0 3 0 0), (6, .int .i64 i), (7, .ptr (h.length + (g1.length + 3)) 0 7 0 0), (8, .int .i64 (0 : Nat))]) (h ++ ([.arr 0 3 [a.enc], .arr 0 3 [b.enc], .arr 0 3 [.agg [.str ⟨#[]⟩, .esl, .bool false]]] ++ (g1 ++ ([.arr 0 7 [o.enc]] ++ [])))) = some r ∧
    RPost a b h (a.objects.any fun x => conf1 x o) (.exit 2, [(2, .ptr h.length 0 3 0 0), (3, .ptr (h.length + 1) 0 3 0 0), (4, .ptr (h.length + 2) 0 3 0 0), (6, .int .i64 i), (7, .ptr (h.length + (g1.length + 3)) 0 7 0 0), (8, .int .i64 a.objects.length)]) r := by
  refine loop_post (γ := Avm.H) (f := evC (callL cfg) roundsL cfg.pol h.length h.length c17L0) (keep := [2, 3, 4, 6, 7, 8]) a.objects
      (fun _ _ => True)
      (fun j _ => [(2, .ptr h.length 0 3 0 0), (3, .ptr (h.length + 1) 0 3 0 0), (4, .ptr (h.length + 2) 0 3 0 0), (6, .int .i64 i), (7, .ptr (h.length + (g1.length + 3)) 0 7 0 0), (8, .int .i64 j)])
      (fun _ g => h ++ ([.arr 0 3 [a.enc], .arr 0 3 [b.enc], .arr 0 3 [.agg [.str ⟨#[]⟩, .esl, .bool false]]] ++ (g1 ++ ([.arr 0 7 [o.enc]] ++ g))))
      (fun _ r x => RPost a b h (r.any fun x => conf1 x o) (.exit 2, [(2, .ptr h.length 0 3 0 0), (3, .ptr (h.length + 1) 0 3 0 0), (4, .ptr (h.length + 2) 0 3 0 0), (6, .int .i64 i), (7, .ptr (h.length + (g1.length + 3)) 0 7 0 0), (8, .int .i64 a.objects.length)]) x) ?_ ?_ [] trivial
  · intro j x r g hd hj hx _ K hK
    have hlen := ha.1
    have hw := wrap_nat (n := j + 1) (by omega)
    simp at hw
    have hxo := ha.2 x (by rw [← hx]; exact List.getElem_mem hj)
    have hs := rsame_ok x o hxo
    simp at hs
    cases hcf : conf1 x o
    · have hpo : ∀ e y, RPost a b h ((x :: r).any fun x => conf1 x o) e y = RPost a b h (r.any fun x => conf1 x o) e y := fun e y => by rw [List.any_cons, hcf, Bool.false_or]
      simp only [hpo]
      obtain ⟨y, h4, h5⟩ := hK (g ++ [.arr 0 7 [x.enc]]) trivial
      refine ⟨y, ?_, h5⟩
      simp [OSet.enc] at h4
      simp only [conf1] at hcf
      cases q1 : decide (x.code = o.code) <;> cases q2 : decide (x.name.toList = o.name.toList) <;> simp [q1, q2] at hcf <;> simp at q1 q2 <;> (try simp only [q1] at hs) <;> (try simp only [q1] at h4) <;>
        simp [OSet.enc, c17L0, hj, hx, q1, q2, hs, hcf, hw, h4]
    · refine ⟨_, ?_, by unfold RPost; rw [List.any_cons, hcf, Bool.true_or, if_pos rfl]; exact ⟨g1 ++ ([.arr 0 7 [o.enc]] ++ (g ++ [.arr 0 7 [x.enc]])), rfl⟩⟩
      simp only [conf1] at hcf
      cases q1 : decide (x.code = o.code) <;> cases q2 : decide (x.name.toList = o.name.toList) <;> simp [q1, q2] at hcf <;> simp at q1 q2 <;> (try simp only [q1] at hs) <;>
        simp [OSet.enc, c17L0, hj, hx, q1, q2, hs, hcf]
  · intro g K _
    refine ⟨_, ?_, by unfold RPost; simp only [List.any_nil, Bool.false_eq_true, if_false]; exact ⟨g1 ++ ([.arr 0 7 [o.enc]] ++ g), rfl⟩⟩
    simp [OSet.enc, c17L0]
theorem runion_outer (a b : OSet) (ha : a.ok) (hb : b.ok) (h : Avm.H) : ∃ r, roundsL (evC (callL cfg) roundsL cfg.pol h.length h.length c17L1) [2, 3, 4, 6] ([(2, .ptr h.length 0 3 0 0), (3, .ptr (h.length + 1) 0 3 0 0), (4, .ptr (h.length + 2) 0 3 0 0), (6, .int .i64 (0 : Nat))]) (h ++ ([.arr 0 3 [a.enc], .arr 0 3 [b.enc], .arr 0 3 [.agg [.str ⟨#[]⟩, .esl, .bool false]]] ++ [])) = some r ∧
    RPost a b h (b.objects.any (conf a.objects)) (.exit 0, [(2, .ptr h.length 0 3 0 0), (3, .ptr (h.length + 1) 0 3 0 0), (4, .ptr (h.length + 2) 0 3 0 0), (6, .int .i64 b.objects.length)]) r := by
  refine loop_post (γ := Avm.H) (f := evC (callL cfg) roundsL cfg.pol h.length h.length c17L1) (keep := [2, 3, 4, 6]) b.objects
      (fun _ _ => True)
      (fun j _ => [(2, .ptr h.length 0 3 0 0), (3, .ptr (h.length + 1) 0 3 0 0), (4, .ptr (h.length + 2) 0 3 0 0), (6, .int .i64 j)])
      (fun _ g => h ++ ([.arr 0 3 [a.enc], .arr 0 3 [b.enc], .arr 0 3 [.agg [.str ⟨#[]⟩, .esl, .bool false]]] ++ g))
      (fun _ r x => RPost a b h (r.any (conf a.objects)) (.exit 0, [(2, .ptr h.length 0 3 0 0), (3, .ptr (h.length + 1) 0 3 0 0), (4, .ptr (h.length + 2) 0 3 0 0), (6, .int .i64 b.objects.length)]) x) ?_ ?_ [] trivial
  · intro j x r g hd hj hx _ K hK
    have hlen := hb.1
    have hw := wrap_nat (n := j + 1) (by omega)
    simp at hw
    obtain ⟨y, hin, hp⟩ := runion_inner a b ha j x h g
    have hcd : (a.objects.any fun y => conf1 y x) = conf a.objects x := rfl
    rw [hcd] at hp
    simp [OSet.enc] at hin
    cases hcf : conf a.objects x
    · have hpo : ∀ e y, RPost a b h ((x :: r).any (conf a.objects)) e y = RPost a b h (r.any (conf a.objects)) e y := fun e y => by rw [List.any_cons, hcf, Bool.false_or]
      simp only [hpo]
      rw [hcf] at hp
      unfold RPost at hp
      simp only [Bool.false_eq_true, if_false] at hp
      obtain ⟨g', rfl⟩ := hp
      obtain ⟨z, h4, h5⟩ := hK g' trivial
      refine ⟨z, ?_, h5⟩
      simp [OSet.enc] at h4
      simp [OSet.enc, c17L1, hj, hx, hin, hw, h4]
    · rw [hcf] at hp
      unfold RPost at hp
      simp only [if_true] at hp
      obtain ⟨g', rfl⟩ := hp
      refine ⟨_, ?_, by unfold RPost; rw [List.any_cons, hcf, Bool.true_or, if_pos rfl]; exact ⟨g', rfl⟩⟩
      simp [OSet.enc, c17L1, hj, hx, hin]
  · intro g K _
    refine ⟨_, ?_, by unfold RPost; simp only [List.any_nil, Bool.false_eq_true, if_false]; exact ⟨g, rfl⟩⟩
    simp [OSet.enc, c17L1]
theorem runion_loop2 (a b : OSet) (ha : a.ok) (h k : Avm.H) (hh : Has a b h k) : ∃ v2 g, SlcIn k.length 1 7 g (a.objects.map Obj.enc) v2 ∧ roundsL (evC (callL cfg) roundsL cfg.pol h.length h.length c17L2) [2, 3, 4, 10, 11] ([(2, .ptr h.length 0 3 0 0), (3, .ptr (h.length + 1) 0 3 0 0), (4, .ptr (h.length + 2) 0 3 0 0), (10, .ptr k.length 0 3 0 0), (11, .int .i64 (0 : Nat))]) (k ++ ([.arr 0 3 [.agg [.str a.name, .esl, .bool (a.ext || b.ext)]]] ++ [])) = some (.exit 4, [(2, .ptr h.length 0 3 0 0), (3, .ptr (h.length + 1) 0 3 0 0), (4, .ptr (h.length + 2) 0 3 0 0), (10, .ptr k.length 0 3 0 0), (11, .int .i64 a.objects.length)], k ++ ([.arr 0 3 [.agg [.str a.name, v2, .bool (a.ext || b.ext)]]] ++ g)) := by
  have hlp := loop_post (γ := AV × Avm.H) (f := evC (callL cfg) roundsL cfg.pol h.length h.length c17L2) (keep := [2, 3, 4, 10, 11]) a.objects
      (fun i c => SlcIn k.length 1 7 c.2 ((a.objects.take i).map Obj.enc) c.1)
      (fun i _ => [(2, .ptr h.length 0 3 0 0), (3, .ptr (h.length + 1) 0 3 0 0), (4, .ptr (h.length + 2) 0 3 0 0), (10, .ptr k.length 0 3 0 0), (11, .int .i64 i)])
      (fun _ g => k ++ ([.arr 0 3 [.agg [.str a.name, g.1, .bool (a.ext || b.ext)]]] ++ g.2))
      (fun _ _ o => ∃ v2 g, SlcIn k.length 1 7 g (a.objects.map Obj.enc) v2 ∧ o = (.exit 4, [(2, .ptr h.length 0 3 0 0), (3, .ptr (h.length + 1) 0 3 0 0), (4, .ptr (h.length + 2) 0 3 0 0), (10, .ptr k.length 0 3 0 0), (11, .int .i64 a.objects.length)], k ++ ([.arr 0 3 [.agg [.str a.name, v2, .bool (a.ext || b.ext)]]] ++ g))) ?_ ?_ (.esl, []) (.inl ⟨rfl, rfl⟩)
  · obtain ⟨o, hl, v2, g, hI, ho⟩ := hlp
    exact ⟨v2, g, hI, ho ▸ hl⟩
  · intro i x r c hd hi hx hI K hK
    have hlen := ha.1
    have qa := hh.a
    have qb := hh.b
    have ql := hh.len
    have qn : ¬ k.length < h.length := Nat.not_lt.2 hh.len
    have qm : ∀ n, h.length ≤ k.length + n := fun n => by omega
    have qo : ∀ n, ¬ k.length + n < h.length := fun n => by omega
    simp [OSet.enc] at qa qb
    have hw := wrap_nat (n := i + 1) (by omega)
    simp at hw
    have hxo := ha.2 x (by rw [← hx]; exact List.getElem_mem hi)
    have hown := rown_ok x hxo.1 hxo.2
    simp at hown
    have ht : a.objects.take (i + 1) = a.objects.take i ++ [x] := by rw [List.take_succ_eq_append_getElem hi, hx]
    rw [ht] at hK
    obtain ⟨v, g⟩ := c
    have hc := hI.cells
    have h1 := hI.one
    dsimp only at hc h1 hI
    have hab : True := trivial
    simp [-Prod.exists, OSet.enc, c17L2, hi, hx, hown, hw, bslP, appended, hc, h1, qa, qb, ql, qn, qm, qo]
    generalize hA : appI _ _ _ _ _ _ = r
    obtain ⟨v', g', rfl, h2⟩ := SlcIn.useB (pre := [_]) hh.len hI hA (by simp; omega) (by simp)
    have hc' := h2.cells
    have h1' := h2.one
    obtain ⟨o, h4, h5⟩ := hK (v', g') (by simpa [hab] using h2)
    refine ⟨o, ?_, by simpa using h5⟩
    simp [OSet.enc] at h4
    simp [hc', h1', h4, hw, ql, qn]
  · intro c K hI
    have qa := hh.a
    simp [OSet.enc] at qa
    refine ⟨_, ?_, c.1, c.2, by simpa using hI, rfl⟩
    simp [OSet.enc, c17L2, qa]
theorem runion_loop3 (a b : OSet) (ha : a.ok) (hb : b.ok) (h k : Avm.H) (hh : Has a b h k) (v0 : AV) (g0 : Avm.H) (hI0 : SlcIn k.length 1 7 g0 (a.objects.map Obj.enc) v0) : ∃ v2 g, SlcIn k.length 1 7 g ((a.objects ++ b.objects.filter (absentIn a.objects)).map Obj.enc) v2 ∧ roundsL (evC (callL cfg) roundsL cfg.pol h.length h.length c17L3) [2, 3, 4, 10, 12] ([(2, .ptr h.length 0 3 0 0), (3, .ptr (h.length + 1) 0 3 0 0), (4, .ptr (h.length + 2) 0 3 0 0), (10, .ptr k.length 0 3 0 0), (12, .int .i64 (0 : Nat))]) (k ++ ([.arr 0 3 [.agg [.str a.name, v0, .bool (a.ext || b.ext)]]] ++ g0)) = some (.exit 6, [(2, .ptr h.length 0 3 0 0), (3, .ptr (h.length + 1) 0 3 0 0), (4, .ptr (h.length + 2) 0 3 0 0), (10, .ptr k.length 0 3 0 0), (12, .int .i64 b.objects.length)], k ++ ([.arr 0 3 [.agg [.str a.name, v2, .bool (a.ext || b.ext)]]] ++ g)) := by
  have hlp := loop_post (γ := AV × Avm.H) (f := evC (callL cfg) roundsL cfg.pol h.length h.length c17L3) (keep := [2, 3, 4, 10, 12]) b.objects
      (fun i c => SlcIn k.length 1 7 c.2 ((a.objects ++ (b.objects.take i).filter (absentIn a.objects)).map Obj.enc) c.1)
      (fun i _ => [(2, .ptr h.length 0 3 0 0), (3, .ptr (h.length + 1) 0 3 0 0), (4, .ptr (h.length + 2) 0 3 0 0), (10, .ptr k.length 0 3 0 0), (12, .int .i64 i)])
      (fun _ g => k ++ ([.arr 0 3 [.agg [.str a.name, g.1, .bool (a.ext || b.ext)]]] ++ g.2))
      (fun _ _ o => ∃ v2 g, SlcIn k.length 1 7 g ((a.objects ++ b.objects.filter (absentIn a.objects)).map Obj.enc) v2 ∧ o = (.exit 6, [(2, .ptr h.length 0 3 0 0), (3, .ptr (h.length + 1) 0 3 0 0), (4, .ptr (h.length + 2) 0 3 0 0), (10, .ptr k.length 0 3 0 0), (12, .int .i64 b.objects.length)], k ++ ([.arr 0 3 [.agg [.str a.name, v2, .bool (a.ext || b.ext)]]] ++ g))) ?_ ?_ (v0, g0) (by simpa using hI0)
  · obtain ⟨o, hl, v2, g, hI, ho⟩ := hlp
    exact ⟨v2, g, hI, ho ▸ hl⟩
  · intro i x r c hd hi hx hI K hK
    have hlen := hb.1
    have hlen' := ha.1
    have qa := hh.a
    have qb := hh.b
    have ql := hh.len
    have qn : ¬ k.length < h.length := Nat.not_lt.2 hh.len
    have qm : ∀ n, h.length ≤ k.length + n := fun n => by omega
    have qo : ∀ n, ¬ k.length + n < h.length := fun n => by omega
    simp [OSet.enc] at qa qb
    have hw := wrap_nat (n := i + 1) (by omega)
    simp at hw
    have hxo := hb.2 x (by rw [← hx]; exact List.getElem_mem hi)
    have hf := rfind_ok a ha x.code
    have hown := rown_ok x hxo.1 hxo.2
    simp at hown
    have ht : b.objects.take (i + 1) = b.objects.take i ++ [x] := by rw [List.take_succ_eq_append_getElem hi, hx]
    have hle : ((b.objects.take i).filter (absentIn a.objects)).length ≤ 1048576 := Nat.le_trans (List.length_filter_le _ _) (by simp; omega)
    rw [ht, List.filter_append] at hK
    obtain ⟨v, g⟩ := c
    have hc := hI.cells
    have h1 := hI.one
    dsimp only at hc h1 hI
    cases hq : a.objects.find? fun o => o.code == x.code
    · have hab : absentIn a.objects x = true := by simp [absentIn, hq]
      (simp only [hq] at hf; simp [OSet.enc, Obj.zero] at hf)
      simp [-Prod.exists, OSet.enc, c17L3, hi, hx, hf, hown, hw, bslP, appended, hc, h1, qa, qb, ql, qn, qm, qo]
      generalize hA : appI _ _ _ _ _ _ = r
      obtain ⟨v', g', rfl, h2⟩ := SlcIn.useB (pre := [_]) hh.len hI hA (by simp; omega) (by simp)
      have hc' := h2.cells
      have h1' := h2.one
      obtain ⟨o, h4, h5⟩ := hK (v', g') (by simpa [hab] using h2)
      refine ⟨o, ?_, by simpa using h5⟩
      simp [OSet.enc] at h4
      simp [hc', h1', h4, hw, ql, qn]
    · rename_i y
      have hab : absentIn a.objects x = false := by simp [absentIn, hq]
      (simp only [hq] at hf; simp [OSet.enc] at hf)
      obtain ⟨o, h4, h5⟩ := hK (v, g ++ [.arr 0 7 [y.enc]]) (by simpa [hab] using hI.grow _)
      refine ⟨o, ?_, h5⟩
      simp [OSet.enc] at h4
      simp [OSet.enc, c17L3, hi, hx, hf, hw, hc, h1, h4, qa, qb, ql, qn, qm, qo]
  · intro c K hI
    have qb := hh.b
    simp [OSet.enc] at qb
    refine ⟨_, ?_, c.1, c.2, by simpa using hI, rfl⟩
    simp [OSet.enc, c17L3, qb]
theorem runion_ok (a b : OSet) (ha : a.ok) (hb : b.ok) (ws : Nat) (h : Avm.H) : callL cfg ws 17 [a.enc, b.enc] h = some (.tup [(unionS a b).1.enc, .int .i64 (unionS a b).2], h) := by
  refine callL_fn rfl rfl ?_
  obtain ⟨r, l1, hr⟩ := runion_outer a b ha hb h
  simp [OSet.enc] at l1
  unfold unionS
  cases hcf : b.objects.any (conf a.objects)
  · rw [hcf] at hr
    unfold RPost at hr
    simp only [Bool.false_eq_true, if_false] at hr ⊢
    obtain ⟨g, rfl⟩ := hr
    have hh : Has a b h (h ++ ([.arr 0 3 [a.enc], .arr 0 3 [b.enc], .arr 0 3 [.agg [.str ⟨#[]⟩, .esl, .bool false]]] ++ g)) := ⟨by simp, fun X => by simp, fun X => by simp⟩
    have ql := hh.len
    have qn := Nat.not_lt.2 hh.len
    obtain ⟨v0, g0, hI0, l2⟩ := runion_loop2 a b ha h _ hh
    obtain ⟨v2, g2, hI, l3⟩ := runion_loop3 a b ha hb h _ hh v0 g0 hI0
    have hc0 := hI0.cells
    have h10 := hI0.one
    simp [OSet.enc] at l2 l3
    generalize hout : a.objects ++ b.objects.filter (absentIn a.objects) = out at hI
    by_cases h40 : out.length > 40
    · rcases hI.len with ⟨rfl, he⟩ | ⟨b', ver, rfl⟩
      · simp at he; subst he; simp at h40
      · have h41 : (40 : Int) < out.length := by omega
        simp at l3
        simp [OSet.enc, OSet.zero, F17, c17, l1, l2, l3, h40, h41]
    · have h41 : ¬ (40 : Int) < out.length := by omega
      rcases hI.len with ⟨rfl, he⟩ | ⟨b', ver, rfl⟩
      · simp at he; subst he
        simp [OSet.enc, F17, c17, l1, l2, l3]
      · simp at l3
        simp [OSet.enc, F17, c17, l1, l2, l3, h40, h41, -frz_osl]
        generalize hA : frz _ _ _ _ = r
        obtain ⟨g', rfl⟩ := SlcIn.frz_useB (h := h ++ ([.arr 0 3 [a.enc], .arr 0 3 [b.enc], .arr 0 3 [.agg [.str a.name, .osl b' ver 7 0 out.length, .bool (a.ext || b.ext)]]] ++ g)) (pre := [.arr 0 3 [.agg [.str a.name, .osl b' ver 7 0 out.length, .bool (a.ext || b.ext)]]]) (base := h.length) (by simp) (by simpa using hI) (by simpa [OSet.enc, -frz_osl] using hA) (by simp)
        simp
  · rw [hcf] at hr
    unfold RPost at hr
    simp only [if_true] at hr ⊢
    obtain ⟨g, rfl⟩ := hr
    simp [OSet.enc] at l1
    simp [OSet.enc, OSet.zero, F17, c17, l1]
end Go.Proofs.YtihhcghengjlgaaGreatDoor
