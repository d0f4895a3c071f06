/- Unions and differences of sets. -/
import Derived.Test.YtihhcghengjlgaaGreatDoorO3
set_option linter.all false
set_option linter.all false
namespace Go.Proofs.YtihhcghengjlgaaGreatDoor
open Go Go.Avm
def OSet.zero : OSet := ⟨⟨#[]⟩, [], false⟩
def conf1 (x o : Obj) : Bool := (decide (x.code = o.code) || decide (x.name.toList = o.name.toList)) && !(x.same o)
def conf (a : List Obj) (o : Obj) : Bool := a.any fun x => conf1 x o
def absentIn (a : List Obj) (o : Obj) : Bool := !(a.find? fun x => x.code == o.code).isSome
def unionS (a b : OSet) : OSet × Int :=
  if b.objects.any (conf a.objects) then (OSet.zero, 7) else
    if (a.objects ++ b.objects.filter (absentIn a.objects)).length > 40 then (OSet.zero, 2) else (⟨a.name, a.objects ++ b.objects.filter (absentIn a.objects), a.ext || b.ext⟩, 0)
def exceptS (a b : OSet) : OSet × Int :=
  if (a.objects.filter (absentIn b.objects)).length > 40 then (OSet.zero, 2) else (⟨a.name, a.objects.filter (absentIn b.objects), a.ext⟩, 0)
theorem unionf_ok (x o : Obj) (hx : x.ok) (ws : Nat) (h : Avm.H) : callL cfg ws 30 [x.enc, .iptr o.cells] h = some (.bool (conf1 x o), h) := by
  refine callL_fn rfl rfl ?_
  have e1 := fun ws h => same_ok x o hx ws h
  simp at e1
  simp [F30, c30, Obj.cells, e1, conf1, Bool.or_and_distrib_right]
theorem containsO_ok {g : FuncId} {p : Obj → Bool} {cap cap' : List AV} (l : List Obj) (hl : l.length ≤ 1048576) (hs : Still cfg g) (h : Avm.H) (hcap : snapL (snap h 7) cap = some cap') (hcp : pureL cap' = true) (hp : ∀ x ∈ l, ∀ ws h', callL cfg ws g (x.enc :: cap') h' = some (.bool (p x), h')) (ws : Nat) :
    callL cfg ws 29 [.isl (l.map Obj.enc), .clos g 0 cap] h = some (.bool (l.any p), h) :=
  containsFunc_gen (K := 25) (sz := 7) (ag := true) rfl rfl rfl rfl hl (by simp) (henc_obj l) hs hcap hcp (by simpa using hp) ws
theorem except_ok (a b : OSet) (ha : a.ok) (hb : b.ok) (ws : Nat) (h : Avm.H) : callL cfg ws 18 [a.enc, b.enc] h = some (.tup [(exceptS a b).1.enc, .int .i64 (exceptS a b).2], h) := by
  refine callL_fn rfl rfl ?_
  have hlp := loop_post (γ := AV × Avm.H) (f := evC (callL cfg) roundsL cfg.pol h.length h.length c18L0) (keep := [3, 4, 6, 17, 18, 19]) a.objects
      (fun i c => SlcIn h.length 4 7 c.2 (((a.objects.take i).filter (absentIn b.objects)).map Obj.enc) c.1)
      (fun i _ => [(3, .ptr (h.length + 1) 0 3 0 0), (4, .ptr (h.length + 2) 0 3 0 0), (6, .ptr (h.length + 3) 0 3 0 0), (17, .isl (a.objects.map Obj.enc)), (18, .int .i64 a.objects.length), (19, .int .i64 i)])
      (fun _ g => h ++ ([.arr 0 3 [a.enc], .arr 0 3 [b.enc], .arr 0 3 [.agg [.str ⟨#[]⟩, .esl, .bool false]], .arr 0 3 [.agg [.str a.name, g.1, .bool a.ext]]] ++ g.2))
      (fun _ _ o => ∃ v2 g, SlcIn h.length 4 7 g ((a.objects.filter (absentIn b.objects)).map Obj.enc) v2 ∧ o = (.exit 0, [(3, .ptr (h.length + 1) 0 3 0 0), (4, .ptr (h.length + 2) 0 3 0 0), (6, .ptr (h.length + 3) 0 3 0 0), (17, .isl (a.objects.map Obj.enc)), (18, .int .i64 a.objects.length), (19, .int .i64 a.objects.length)],
        h ++ ([.arr 0 3 [a.enc], .arr 0 3 [b.enc], .arr 0 3 [.agg [.str ⟨#[]⟩, .esl, .bool false]], .arr 0 3 [.agg [.str a.name, v2, .bool a.ext]]] ++ g))) ?_ ?_ (.esl, []) (.inl ⟨rfl, rfl⟩)
  · obtain ⟨o, hl, v2, g, hI, ho⟩ := hlp
    subst ho
    simp [OSet.enc] at hl
    have hc := hI.cells
    have h1 := hI.one
    generalize hout : a.objects.filter (absentIn b.objects) = out at hI
    unfold exceptS
    rw [hout]
    by_cases h40 : out.length > 40
    · rcases hI.len with ⟨rfl, he⟩ | ⟨b', ver, rfl⟩
      · simp at he; subst he; simp at h40
      · have h41 : (40 : Int) < out.length := by omega
        simp [OSet.enc, OSet.zero, F18, c18, hl, h40, h41]
    · have h41 : ¬ (40 : Int) < out.length := by omega
      rcases hI.len with ⟨rfl, he⟩ | ⟨b', ver, rfl⟩
      · simp at he; subst he
        simp [OSet.enc, F18, c18, hl]
      · simp at hl
        simp [OSet.enc, F18, c18, hl, h40, h41, -frz_osl]
        generalize hA : frz _ _ _ _ = r
        obtain ⟨g', rfl⟩ := SlcIn.frz_use (pre := [_, _, _, _]) hI (by simpa using hA) (by simp)
        simp
  · intro i x r c hd hi hx hI K hK
    have hlen := ha.1
    have hw := wrap_nat (n := i + 1) (by omega)
    simp at hw
    have hxo := ha.2 x (by rw [← hx]; exact List.getElem_mem hi)
    have hf := find_ok b hb x.code
    have hown := own_ok x hxo.1 hxo.2
    simp [OSet.enc] at hf hown
    have ht : a.objects.take (i + 1) = a.objects.take i ++ [x] := by rw [List.take_succ_eq_append_getElem hi, hx]
    have hle : ((a.objects.take i).filter (absentIn b.objects)).length ≤ 1048576 := Nat.le_trans (List.length_filter_le _ _) (by simp; omega)
    rw [ht, List.filter_append] at hK
    obtain ⟨v, g⟩ := c
    have hc := hI.cells
    have h1 := hI.one
    dsimp only at hc h1 hI
    cases hq : b.objects.find? fun o => o.code == x.code
    · have hab : absentIn b.objects x = true := by simp [absentIn, hq]
      simp [hq, Obj.zero] at hf
      simp [-Prod.exists, OSet.enc, c18L0, hi, hx, hf, hown, hw, bslP, appended, hc, h1]
      generalize hA : appI _ _ _ _ _ _ = r
      obtain ⟨v', g', rfl, h2⟩ := SlcIn.use (pre := [_, _, _, _]) hI hA (by simp; omega) (by simp)
      have hc' := h2.cells
      have h1' := h2.one
      obtain ⟨o, h4, h5⟩ := hK (v', g') (by simpa [hab] using h2)
      refine ⟨o, ?_, h5⟩
      simp [OSet.enc] at h4
      simp [hc', h1', h4, hw]
    · rename_i y
      have hab : absentIn b.objects x = false := by simp [absentIn, hq]
      simp [hq] at hf
      obtain ⟨o, h4, h5⟩ := hK (v, g ++ [.arr 0 7 [x.enc], .arr 0 7 [y.enc]]) (by simpa [hab] using hI.grow _)
      refine ⟨o, ?_, h5⟩
      simp [OSet.enc] at h4
      simp [OSet.enc, c18L0, hi, hx, hf, hw, hc, h1, h4]
  · intro c K hI
    refine ⟨_, ?_, c.1, c.2, by simpa using hI, rfl⟩
    simp [OSet.enc, c18L0]
end Go.Proofs.YtihhcghengjlgaaGreatDoor
