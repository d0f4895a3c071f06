/- The law of unions, as the machine reckons it. -/
import Derived.Test.YtihhcghengjlgaaGreatDoorO7
set_option linter.all false
namespace Go.Proofs.YtihhcghengjlgaaGreatDoor
open Go Go.Avm
theorem find1_ok (nm : ByteArray) (e : Bool) (o0 : Obj) (q : Nat) (ho : o0.ok) (code : Int) (ws : Nat) (h : Avm.H) (hq : h[q]? = some (.arr 0 7 [o0.enc])) : callL cfg ws 21 [.agg [.str nm, .osl q 0 7 0 1, .bool e], .int .i64 code] h = some (.tup [(([o0].find? fun o => o.code == code).getD Obj.zero).enc, .bool ([o0].find? fun o => o.code == code).isSome], h) := by
  refine callL_fn rfl rfl ?_
  have hbx : ∀ X : Avm.H, (h ++ X)[q]? = some (.arr 0 7 [o0.enc]) := fun X => by rw [List.getElem?_append_left (List.getElem?_eq_some_iff.1 hq).1]; exact hq
  have hix := fun ws X cap (hcap : snapL (snap (h ++ X) 7) cap = some [.iptr [.int .i64 code]]) => (callL_snap (cfg := cfg) (f := 25) (F := F25) (ws := ws) (h := h ++ X) (args := [.osl q 0 7 0 1, .clos 37 0 cap]) (args' := [.isl ([o0].map Obj.enc), .clos 37 0 cap]) rfl rfl rfl (by simp [deep, hbx])).trans
    (indexO_ok [o0] (by simp) (.inl rfl) (h ++ X) hcap (fun x _ ws h => findf_ok x code ws h) ws)
  have hown := own_ok o0 ho.1 ho.2
  simp at hown
  by_cases hc : o0.code = code
  · have h1 : idxOf (fun o : Obj => o.code == code) [o0] = 0 := by simp [idxOf, List.findIdx?_cons, hc]
    have h2 : [o0].find? (fun o => o.code == code) = some o0 := by simp [hc]
    rw [h1] at hix
    rw [h2]
    simp [F21, c21, hix, hbx, hown]
  · have h1 : idxOf (fun o : Obj => o.code == code) [o0] = -1 := by simp [idxOf, List.findIdx?_cons, hc]
    have h2 : [o0].find? (fun o => o.code == code) = none := by simp [hc]
    rw [h1] at hix
    rw [h2]
    simp [F21, c21, hix, Obj.zero]
theorem except1_ok (a : OSet) (nm : ByteArray) (e : Bool) (o0 : Obj) (q : Nat) (ha : a.ok) (ho : o0.ok) (ws : Nat) (h : Avm.H) (hq0 : h[q]? = some (.arr 0 7 [o0.enc])) : callL cfg ws 18 [a.enc, (.agg [.str nm, .osl q 0 7 0 1, .bool e])] h = some (.tup [(exceptS a ⟨nm, [o0], e⟩).1.enc, .int .i64 (exceptS a ⟨nm, [o0], e⟩).2], h) := by
  refine callL_fn rfl rfl ?_
  have hlp := loop_post (γ := AV × Avm.H) (f := evC (callL cfg) roundsL cfg.pol h.length h.length c18L0) (keep := [3, 4, 6, 17, 18, 19]) a.objects
      (fun i c => SlcIn h.length 4 7 c.2 (((a.objects.take i).filter (absentIn [o0])).map Obj.enc) c.1)
      (fun i _ => [(3, .ptr (h.length + 1) 0 3 0 0), (4, .ptr (h.length + 2) 0 3 0 0), (6, .ptr (h.length + 3) 0 3 0 0), (17, .isl (a.objects.map Obj.enc)), (18, .int .i64 a.objects.length), (19, .int .i64 i)])
      (fun _ g => h ++ ([.arr 0 3 [a.enc], .arr 0 3 [.agg [.str nm, .osl q 0 7 0 1, .bool e]], .arr 0 3 [.agg [.str ⟨#[]⟩, .esl, .bool false]], .arr 0 3 [.agg [.str a.name, g.1, .bool a.ext]]] ++ g.2))
      (fun _ _ o => ∃ v2 g, SlcIn h.length 4 7 g ((a.objects.filter (absentIn [o0])).map Obj.enc) v2 ∧ o = (.exit 0, [(3, .ptr (h.length + 1) 0 3 0 0), (4, .ptr (h.length + 2) 0 3 0 0), (6, .ptr (h.length + 3) 0 3 0 0), (17, .isl (a.objects.map Obj.enc)), (18, .int .i64 a.objects.length), (19, .int .i64 a.objects.length)],
        h ++ ([.arr 0 3 [a.enc], .arr 0 3 [.agg [.str nm, .osl q 0 7 0 1, .bool e]], .arr 0 3 [.agg [.str ⟨#[]⟩, .esl, .bool false]], .arr 0 3 [.agg [.str a.name, v2, .bool a.ext]]] ++ g))) ?_ ?_ (.esl, []) (.inl ⟨rfl, rfl⟩)
  · obtain ⟨o, hl, v2, g, hI, ho⟩ := hlp
    subst ho
    simp [OSet.enc] at hl
    have hc := hI.cells
    have h1 := hI.one
    generalize hout : a.objects.filter (absentIn [o0]) = out at hI
    unfold exceptS
    rw [hout]
    by_cases h40 : out.length > 40
    · rcases hI.len with ⟨rfl, he⟩ | ⟨b', ver, rfl⟩
      · simp at he; subst he; simp at h40
      · have h41 : (40 : Int) < out.length := by omega
        simp [OSet.enc, OSet.zero, F18, c18, hl, h40, h41]
    · have h41 : ¬ (40 : Int) < out.length := by omega
      rcases hI.len with ⟨rfl, he⟩ | ⟨b', ver, rfl⟩
      · simp at he; subst he
        simp [OSet.enc, F18, c18, hl]
      · simp at hl
        simp [OSet.enc, F18, c18, hl, h40, h41, -frz_osl]
        generalize hA : frz _ _ _ _ = r
        obtain ⟨g', rfl⟩ := SlcIn.frz_use (pre := [_, _, _, _]) hI (by simpa using hA) (by simp)
        simp
  · intro i x r c hd hi hx hI K hK
    have hlen := ha.1
    have hw := wrap_nat (n := i + 1) (by omega)
    simp at hw
    have hxo := ha.2 x (by rw [← hx]; exact List.getElem_mem hi)
    have hf := fun ws X => find1_ok nm e o0 q ho x.code ws (h ++ X) (by rw [List.getElem?_append_left (List.getElem?_eq_some_iff.1 hq0).1]; exact hq0)
    have hown := own_ok x hxo.1 hxo.2
    simp at hown
    have ht : a.objects.take (i + 1) = a.objects.take i ++ [x] := by rw [List.take_succ_eq_append_getElem hi, hx]
    have hle : ((a.objects.take i).filter (absentIn [o0])).length ≤ 1048576 := Nat.le_trans (List.length_filter_le _ _) (by simp; omega)
    rw [ht, List.filter_append] at hK
    obtain ⟨v, g⟩ := c
    have hc := hI.cells
    have h1 := hI.one
    dsimp only at hc h1 hI
    cases hq : [o0].find? fun o => o.code == x.code
    · have hab : absentIn [o0] x = true := by simp [absentIn, hq]
      simp only [hq] at hf
      simp [Obj.zero] at hf
      simp [-Prod.exists, OSet.enc, c18L0, hi, hx, hf, hown, hw, bslP, appended, hc, h1]
      generalize hA : appI _ _ _ _ _ _ = r
      obtain ⟨v', g', rfl, h2⟩ := SlcIn.use (pre := [_, _, _, _]) hI hA (by simp; omega) (by simp)
      have hc' := h2.cells
      have h1' := h2.one
      obtain ⟨o, h4, h5⟩ := hK (v', g') (by simpa [hab] using h2)
      refine ⟨o, ?_, h5⟩
      simp [OSet.enc] at h4
      simp [hc', h1', h4, hw]
    · rename_i y
      have hab : absentIn [o0] x = false := by simp [absentIn, hq]
      simp only [hq] at hf
      simp at hf
      obtain ⟨o, h4, h5⟩ := hK (v, g ++ [.arr 0 7 [x.enc], .arr 0 7 [y.enc]]) (by simpa [hab] using hI.grow _)
      refine ⟨o, ?_, h5⟩
      simp [OSet.enc] at h4
      simp [OSet.enc, c18L0, hi, hx, hf, hw, hc, h1, h4]
  · intro c K hI
    refine ⟨_, ?_, c.1, c.2, by simpa using hI, rfl⟩
    simp [OSet.enc, c18L0]
/-- Two objects that may not stand in one set. -/
def clash (x y : Obj) : Bool := decide (x.code = y.code) || decide (x.name.toList = y.name.toList)
def Apart (l : List Obj) (i : Nat) : Prop := ∀ p, p < i → ∀ r, r < p → ∀ x y, l[p]? = some x → l[r]? = some y → clash x y = false
set_option maxRecDepth 100000 in
theorem sane1 (ws : Nat) (A : ABlock) : callN cfg 100 ws 14 [] [A] = some (.bool true, [A]) := by kernel_rfl
set_option maxRecDepth 100000 in
theorem sane6 (ws : Nat) (A B C D E F : ABlock) : callN cfg 100 ws 14 [] [A, B, C, D, E, F] = some (.bool true, [A, B, C, D, E, F]) := by kernel_rfl
set_option maxRecDepth 100000 in
theorem check1 (ws : Nat) (A : ABlock) : callN cfg 100 ws 20 [.agg [.str ⟨#[77]⟩, .isl []], .agg [.str ⟨#[83]⟩, .isl [], .bool false]] [A] = some (.int .i64 0, [A]) := by kernel_rfl
theorem uinner (a : OSet) (ha : a.ok) (code : Int) (i : Nat) (hi : i < a.objects.length) : ∃ o, roundsL (evC (callL cfg) roundsL cfg.pol 0 0 c6L0) [1, 2, 5, 6] [(1, .int .i64 code), (2, .ptr 0 0 3 0 0), (5, .int .i64 i), (6, .int .i64 (0 : Nat))] [.arr 0 3 [a.enc]] = some o ∧
    (o = (.ret, [(4, .bool true)], [.arr 0 3 [a.enc]]) ∨ ((∀ r, r < i → ∀ y, a.objects[r]? = some y → clash a.objects[i] y = false) ∧ o = (.exit 2, [(1, .int .i64 code), (2, .ptr 0 0 3 0 0), (5, .int .i64 i), (6, .int .i64 i)], [.arr 0 3 [a.enc]]))) := by
  have hlp := loop_post (γ := Unit) (f := evC (callL cfg) roundsL cfg.pol 0 0 c6L0) (keep := [1, 2, 5, 6]) (a.objects.take i)
      (fun j _ => ∀ r, r < j → ∀ y, a.objects[r]? = some y → clash a.objects[i] y = false)
      (fun j _ => [(1, .int .i64 code), (2, .ptr 0 0 3 0 0), (5, .int .i64 i), (6, .int .i64 j)]) (fun _ _ => [.arr 0 3 [a.enc]])
      (fun _ _ o => o = (.ret, [(4, .bool true)], [.arr 0 3 [a.enc]]) ∨ ((∀ r, r < i → ∀ y, a.objects[r]? = some y → clash a.objects[i] y = false) ∧ o = (.exit 2, [(1, .int .i64 code), (2, .ptr 0 0 3 0 0), (5, .int .i64 i), (6, .int .i64 i)], [.arr 0 3 [a.enc]]))) ?_ ?_ () (fun r hr => absurd hr (by omega))
  · exact hlp
  · intro j y r c hd hj hy hI K hK
    have hji : j < i := by simp at hj; omega
    have hlen := ha.1
    have hw := wrap_nat (n := j + 1) (by omega)
    simp at hw
    have hy' : a.objects[j]? = some y := by rw [List.getElem_take] at hy; rw [List.getElem?_eq_getElem (by omega), hy]
    obtain ⟨x, hx⟩ : ∃ x, a.objects[i] = x := ⟨_, rfl⟩
    have hx' : a.objects[i]? = some x := by rw [List.getElem?_eq_getElem hi, hx]
    cases hcl : clash x y
    · obtain ⟨o, h4, h5⟩ := hK () (fun r hr z hz => by
        rcases Nat.lt_or_ge r j with h | h
        · exact hI r h z hz
        · obtain rfl : r = j := by omega
          rw [hy'] at hz; cases hz; first | exact hcl | (rw [hx]; exact hcl))
      refine ⟨o, ?_, h5⟩
      simp [OSet.enc] at h4
      simp [clash] at hcl
      simp [OSet.enc, c6L0, hji, hx', hy', hcl, hw, h4]
    · refine ⟨_, ?_, .inl rfl⟩
      simp only [clash] at hcl
      have hs := callN_L (cfg := cfg) 100 _ _ _ _ _ (sane1 0 (.arr 0 3 [a.enc]))
      simp [OSet.enc] at hs
      cases q1 : decide (x.code = y.code) <;> simp [q1] at hcl <;> simp at q1 <;> simp [OSet.enc, c6L0, hji, hx', hy', hcl, q1, hs]
  · intro c K hI
    have hl : (a.objects.take i).length = i := by simp; omega
    refine ⟨_, ?_, .inr ⟨fun r hr => hI r (by omega), rfl⟩⟩
    simp [OSet.enc, c6L0, hl]
theorem uouter (a : OSet) (ha : a.ok) (code : Int) : ∃ o, roundsL (evC (callL cfg) roundsL cfg.pol 0 0 c6L1) [1, 2, 5] [(1, .int .i64 code), (2, .ptr 0 0 3 0 0), (5, .int .i64 (0 : Nat))] [.arr 0 3 [a.enc]] = some o ∧
    (o = (.ret, [(4, .bool true)], [.arr 0 3 [a.enc]]) ∨ (Apart a.objects a.objects.length ∧ o = (.exit 0, [(1, .int .i64 code), (2, .ptr 0 0 3 0 0), (5, .int .i64 a.objects.length)], [.arr 0 3 [a.enc]]))) := by
  refine loop_post (γ := Unit) (f := evC (callL cfg) roundsL cfg.pol 0 0 c6L1) (keep := [1, 2, 5]) a.objects
      (fun j _ => Apart a.objects j)
      (fun j _ => [(1, .int .i64 code), (2, .ptr 0 0 3 0 0), (5, .int .i64 j)]) (fun _ _ => [.arr 0 3 [a.enc]])
      (fun _ _ o => o = (.ret, [(4, .bool true)], [.arr 0 3 [a.enc]]) ∨ (Apart a.objects a.objects.length ∧ o = (.exit 0, [(1, .int .i64 code), (2, .ptr 0 0 3 0 0), (5, .int .i64 a.objects.length)], [.arr 0 3 [a.enc]]))) ?_ ?_ () (fun p hp => absurd hp (by omega))
  · intro j x r c hd hj hx hI K hK
    have hlen := ha.1
    have hw := wrap_nat (n := j + 1) (by omega)
    simp at hw
    obtain ⟨o, h1, h2⟩ := uinner a ha code j hj
    simp [OSet.enc] at h1
    rcases h2 with rfl | ⟨h3, rfl⟩
    · refine ⟨_, ?_, .inl rfl⟩
      simp [OSet.enc, c6L1, hj, h1]
    · obtain ⟨o, h4, h5⟩ := hK () (fun p hp r hr x y hx2 hy => by
        rcases Nat.lt_or_ge p j with h | h
        · exact hI p h r hr x y hx2 hy
        · obtain rfl : p = j := by omega
          rw [List.getElem?_eq_getElem hj] at hx2; cases hx2; exact h3 r hr y hy)
      refine ⟨o, ?_, h5⟩
      simp [OSet.enc] at h4
      simp [OSet.enc, c6L1, hj, h1, hw, h4]
  · intro c K hI
    refine ⟨_, ?_, .inr ⟨hI, rfl⟩⟩
    simp [OSet.enc, c6L1]
/-! ### The plain law -/
theorem clash_symm (x y : Obj) : clash x y = clash y x := by simp [clash, eq_comm]
theorem apart_eq {l : List Obj} (h : Apart l l.length) {x y : Obj} (hx : x ∈ l) (hy : y ∈ l) (hc : clash x y = true) : x = y := by
  obtain ⟨p, hp, rfl⟩ := List.getElem_of_mem hx
  obtain ⟨r, hr, rfl⟩ := List.getElem_of_mem hy
  rcases Nat.lt_trichotomy p r with h1 | h1 | h1
  · have := h r hr p h1 _ _ (List.getElem?_eq_getElem hr) (List.getElem?_eq_getElem hp)
    rw [clash_symm, this] at hc; cases hc
  · subst h1; rfl
  · have := h p hp r h1 _ _ (List.getElem?_eq_getElem hp) (List.getElem?_eq_getElem hr)
    rw [this] at hc; cases hc
theorem conf_none {l m : List Obj} (h : Apart l l.length) (hm : ∀ x ∈ m, x ∈ l) {o : Obj} (ho : o ∈ l) : conf m o = false := by
  unfold conf
  rw [List.any_eq_false]
  intro x hx
  cases hc : clash x o with
  | false => simp only [clash] at hc; simp [conf1, hc]
  | true =>
    have := apart_eq h (hm x hx) ho hc
    subst this
    simp [conf1, same_refl]
theorem absentIn_iff (l : List Obj) (o : Obj) : absentIn l o = true ↔ ∀ x ∈ l, x.code ≠ o.code := by
  simp [absentIn]
theorem filter_self (l : List Obj) : l.filter (absentIn l) = [] := by
  rw [List.filter_eq_nil_iff]
  intro x hx
  rw [absentIn_iff]
  exact fun h => h x hx rfl
theorem union_self {a : OSet} (h : Apart a.objects a.objects.length) (hl : a.objects.length ≤ 40) : unionS a a = (a, 0) := by
  unfold unionS
  rw [if_neg (by
    rw [List.any_eq_true]
    rintro ⟨o, ho, hc⟩
    rw [conf_none h (fun x hx => hx) ho] at hc; cases hc)]
  rw [filter_self, List.append_nil, if_neg (by omega)]
  simp
theorem except_self {a : OSet} : exceptS a a = (⟨a.name, [], a.ext⟩, 0) := by
  unfold exceptS
  rw [filter_self, if_neg (by simp)]
theorem except_code {a b : OSet} (hl : a.objects.length ≤ 40) : exceptS a b = (⟨a.name, a.objects.filter (absentIn b.objects), a.ext⟩, 0) := by
  unfold exceptS
  rw [if_neg]
  have := List.length_filter_le (absentIn b.objects) a.objects
  omega
theorem union_less {a : OSet} (h : Apart a.objects a.objects.length) (hl : a.objects.length ≤ 40) (o0 : Obj) :
    let less := a.objects.filter (absentIn [o0])
    ∃ l, unionS ⟨a.name, less, a.ext⟩ a = (⟨a.name, l, a.ext⟩, 0) ∧ l.length = a.objects.length := by
  intro less
  have hm : ∀ x ∈ less, x ∈ a.objects := fun x hx => (List.mem_filter.1 hx).1
  have e1 : a.objects.filter (absentIn less) = a.objects.filter (fun x => !absentIn [o0] x) := by
    apply List.filter_congr
    intro x hx
    cases hq : absentIn [o0] x with
    | true =>
      have : x ∈ less := List.mem_filter.2 ⟨hx, hq⟩
      cases ha : absentIn less x with
      | false => rfl
      | true => exact absurd rfl ((absentIn_iff _ _).1 ha x this)
    | false =>
      rw [show (!false) = true from rfl, absentIn_iff]
      intro y hy hc
      have hy2 := (List.mem_filter.1 hy).2
      rw [absentIn_iff] at hy2
      have : absentIn [o0] x = true := (absentIn_iff _ _).2 fun z hz => by have := hy2 z hz; rwa [← hc]
      rw [this] at hq; cases hq
  have e2 : (less ++ a.objects.filter (absentIn less)).length = a.objects.length := by
    rw [e1, List.length_append]
    have : ∀ l : List Obj, (l.filter (absentIn [o0])).length + (l.filter fun x => !absentIn [o0] x).length = l.length := fun l => by
      induction l with
      | nil => rfl
      | cons x l ih => cases hx : absentIn [o0] x <;> simp [hx] <;> omega
    exact this _
  refine ⟨less ++ a.objects.filter (absentIn less), ?_, e2⟩
  unfold unionS
  rw [if_neg (by
    rw [List.any_eq_true]
    rintro ⟨o, ho, hc⟩
    rw [conf_none h hm ho] at hc; cases hc)]
  rw [if_neg (by dsimp only; omega)]
  simp
theorem find_less (l : List Obj) (o0 : Obj) : (l.filter (absentIn [o0])).find? (fun o => o.code == o0.code) = none := by
  rw [List.find?_eq_none]
  intro x hx
  have := (absentIn_iff _ _).1 (List.mem_filter.1 hx).2 o0 (by simp)
  simpa using fun h => this h.symm
theorem objectUnions_ok (a : OSet) (ha : a.ok) (code : Int) : callL cfg 0 6 [a.enc, .int .i64 code] [] = some (.bool true, []) := by
  refine callL_fn rfl rfl ?_
  have hs1 := callN_L (cfg := cfg) 100 _ _ _ _ _ (sane1 0 (.arr 0 3 [a.enc]))
  have hc1 := callN_L (cfg := cfg) 100 _ _ _ _ _ (check1 0 (.arr 0 3 [a.enc]))
  simp [OSet.enc] at hs1 hc1
  by_cases h40 : (40 : Int) < a.objects.length
  · simp [OSet.enc, F6, c6, hs1, hc1, h40]
  · obtain ⟨o, h1, h2⟩ := uouter a ha code
    simp [OSet.enc] at h1
    rcases h2 with rfl | ⟨hap, rfl⟩
    · simp [OSet.enc] at h1
      simp [OSet.enc, F6, c6, hc1, h40, h1]
    · have hl : a.objects.length ≤ 40 := by omega
      have o0k : (⟨code, ⟨#[]⟩, ⟨#[]⟩, ⟨#[]⟩, [], [], 0⟩ : Obj).ok := ⟨by simp, by simp⟩
      generalize ho0 : (⟨code, ⟨#[]⟩, ⟨#[]⟩, ⟨#[]⟩, [], [], 0⟩ : Obj) = o0 at o0k
      have hco : o0.code = code := by rw [← ho0]
      have u1 := fun h => union_ok a a ha ha 0 h
      rw [union_self hap hl] at u1
      have u2 := fun h => except_ok a a ha ha 0 h
      rw [except_self] at u2
      have u3 := fun (q : Nat) h hq => except1_ok a ⟨#[66]⟩ false o0 q ha o0k 0 h hq
      rw [except_code hl] at u3
      have hlok : (⟨a.name, a.objects.filter (absentIn [o0]), a.ext⟩ : OSet).ok := ⟨by have := List.length_filter_le (absentIn [o0]) a.objects; dsimp only; omega, fun x hx => ha.2 x (List.mem_filter.1 hx).1⟩
      have u4 := fun h => Find_ok ⟨a.name, a.objects.filter (absentIn [o0]), a.ext⟩ hlok code 0 h
      have hfl := find_less a.objects o0
      rw [hco] at hfl
      simp only [hfl] at u4
      obtain ⟨l, hul, hll⟩ := union_less hap hl o0
      have u5 := fun h => union_ok ⟨a.name, a.objects.filter (absentIn [o0]), a.ext⟩ a hlok ha 0 h
      rw [hul] at u5
      generalize a.objects.filter (absentIn [o0]) = less at u3 u4 u5
      have u6 := fun h => to_ok a ha 0 h
      have u7 := fun h => sameSet_ok a ha 0 h
      have hs6 := fun A B C D E F => callN_L (cfg := cfg) 100 _ _ _ _ _ (sane6 0 A B C D E F)
      subst ho0
      simp [OSet.enc, Obj.zero] at u1 u2 u3 u4 u5 u6 u7
      simp [OSet.enc, F6, c6, hc1, h40, h1, u1, u2, u3, u4, u5, u6, u7, hs6, hll, bslP]
end Go.Proofs.YtihhcghengjlgaaGreatDoor
