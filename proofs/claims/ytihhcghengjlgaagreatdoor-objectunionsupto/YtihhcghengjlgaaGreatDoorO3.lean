/- Comparing objects; copies of sets. -/
import Derived.Test.YtihhcghengjlgaaGreatDoorK
import Derived.Test.YtihhcghengjlgaaGreatDoorAvmGen
set_option linter.all false
set_option linter.all false
namespace Go.Proofs.YtihhcghengjlgaaGreatDoor
open Go Go.Avm
abbrev I1 (n : Int) : AV := .int .i64 n
structure Obj where
  code : Int
  name : ByteArray
  arg : ByteArray
  result : ByteArray
  errors : List Int
  linked : List Int
  cls : Int
def Obj.cells (o : Obj) : List AV := [.int .i64 o.code, .str o.name, .str o.arg, .str o.result, .isl (o.errors.map I1), .isl (o.linked.map I1), .int .i64 o.cls]
def Obj.enc (o : Obj) : AV := .agg o.cells
def objs (l : List Obj) : AV := .isl (l.map Obj.enc)
structure OSet where
  name : ByteArray
  objects : List Obj
  ext : Bool
def OSet.enc (s : OSet) : AV := .agg [.str s.name, .isl (s.objects.map Obj.enc), .bool s.ext]
@[simp] theorem enc_obj (o : Obj) : o.enc = .agg [.int .i64 o.code, .str o.name, .str o.arg, .str o.result, .isl (o.errors.map I1), .isl (o.linked.map I1), .int .i64 o.cls] := rfl
@[simp] theorem pureL_ints (l : List Int) : pureL (l.map I1) = true := by induction l <;> simp_all
@[simp] theorem pureL_ints' (l : List Int) : pureL (l.map fun n => AV.int .i64 n) = true := pureL_ints l
@[simp] theorem snapL_ints (h : Avm.H) (n : Nat) (l : List Int) : snapL (snap h n) (l.map I1) = some (l.map I1) := snapL_pure (by simp)
@[simp] theorem frzL_ints (base n : Nat) (l : List Int) (h : Avm.H) : frzL (frz base n) (l.map I1) h = some (l.map I1, h) := frzL_pure (by simp)
@[simp] theorem pureL_objs (l : List Obj) : pureL (l.map Obj.enc) = true := by induction l <;> simp_all
@[simp] theorem snapL_objs (h : Avm.H) (n : Nat) (l : List Obj) : snapL (snap h n) (l.map Obj.enc) = some (l.map Obj.enc) := snapL_pure (by simp)
@[simp] theorem frzL_objs (base n : Nat) (l : List Obj) (h : Avm.H) : frzL (frz base n) (l.map Obj.enc) h = some (l.map Obj.enc, h) := frzL_pure (by simp)
@[simp] theorem ones_ints (l : List Int) : ∀ a ∈ l, (I1 a).cells.length = 1 ∧ (I1 a).ones = true := fun a _ => by simp [I1]
theorem icopy_ok (l : List Int) (hl : l.length ≤ 1048576) (ws : Nat) (h : Avm.H) : callL cfg ws 23 [.isl (l.map I1)] h = some (.isl (l.map I1), h) := by
  refine callL_fn rfl rfl ?_
  have : l.length ≤ 4294967296 := by omega
  simp [F23, c23, bslP, appended, appI, this]
theorem iclone_ok (l : List Int) (hl : l.length ≤ 1048576) (ws : Nat) (h : Avm.H) : callL cfg ws 38 [.isl (l.map I1)] h = some (.osl h.length 0 1 0 l.length, h ++ [.arr 0 1 (l.map I1)]) := by
  refine callL_ext rfl ?_
  have : l.length ≤ lim := by unfold lim; omega
  simp [cloneX, this]
theorem own_ok (o : Obj) (h1 : o.errors.length ≤ 1048576) (h2 : o.linked.length ≤ 1048576) (ws : Nat) (h : Avm.H) : callL cfg ws 27 [o.enc] h = some (o.enc, h) := by
  refine callL_fn rfl rfl ?_
  have k1 := fun h => iclone_ok o.errors h1 h.length h
  have e1 := fun ws h => iclone_ok o.errors h1 ws h
  have e2 := fun ws h => iclone_ok o.linked h2 ws h
  simp [F27, c27, e1, e2]
theorem rown_ok (o : Obj) (h1 : o.errors.length ≤ 1048576) (h2 : o.linked.length ≤ 1048576) (ws : Nat) (h : Avm.H) : callL cfg ws 22 [o.enc] h = some (o.enc, h) := by
  refine callL_fn rfl rfl ?_
  have e1 := fun ws h => icopy_ok o.errors h1 ws h
  have e2 := fun ws h => icopy_ok o.linked h2 ws h
  simp [F22, c22, e1, e2]
end Go.Proofs.YtihhcghengjlgaaGreatDoor
namespace Go.Proofs.YtihhcghengjlgaaGreatDoor
open Go Go.Avm
def Obj.zero : Obj := ⟨0, ⟨#[]⟩, ⟨#[]⟩, ⟨#[]⟩, [], [], 0⟩
@[simp] theorem henc_obj (l : List Obj) : ∀ x ∈ l, (x.enc).cells.length = 7 ∧ ldc 7 true 0 x.enc.cells = some x.enc := fun x _ => by simp
def Obj.ok (o : Obj) : Prop := o.errors.length ≤ 1048576 ∧ o.linked.length ≤ 1048576
def OSet.ok (s : OSet) : Prop := s.objects.length ≤ 1048576 ∧ ∀ o ∈ s.objects, o.ok
theorem findf_ok (o : Obj) (code : Int) (ws : Nat) (h : Avm.H) : callL cfg ws 37 [o.enc, .iptr [.int .i64 code]] h = some (.bool (o.code == code), h) := by
  refine callL_fn rfl rfl ?_
  simp [F37, c37]
theorem namedf_ok (o : Obj) (name : ByteArray) (ws : Nat) (h : Avm.H) : callL cfg ws 26 [o.enc, .iptr [.str name]] h = some (.bool (o.name.toList == name.toList), h) := by
  refine callL_fn rfl rfl ?_
  simp [F26, c26]
theorem indexO_ok {g : FuncId} {p : Obj → Bool} {cap cap' : List AV} (l : List Obj) (hl : l.length ≤ 1048576) (hs : Still cfg g) (h : Avm.H) (hcap : snapL (snap h 7) cap = some cap') (hp : ∀ x ∈ l, ∀ ws h', callL cfg ws g (x.enc :: cap') h' = some (.bool (p x), h')) (ws : Nat) :
    callL cfg ws 25 [.isl (l.map Obj.enc), .clos g 0 cap] h = some (.int .i64 (idxOf p l), h) :=
  indexFunc_gen (sz := 7) (ag := true) rfl rfl hl (by simp) (henc_obj l) hs hcap (by simpa using hp) ws
theorem idxOf_cases {α : Type} (p : α → Bool) (l : List α) : (idxOf p l = -1 ∧ l.find? p = none) ∨ ∃ (j : Nat) (x : α), idxOf p l = j ∧ l[j]? = some x ∧ l.find? p = some x := by
  unfold idxOf
  cases hq : l.findIdx? p with
  | none =>
    left
    refine ⟨rfl, ?_⟩
    rw [List.findIdx?_eq_none_iff] at hq
    rw [List.find?_eq_none]
    intro x hx; simp [hq x hx]
  | some j =>
    right
    rw [List.findIdx?_eq_some_iff_getElem] at hq
    obtain ⟨hj, h1, h2⟩ := hq
    refine ⟨j, l[j], rfl, List.getElem?_eq_getElem hj, ?_⟩
    rw [List.find?_eq_some_iff_getElem]
    exact ⟨h1, j, hj, rfl, fun k hk => by simpa using h2 k hk⟩
theorem find_ok (s : OSet) (hs : s.ok) (code : Int) (ws : Nat) (h : Avm.H) : callL cfg ws 21 [s.enc, .int .i64 code] h = some (.tup [((s.objects.find? fun o => o.code == code).getD Obj.zero).enc, .bool (s.objects.find? fun o => o.code == code).isSome], h) := by
  refine callL_fn rfl rfl ?_
  have hix := fun ws h cap (hcap : snapL (snap h 7) cap = some [.iptr [.int .i64 code]]) => indexO_ok s.objects hs.1 (.inl rfl) h hcap (fun x _ ws h => findf_ok x code ws h) ws
  rcases idxOf_cases (fun o : Obj => o.code == code) s.objects with ⟨h1, h2⟩ | ⟨j, x, h1, h2, h3⟩
  · rw [h1] at hix
    simp [OSet.enc, F21, c21, hix, h2, Obj.zero]
  · rw [h1] at hix
    have hx := hs.2 x (List.mem_of_getElem? h2)
    have hown := own_ok x hx.1 hx.2
    simp at hown
    simp [OSet.enc, F21, c21, hix, h2, h3, hown]
theorem named_ok (s : OSet) (hs : s.ok) (name : ByteArray) (ws : Nat) (h : Avm.H) : callL cfg ws 12 [s.enc, .str name] h = some (.tup [((s.objects.find? fun o => o.name.toList == name.toList).getD Obj.zero).enc, .int .i64 (if (s.objects.find? fun o => o.name.toList == name.toList).isSome then 0 else 3)], h) := by
  refine callL_fn rfl rfl ?_
  have hix := fun ws h cap (hcap : snapL (snap h 7) cap = some [.iptr [.str name]]) => indexO_ok s.objects hs.1 (.inl rfl) h hcap (fun x _ ws h => namedf_ok x name ws h) ws
  rcases idxOf_cases (fun o : Obj => o.name.toList == name.toList) s.objects with ⟨h1, h2⟩ | ⟨j, x, h1, h2, h3⟩
  · rw [h1] at hix
    simp [OSet.enc, F12, c12, hix, h2, Obj.zero]
  · rw [h1] at hix
    have hx := hs.2 x (List.mem_of_getElem? h2)
    have hown := own_ok x hx.1 hx.2
    simp at hown
    simp [OSet.enc, F12, c12, hix, h2, h3, hown]
theorem Find_ok (s : OSet) (hs : s.ok) (code : Int) (ws : Nat) (h : Avm.H) : callL cfg ws 7 [s.enc, .int .i64 code] h = some (.tup [((s.objects.find? fun o => o.code == code).getD Obj.zero).enc, .int .i64 (if (s.objects.find? fun o => o.code == code).isSome then 0 else 3)], h) := by
  refine callL_fn rfl rfl ?_
  have hf := find_ok s hs code
  simp only [OSet.enc] at hf
  cases hq : s.objects.find? fun o => o.code == code <;> simp [hq] at hf <;> simp [OSet.enc, F7, c7, hf, Obj.zero]
/-- The reference's loops of finding. -/
theorem rfind_ok (s : OSet) (hs : s.ok) (code : Int) (ws : Nat) (h : Avm.H) : callL cfg ws 8 [s.enc, .int .i64 code] h = some (.tup [((s.objects.find? fun o => o.code == code).getD Obj.zero).enc, .int .i64 (if (s.objects.find? fun o => o.code == code).isSome then 0 else 3)], h) := by
  refine callL_fn rfl rfl ?_
  have hlp := loop_list (f := evC (callL cfg) roundsL cfg.pol h.length h.length c8L0) (keep := [1, 2, 4, 6]) s.objects
    (fun i => [(1, .int .i64 code), (2, .ptr h.length 0 3 0 0), (4, .ptr (h.length + 1) 0 7 0 0), (6, .int .i64 i)]) (fun _ => h ++ [.arr 0 3 [s.enc], .arr 0 7 [Obj.zero.enc]])
    (fun i r => match r.find? fun o => o.code == code with | some o => (.ret, [(4, .ptr (h.length + 1) 0 7 0 0), (5, .int .i64 0)], h ++ [.arr 0 3 [s.enc], .arr 0 7 [o.enc]]) | none => (.exit 0, [(1, .int .i64 code), (2, .ptr h.length 0 3 0 0), (4, .ptr (h.length + 1) 0 7 0 0), (6, .int .i64 s.objects.length)], h ++ [.arr 0 3 [s.enc], .arr 0 7 [Obj.zero.enc]])) ?_ ?_
  · cases hq : s.objects.find? fun o => o.code == code <;> simp [hq, OSet.enc, Obj.zero] at hlp <;> simp [OSet.enc, F8, c8, hlp, Obj.zero]
  · intro i x r hd hi hx K hK
    have hw := wrap_nat (n := i + 1) (by have := hs.1; omega)
    simp at hw
    have hxo := hs.2 x (by rw [← hx]; exact List.getElem_mem hi)
    have hown := rown_ok x hxo.1 hxo.2
    simp at hown
    rw [List.find?_cons]
    cases hv : x.code == code <;> simp at hv
    · cases hq : r.find? (fun o => o.code == code) <;> simp [hq, OSet.enc, Obj.zero] at hK <;> simp [c8L0, OSet.enc, Obj.zero, hi, hx, hv, hw, hK]
    · subst hv
      simp [c8L0, OSet.enc, Obj.zero, hi, hx, hown]
  · intro K
    simp [c8L0, OSet.enc]
theorem rnamed_ok (s : OSet) (hs : s.ok) (name : ByteArray) (ws : Nat) (h : Avm.H) : callL cfg ws 13 [s.enc, .str name] h = some (.tup [((s.objects.find? fun o => o.name.toList == name.toList).getD Obj.zero).enc, .int .i64 (if (s.objects.find? fun o => o.name.toList == name.toList).isSome then 0 else 3)], h) := by
  refine callL_fn rfl rfl ?_
  have hlp := loop_list (f := evC (callL cfg) roundsL cfg.pol h.length h.length c13L0) (keep := [1, 2, 4, 6]) s.objects
    (fun i => [(1, .str name), (2, .ptr h.length 0 3 0 0), (4, .ptr (h.length + 1) 0 7 0 0), (6, .int .i64 i)]) (fun _ => h ++ [.arr 0 3 [s.enc], .arr 0 7 [Obj.zero.enc]])
    (fun i r => match r.find? fun o => o.name.toList == name.toList with | some o => (.ret, [(4, .ptr (h.length + 1) 0 7 0 0), (5, .int .i64 0)], h ++ [.arr 0 3 [s.enc], .arr 0 7 [o.enc]]) | none => (.exit 0, [(1, .str name), (2, .ptr h.length 0 3 0 0), (4, .ptr (h.length + 1) 0 7 0 0), (6, .int .i64 s.objects.length)], h ++ [.arr 0 3 [s.enc], .arr 0 7 [Obj.zero.enc]])) ?_ ?_
  · cases hq : s.objects.find? fun o => o.name.toList == name.toList <;> simp [hq, OSet.enc, Obj.zero] at hlp <;> simp [OSet.enc, F13, c13, hlp, Obj.zero]
  · intro i x r hd hi hx K hK
    have hw := wrap_nat (n := i + 1) (by have := hs.1; omega)
    simp at hw
    have hxo := hs.2 x (by rw [← hx]; exact List.getElem_mem hi)
    have hown := rown_ok x hxo.1 hxo.2
    simp at hown
    rw [List.find?_cons]
    cases hv : x.name.toList == name.toList <;> simp at hv
    · cases hq : r.find? (fun o => o.name.toList == name.toList) <;> simp [hq, OSet.enc, Obj.zero] at hK <;> simp [c13L0, OSet.enc, Obj.zero, hi, hx, hv, hw, hK]
    · simp [c13L0, OSet.enc, Obj.zero, hi, hx, hv, hown]
  · intro K
    simp [c13L0, OSet.enc]
end Go.Proofs.YtihhcghengjlgaaGreatDoor
namespace Go.Proofs.YtihhcghengjlgaaGreatDoor
open Go Go.Avm
theorem to_ok (s : OSet) (hs : s.ok) (ws : Nat) (h : Avm.H) : callL cfg ws 9 [s.enc] h = some (s.enc, h) := by
  refine callL_fn rfl rfl ?_
  have hlp := loop_post (γ := AV × Avm.H) (f := evC (callL cfg) roundsL cfg.pol h.length h.length c9L0) (keep := [1, 2, 3, 4]) s.objects
      (fun i c => SlcIn h.length 3 7 c.2 ((s.objects.take i).map Obj.enc) c.1)
      (fun i _ => [(1, .ptr h.length 0 3 0 0), (2, .ptr (h.length + 1) 0 3 0 0), (3, .ptr (h.length + 2) 0 3 0 0), (4, .int .i64 i)])
      (fun _ g => h ++ ([.arr 0 3 [s.enc], .arr 0 3 [.agg [.str ⟨#[]⟩, .esl, .bool false]], .arr 0 3 [.agg [.str s.name, g.1, .bool s.ext]]] ++ g.2))
      (fun _ _ o => ∃ v2 g, SlcIn h.length 3 7 g (s.objects.map Obj.enc) v2 ∧ o = (.exit 0, [(1, .ptr h.length 0 3 0 0), (2, .ptr (h.length + 1) 0 3 0 0), (3, .ptr (h.length + 2) 0 3 0 0), (4, .int .i64 s.objects.length)],
        h ++ ([.arr 0 3 [s.enc], .arr 0 3 [.agg [.str ⟨#[]⟩, .esl, .bool false]], .arr 0 3 [.agg [.str s.name, v2, .bool s.ext]]] ++ g))) ?_ ?_ (.esl, []) (.inl ⟨rfl, rfl⟩)
  · obtain ⟨o, hl, v2, g, hI, ho⟩ := hlp
    subst ho
    simp [OSet.enc] at hl
    have hc := hI.cells
    have h1 := hI.one
    simp [OSet.enc, F9, c9, hl, hc, h1]
    generalize hA : frz _ _ v2 _ = r
    obtain ⟨g', rfl⟩ := SlcIn.frz_use (pre := [_, _, _]) hI hA (by simp)
    simp
  · intro i x r c hd hi hx hI K hK
    have hlen := hs.1
    have hw := wrap_nat (n := i + 1) (by omega)
    simp at hw
    have hxo := hs.2 x (by rw [← hx]; exact List.getElem_mem hi)
    have e1 := fun ws h => icopy_ok x.errors hxo.1 ws h
    have e2 := fun ws h => icopy_ok x.linked hxo.2 ws h
    have ht : s.objects.take (i + 1) = s.objects.take i ++ [x] := by rw [List.take_succ_eq_append_getElem hi, hx]
    rw [ht] at hK
    obtain ⟨v, g⟩ := c
    have hc := hI.cells
    have h1 := hI.one
    dsimp only at hc h1 hI
    have hal : aliveV (h ++ ([.arr 0 3 [s.enc], .arr 0 3 [.agg [.str ⟨#[]⟩, .esl, .bool false]], .arr 0 3 [.agg [.str s.name, v, .bool s.ext]]] ++ g)) (.ptr (h.length + 2) 0 3 0 0) = true := by simp
    simp [-Prod.exists, OSet.enc, c9L0, hi, hx, e1, e2, hw, bslP, appended, hc, h1]
    generalize hA : appI _ _ _ _ _ _ = r
    obtain ⟨v', g', rfl, h2⟩ := SlcIn.use (pre := [_, _, _]) hI hA (by simp; omega) (by simp)
    have hc' := h2.cells
    have h1' := h2.one
    obtain ⟨o, h4, h5⟩ := hK (v', g') (by simpa using h2)
    refine ⟨o, ?_, h5⟩
    simp [OSet.enc] at h4
    simp [hc', h1', h4, hw]
  · intro c K hI
    refine ⟨_, ?_, c.1, c.2, by simpa using hI, rfl⟩
    simp [OSet.enc, c9L0]
theorem to1_ok (o : Obj) (ho : o.ok) (b ws : Nat) (h : Avm.H) (hb : h[b]? = some (.arr 0 7 [o.enc])) : callL cfg ws 9 [.agg [.str ⟨#[]⟩, .osl b 0 7 0 1, .bool false]] h = some (.agg [.str ⟨#[]⟩, .isl [o.enc], .bool false], h) := by
  refine callL_fn rfl rfl ?_
  have hbx : ∀ X : Avm.H, (h ++ X)[b]? = some (.arr 0 7 [o.enc]) := fun X => by rw [List.getElem?_append_left (List.getElem?_eq_some_iff.1 hb).1]; exact hb
  have e1 := fun ws h => icopy_ok o.errors ho.1 ws h
  have e2 := fun ws h => icopy_ok o.linked ho.2 ws h
  have hw := wrap_nat (n := 1) (by omega)
  simp at hw
  have l1 : roundsL (evC (callL cfg) roundsL cfg.pol h.length h.length c9L0) [1, 2, 3, 4] [(1, .ptr h.length 0 3 0 0), (2, .ptr (h.length + 1) 0 3 0 0), (3, .ptr (h.length + 2) 0 3 0 0), (4, .int .i64 1)] (h ++ [.arr 0 3 [.agg [.str ⟨#[]⟩, .osl b 0 7 0 1, .bool false]], .arr 0 3 [.agg [.str ⟨#[]⟩, .esl, .bool false]], .arr 0 3 [.agg [.str ⟨#[]⟩, .osl (h.length + 5) 0 7 0 1, .bool false]], .arr 0 7 [o.enc], .arr 0 7 [o.enc], .arr 0 7 [o.enc]]) =
      some (.exit 0, [(1, .ptr h.length 0 3 0 0), (2, .ptr (h.length + 1) 0 3 0 0), (3, .ptr (h.length + 2) 0 3 0 0), (4, .int .i64 1)], h ++ [.arr 0 3 [.agg [.str ⟨#[]⟩, .osl b 0 7 0 1, .bool false]], .arr 0 3 [.agg [.str ⟨#[]⟩, .esl, .bool false]], .arr 0 3 [.agg [.str ⟨#[]⟩, .osl (h.length + 5) 0 7 0 1, .bool false]], .arr 0 7 [o.enc], .arr 0 7 [o.enc], .arr 0 7 [o.enc]]) :=
    roundsL_step (by simp [c9L0])
  have l0 : roundsL (evC (callL cfg) roundsL cfg.pol h.length h.length c9L0) [1, 2, 3, 4] [(1, .ptr h.length 0 3 0 0), (2, .ptr (h.length + 1) 0 3 0 0), (3, .ptr (h.length + 2) 0 3 0 0), (4, .int .i64 0)] (h ++ [.arr 0 3 [.agg [.str ⟨#[]⟩, .osl b 0 7 0 1, .bool false]], .arr 0 3 [.agg [.str ⟨#[]⟩, .esl, .bool false]], .arr 0 3 [.agg [.str ⟨#[]⟩, .esl, .bool false]]]) =
      some (.exit 0, [(1, .ptr h.length 0 3 0 0), (2, .ptr (h.length + 1) 0 3 0 0), (3, .ptr (h.length + 2) 0 3 0 0), (4, .int .i64 1)], h ++ [.arr 0 3 [.agg [.str ⟨#[]⟩, .osl b 0 7 0 1, .bool false]], .arr 0 3 [.agg [.str ⟨#[]⟩, .esl, .bool false]], .arr 0 3 [.agg [.str ⟨#[]⟩, .osl (h.length + 5) 0 7 0 1, .bool false]], .arr 0 7 [o.enc], .arr 0 7 [o.enc], .arr 0 7 [o.enc]]) :=
    roundsL_k fun K hK => by simp at l1; simp [c9L0, hbx, e1, e2, hw, bslP, appended, appI]; rw [hK, l1]
  simp at l0
  simp [F9, c9, l0]
theorem of_ok (o : Obj) (ho : o.ok) (ws : Nat) (h : Avm.H) : callL cfg ws 11 [o.enc] h = some (o.enc, h) := by
  refine callL_fn rfl rfl ?_
  have ht := fun ws h b hb => to1_ok o ho b ws h hb
  simp at ht
  simp [F11, c11, bslP, ht]
theorem ints_ok (l m : List Int) (hlen : l.length ≤ 1048576) (ws : Nat) (h : Avm.H) : callL cfg ws 24 [.isl (l.map I1), .isl (m.map I1)] h = some (.bool (eqL (· == ·) l m), h) := by
  refine callL_fn rfl rfl ?_
  by_cases hn : l.length = m.length
  · have hlp := loop_list (f := evC (callL cfg) roundsL cfg.pol h.length h.length c24L0) (keep := [0, 1, 5]) l (fun i => [(0, .isl (l.map I1)), (1, .isl (m.map I1)), (5, .int .i64 i)]) (fun _ => h)
      (fun i r => if eqL (· == ·) r (m.drop i) = true then (.exit 0, [(0, .isl (l.map I1)), (1, .isl (m.map I1)), (5, .int .i64 l.length)], h) else (.ret, [(4, .bool false)], h)) ?_ ?_
    · simp only [List.drop_zero] at hlp
      cases hq : eqL (· == ·) l m <;> simp [hq] at hlp <;> simp [F24, c24, hn, hlp]
    · intro i x r hd hi hx K hK
      have hw := wrap_nat (n := i + 1) (by omega)
      simp at hw
      have him : i < m.length := by omega
      have hdm : m.drop i = m[i] :: m.drop (i + 1) := List.drop_eq_getElem_cons him
      rw [hdm, eqL]
      obtain ⟨y, hy⟩ : ∃ y, m[i] = y := ⟨_, rfl⟩
      by_cases hv : x = y
      · simp at hK
        simp [c24L0, hi, hx, him, hy, hv, hw, hK]
      · simp [c24L0, hi, hx, him, hy, hv]
    · intro K
      have : m.drop l.length = [] := by rw [hn]; simp
      rw [this]
      simp [c24L0, eqL]
  · have hq : eqL (· == ·) l m = false := by
      cases hq : eqL (· == ·) l m with
      | false => rfl
      | true => exact absurd (eqL_len hq) hn
    have hn2 : ¬ (l.length : Int) = m.length := by omega
    rw [hq]
    simp [F24, c24, hn2]
theorem equalI_ok (l m : List Int) (hlen : l.length ≤ 1048576) (ws : Nat) (h : Avm.H) : callL cfg ws 42 [.isl (l.map I1), .isl (m.map I1)] h = some (.bool (eqL (· == ·) l m), h) := by
  refine callL_fn rfl rfl ?_
  by_cases hn : l.length = m.length
  · have hlp := loop_list (f := evC (callL cfg) roundsL cfg.pol h.length h.length c42L0) (keep := [0, 1, 12, 13]) l (fun i => [(0, .isl (l.map I1)), (1, .isl (m.map I1)), (12, .int .i64 l.length), (13, .int .i64 i)]) (fun _ => h)
      (fun i r => if eqL (· == ·) r (m.drop i) = true then (.exit 0, [(0, .isl (l.map I1)), (1, .isl (m.map I1)), (12, .int .i64 l.length), (13, .int .i64 l.length)], h) else (.ret, [(4, .bool false)], h)) ?_ ?_
    · simp only [List.drop_zero] at hlp
      cases hq : eqL (· == ·) l m <;> simp [hq] at hlp <;> simp [F42, c42, hn] <;> simp [← hn, hlp]
    · intro i x r hd hi hx K hK
      have hw := wrap_nat (n := i + 1) (by omega)
      simp at hw
      have him : i < m.length := by omega
      have hdm : m.drop i = m[i] :: m.drop (i + 1) := List.drop_eq_getElem_cons him
      rw [hdm, eqL]
      obtain ⟨y, hy⟩ : ∃ y, m[i] = y := ⟨_, rfl⟩
      by_cases hv : x = y
      · simp at hK
        simp [c42L0, hi, hx, him, hy, hv, hw, hK]
      · simp [c42L0, hi, hx, him, hy, hv]
    · intro K
      have : m.drop l.length = [] := by rw [hn]; simp
      rw [this]
      simp [c42L0, eqL]
  · have hq : eqL (· == ·) l m = false := by
      cases hq : eqL (· == ·) l m with
      | false => rfl
      | true => exact absurd (eqL_len hq) hn
    have hn2 : ¬ (l.length : Int) = m.length := by omega
    rw [hq]
    simp [F42, c42, hn2]
def Obj.same (a b : Obj) : Bool := decide (a.code = b.code) && (decide (a.name.toList = b.name.toList) && (decide (a.arg.toList = b.arg.toList) && (decide (a.result.toList = b.result.toList) && (decide (a.cls = b.cls) && (eqL (· == ·) a.errors b.errors && eqL (· == ·) a.linked b.linked)))))
theorem same_ok (a b : Obj) (ha : a.ok) (ws : Nat) (h : Avm.H) : callL cfg ws 31 [a.enc, b.enc] h = some (.bool (a.same b), h) := by
  refine callL_fn rfl rfl ?_
  have e1 := fun ws h => equalI_ok a.errors b.errors ha.1 ws h
  have e2 := fun ws h => equalI_ok a.linked b.linked ha.2 ws h
  simp [F31, c31, e1, e2, Obj.same, Bool.and_assoc]
theorem rsame_ok (a b : Obj) (ha : a.ok) (ws : Nat) (h : Avm.H) : callL cfg ws 10 [a.enc, b.enc] h = some (.bool (a.same b), h) := by
  refine callL_fn rfl rfl ?_
  have e1 := fun ws h => ints_ok a.errors b.errors ha.1 ws h
  have e2 := fun ws h => ints_ok a.linked b.linked ha.2 ws h
  simp [F10, c10, e1, e2, Obj.same, Bool.and_assoc]
theorem eqL_refl (l : List Int) : eqL (· == ·) l l = true := by induction l <;> simp_all [eqL]
theorem same_refl (a : Obj) : a.same a = true := by simp [Obj.same, eqL_refl]
end Go.Proofs.YtihhcghengjlgaaGreatDoor
