/- The laws of finding and of sets, as the machine reckons them. -/
import Derived.Test.YtihhcghengjlgaaGreatDoorO6
set_option linter.all false
set_option linter.all false
namespace Go.Proofs.YtihhcghengjlgaaGreatDoor
open Go Go.Avm
theorem sameSet_ok (s : OSet) (hs : s.ok) (ws : Nat) (h : Avm.H) : callL cfg ws 16 [s.enc, s.enc] h = some (.bool true, h) := by
  refine callL_fn rfl rfl ?_
  have hlp := loop_list (f := evC (callL cfg) roundsL cfg.pol h.length h.length c16L0) (keep := [2, 3, 5]) s.objects (fun i => [(2, .ptr h.length 0 3 0 0), (3, .ptr (h.length + 1) 0 3 0 0), (5, .int .i64 i)]) (fun _ => h ++ [.arr 0 3 [s.enc], .arr 0 3 [s.enc]])
      (fun _ _ => (.exit 0, [(2, .ptr h.length 0 3 0 0), (3, .ptr (h.length + 1) 0 3 0 0), (5, .int .i64 s.objects.length)], h ++ [.arr 0 3 [s.enc], .arr 0 3 [s.enc]])) ?_ ?_
  · simp [OSet.enc] at hlp
    simp [OSet.enc, F16, c16, hlp]
  · intro i x r hd hi hx K hK
    have hlen := hs.1
    have hw := wrap_nat (n := i + 1) (by omega)
    simp at hw
    have hxo := hs.2 x (by rw [← hx]; exact List.getElem_mem hi)
    have hsm := rsame_ok x x hxo
    rw [same_refl] at hsm
    simp at hsm
    simp [OSet.enc] at hK
    simp [OSet.enc, c16L0, hi, hx, hsm, hw, hK]
  · intro K
    simp [OSet.enc, c16L0]
theorem zero_ok : Obj.zero.ok := ⟨by simp [Obj.zero], by simp [Obj.zero]⟩
theorem found_ok {s : OSet} (hs : s.ok) (p : Obj → Bool) : ((s.objects.find? p).getD Obj.zero).ok := by
  cases hq : s.objects.find? p with
  | none => exact zero_ok
  | some x => exact hs.2 x (List.mem_of_find?_eq_some hq)
set_option maxRecDepth 100000 in
theorem sane3 (ws : Nat) (A B C : ABlock) : callN cfg 100 ws 14 [] [A, B, C] = some (.bool true, [A, B, C]) := by kernel_rfl
set_option maxRecDepth 100000 in
theorem sane4 (ws : Nat) (A B C D : ABlock) : callN cfg 100 ws 14 [] [A, B, C, D] = some (.bool true, [A, B, C, D]) := by kernel_rfl
theorem objectFinds_ok (s : OSet) (hs : s.ok) (code : Int) (name : ByteArray) : callL cfg 0 3 [s.enc, .int .i64 code, .str name] [] = some (.bool true, []) := by
  refine callL_fn rfl rfl ?_
  have h1 := fun ws h => Find_ok s hs code ws h
  have h2 := fun ws h => rfind_ok s hs code ws h
  have h3 := fun ws h => named_ok s hs name ws h
  have h4 := fun ws h => rnamed_ok s hs name ws h
  have h5 := fun ws h => to_ok s hs ws h
  have f1 := found_ok hs fun o => o.code == code
  have f2 := found_ok hs fun o => o.name.toList == name.toList
  generalize ((s.objects.find? fun o => o.code == code).getD Obj.zero) = x at h1 h2 f1
  generalize ((s.objects.find? fun o => o.name.toList == name.toList).getD Obj.zero) = y at h3 h4 f2
  generalize (if (s.objects.find? fun o => o.code == code).isSome then (0 : Int) else 3) = e at h1 h2
  generalize (if (s.objects.find? fun o => o.name.toList == name.toList).isSome then (0 : Int) else 3) = f at h3 h4
  have o1 := of_ok x f1
  have o2 := of_ok y f2
  have m1 := rsame_ok x x f1
  have m2 := rsame_ok y y f2
  rw [same_refl] at m1 m2
  simp [OSet.enc] at h1 h2 h3 h4 h5 o1 o2 m1 m2
  simp [OSet.enc, F3, c3, h1, h2, h3, h4, h5, o1, o2, m1, m2, callN_L 100 _ _ _ _ _ (sane3 _ _ _ _)]
theorem union_isok (a b : OSet) (ha : a.ok) (hb : b.ok) : (unionS a b).1.ok := by
  unfold unionS
  split
  · exact ⟨by simp [OSet.zero], by simp [OSet.zero]⟩
  · split
    · exact ⟨by simp [OSet.zero], by simp [OSet.zero]⟩
    · rename_i h1 h2
      refine ⟨by dsimp only; omega, fun o ho => ?_⟩
      rcases List.mem_append.1 ho with h | h
      · exact ha.2 o h
      · exact hb.2 o (List.mem_filter.1 h).1
theorem except_isok (a b : OSet) (ha : a.ok) : (exceptS a b).1.ok := by
  unfold exceptS
  split
  · exact ⟨by simp [OSet.zero], by simp [OSet.zero]⟩
  · rename_i h2
    exact ⟨by dsimp only; omega, fun o ho => ha.2 o (List.mem_filter.1 ho).1⟩
theorem objectSets_ok (a b : OSet) (ha : a.ok) (hb : b.ok) : callL cfg 0 5 [a.enc, b.enc] [] = some (.bool true, []) := by
  refine callL_fn rfl rfl ?_
  have h1 := fun ws h => union_ok a b ha hb ws h
  have h2 := fun ws h => runion_ok a b ha hb ws h
  have h3 := fun ws h => except_ok a b ha hb ws h
  have h4 := fun ws h => rexcept_ok a b ha hb ws h
  have h5 := fun ws h => to_ok a ha ws h
  have h6 := fun ws h => to_ok b hb ws h
  have f1 := union_isok a b ha hb
  have f2 := except_isok a b ha
  generalize (unionS a b).1 = x at h1 h2 f1
  generalize (exceptS a b).1 = y at h3 h4 f2
  generalize (unionS a b).2 = e at h1 h2
  generalize (exceptS a b).2 = f at h3 h4
  have o1 := to_ok x f1
  have o2 := to_ok y f2
  have m1 := sameSet_ok x f1
  have m2 := sameSet_ok y f2
  simp [OSet.enc] at h1 h2 h3 h4 h5 h6 o1 o2 m1 m2
  simp [OSet.enc, F5, c5, h1, h2, h3, h4, h5, h6, o1, o2, m1, m2, callN_L 100 _ _ _ _ _ (sane4 _ _ _ _ _)]
end Go.Proofs.YtihhcghengjlgaaGreatDoor
