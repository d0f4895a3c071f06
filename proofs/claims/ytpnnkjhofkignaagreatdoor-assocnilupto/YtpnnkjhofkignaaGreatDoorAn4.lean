/- assoc.names: what it answers. -/
import Derived.Test.YtpnnkjhofkignaaGreatDoorSort
import Derived.Test.YtpnnkjhofkignaaGreatDoorAn3
set_option linter.all false
namespace Go.Proofs.YtpnnkjhofkignaaGreatDoor
open Go.RowKit Go.Maps Go.Sort Go.Shelf Go.Avm
theorem rel_strs {W : World} {v : Value} {zs : List ByteArray} (hv : StrsAt W v (zs.map (·.data.toList))) : Rel (view 0 (fun _ _ => none) [] W) (fun _ _ => none) (.isl (zs.map .str)) v := by
  unfold Rel
  rcases hv with ⟨hz, a, cap, rfl⟩ | ⟨b, off, cap, rfl, hcap, hb, hc⟩
  · have : zs = [] := by simpa using hz
    subst this
    exact ⟨a, cap, by simp, by simp, .inl rfl⟩
  · refine ⟨some ⟨b, off, none⟩, cap, by simp, by simpa using hcap, .inr ⟨b, off, 1, rfl, RelE_iff.2 fun i x hx => ?_⟩⟩
    rw [List.getElem?_map] at hx
    cases hz : zs[i]? with
    | none => rw [hz] at hx; cases hx
    | some s =>
      rw [hz] at hx
      have hx : AV.str s = x := by simpa using hx
      subst hx
      have hi : i < zs.length := (List.getElem?_eq_some_iff.1 hz).1
      refine ⟨rfl, fun j y hj => ?_⟩
      match j, hj with
      | 0, hj =>
        have hy : AV.str s = y := by simpa [AV.cells] using hj
        subst hy
        refine ⟨.string s, ?_, by unfold Rel; rfl⟩
        have h1 := hc i (by simpa using hi)
        rw [List.getElem?_map, hz] at h1
        have h2 : encStr (((some s).map (·.data.toList)).getD []) = Value.string s := by simp [encStr]
        rw [h2] at h1
        simpa using start_reads W _ _ _ h1
theorem StrsAt.below {W W' : World} {v : Value} {zs : List (List UInt8)} (h : StrsAt W v zs) (hb : Below W.heap.size W W') : StrsAt W' v zs := by
  rcases h with h | ⟨b, off, cap, rfl, hcap, hlt, hc⟩
  · exact .inl h
  · exact .inr ⟨b, off, cap, rfl, hcap, Nat.lt_of_lt_of_le hlt hb.size, fun j hj => (hb.cell (p := ⟨b, off + j, none⟩) hlt).trans (hc j hj)⟩
theorem contains_in (n : Nat) (zs : List ByteArray) (v : Value) (W : World) (hv : StrsAt W v (zs.map (·.data.toList))) (hz : zs.length ≤ 1048576) :
    CallsIn Fence.wide n Tryz.prog 47 #[v, .func (.func 48) #[] #[]] W fun e w' => e = .returned (.bool (zs.any fun x => !isNameB x)) ∧ Below W.heap.size W w' := by
  refine callsIn_wide.2 ((callL_calls cfg0_ok Tryz.func47 (by decide +kernel) rfl (containsFunc_ok 0 zs [] hz) ?_).mono ?_)
  · unfold RelL
    refine ⟨v, [.func (.func 48) #[] #[]], rfl, rel_strs hv, ?_⟩
    unfold RelL
    refine ⟨_, [], rfl, ?_, by unfold RelL; rfl⟩
    unfold Rel
    exact ⟨#[], rfl, by unfold RelL; rfl⟩
  · rintro e W' ⟨u, V, β, rfl, hb, hr⟩
    unfold Rel at hr
    subst hr
    exact ⟨rfl, hb⟩
def distinct : List ByteArray → Bool
  | [] => true
  | x :: l => (l.all fun y => !(x.toList == y.toList)) && distinct l
def namesB (l : List ByteArray) (a b : Int) : Bool := decide (a ≤ l.length) && decide ((l.length : Int) ≤ b) && distinct l && l.all isNameB
theorem distinct_iff : ∀ (l : List ByteArray), distinct l = true ↔ (l.map (·.data.toList)).Nodup
  | [] => by simp [distinct]
  | x :: l => by
    simp only [distinct, Bool.and_eq_true, List.all_eq_true, Bool.not_eq_true', beq_eq_false_iff_ne, List.map_cons, List.nodup_cons, distinct_iff l, List.mem_map, not_exists, not_and, ByteArray.toList_eq]
    exact ⟨fun h => ⟨fun y hy e => h.1 y hy e.symm, h.2⟩, fun h => ⟨fun y hy e => h.1 y hy e.symm, h.2⟩⟩
set_option maxRecDepth 100000 in
set_option maxHeartbeats 4000000 in
/-- assoc.names. -/
theorem names_calls (zs : List ByteArray) (v : Value) (a b : Int) (W : World) (hv : StrsAt W v (zs.map (·.data.toList))) (hz : zs.length ≤ 1048576) :
    Calls Tryz.prog 37 #[v, .int .i64 a, .int .i64 b] W fun e W' => e = .returned (.bool (namesB zs a b)) ∧ Below W.heap.size W W' := by
  refine (callsIn_wide (n := 10)).1 ?_
  obtain ⟨ad, cap, hve⟩ := hv.slice
  have hS := sorted_in _ v W hv (by simpa using hz)
  have hlm : (zs.map (·.data.toList)).length = zs.length := by simp
  rw [hlm] at hve
  subst hve
  obtain ⟨ns, hns⟩ : ∃ ns, zs.map (·.data.toList) = ns := ⟨_, rfl⟩
  have hC := fun (u : Value) (w1 : World) (h : w1.ownsRow W.heap.size 9 1 u (srt ns).length ((srt ns).map encStr)) => compact_in 9 W.heap.size (srt ns) u w1 h (by rw [List.length_mergeSort, ← hns]; simpa using hz)
  have hF := fun (w1 : World) (h : Below W.heap.size W w1) => contains_in 9 zs _ w1 (hv.below h) hz
  have hcl := compact_len ns
  have hdi := distinct_iff zs
  rw [hns] at hS hdi
  have hnl : ns.length = zs.length := by rw [← hns]; simp
  have hle : (Lib.compact (srt ns)).length ≤ 1048576 := by have := compact_le ns; omega
  obtain ⟨q, hq⟩ : ∃ q, (Lib.compact (srt ns)).length = q := ⟨_, rfl⟩
  rw [hq] at hC hcl hle
  clear hv
  have hf43 : Fence.wide.fn 45 := trivial
  have hf42 : Fence.wide.fn 44 := trivial
  have hf44 : Fence.wide.fn 46 := trivial
  have hf45 : Fence.wide.fn 47 := trivial
  refine callsIn_of_wp Tryz.func37 rfl trivial ?_ rfl
  simp only [Tryz.ntmps37, List.size_toArray, List.length_cons, List.length_nil, Nat.reduceAdd, Nat.reduceSub, Array.replicate_succ, Array.replicate_zero, List.push_toArray, List.append_toArray, List.nil_append, List.cons_append]
  gi_wp2_with (first
    | (gi_at_call 45; refine (values_in 9 _ _ _ _).mono ?_; rintro e w' ⟨rfl, rfl⟩)
    | (gi_at_call 44; refine hS.mono ?_; rintro e w1 ⟨u, rfl, hrow, hnil, hb1⟩)
    | (gi_at_call 46; refine (hC _ _ hrow).mono ?_; rintro e w2 ⟨a2, cap2, rfl, hb2⟩)
    | (gi_at_call 47; refine (hF _ (hb1.trans hb2)).mono ?_; rintro e w3 ⟨rfl, hb3⟩))
  all_goals go_ret
  all_goals refine ⟨?_, by first | exact (hb1.trans hb2).trans (hb3.mono (by have := (hb1.trans hb2).size; omega)) | exact hb1.trans hb2 | exact hb1⟩
  all_goals congr 2
  · show Value.bool (!zs.any fun x => !isNameB x) = Value.bool (namesB zs a b)
    refine congrArg _ ?_
    have hn : ns.Nodup := hcl.1 (by omega)
    have hd : distinct zs = true := hdi.2 hn
    have ha : decide (a ≤ (zs.length : Int)) = true := by simpa
    have hb : decide ((zs.length : Int) ≤ b) = true := by simpa
    rw [namesB, ha, hb, hd]
    simp [List.not_any_eq_all_not]
  · show Value.bool false = Value.bool (namesB zs a b)
    refine congrArg _ ?_
    have hd : distinct zs = false := by
      cases h : distinct zs with
      | false => rfl
      | true => have := hcl.2 (hdi.1 h); omega
    rw [namesB, hd]; simp
  · show Value.bool false = Value.bool (namesB zs a b)
    refine congrArg _ ?_
    have hb : decide ((zs.length : Int) ≤ b) = false := by simp; omega
    rw [namesB, hb]; simp
  · show Value.bool false = Value.bool (namesB zs a b)
    refine congrArg _ ?_
    have ha : decide (a ≤ (zs.length : Int)) = false := by simp; omega
    rw [namesB, ha]; simp
end Go.Proofs.YtpnnkjhofkignaaGreatDoor
