/- slices.Compact of what the call sorted: how long it is; no name twice. -/
import Derived.Test.YtdefghfdccmebaaN
import Derived.Ground.NamesProg
import Derived.Shelf.Slices.In.CompactS
import Derived.Lib.OwnBridge
import Derived.Lib.RowBridge
import Derived.Sort.EveryDepth
set_option linter.all false
namespace Go.Proofs.Ytdefghfdccmebaa
open Go.RowKit Go.Maps Go.Sort Go.Shelf
theorem compact_in (n B : Nat) (ss : List (List UInt8)) (u : Value) (W : World) (hrow : W.ownsRow B 9 1 u ss.length (ss.map encStr)) (hz : ss.length ≤ 1048576) :
    CallsIn Fence.wide n Try.prog 44 #[u] W fun e w' => ∃ a cap, e = .returned (.slice a (Lib.compact ss).length cap) ∧ Below B W w' := by
  refine callsIn_wide.2 ?_
  by_cases hu : u = .slice none 0 0
  · subst hu
    have h0 : ss = [] := by
      have := hrow.1
      rcases hrow.2 with ⟨_, h⟩ | ⟨g, cap, cur, h, _⟩
      · exact List.eq_nil_of_length_eq_zero h
      · cases h
    subst h0
    refine (calls_of_every_depth fun D => AnyS.slices_Compact_string_empty_in Try.compact44 D none 0 W).mono ?_
    rintro e w' ⟨rfl, rfl⟩
    exact ⟨none, 0, rfl, Below.refl _ _⟩
  · obtain ⟨g, cap, rfl, hbg, hgl, hncap, hcm, hlen, hH⟩ := Lib.holds_of_ownsRow hrow hu
    refine (calls_of_every_depth fun D => AnyS.slices_Compact_string_in Try.compact44 D g 0 cap ss W hH (by omega) hncap).mono ?_
    rintro e w' ⟨rfl, q, rfl⟩
    exact ⟨_, _, rfl, Lib.below_putRow (Below.refl _ _) hbg⟩
theorem len_upTo {α : Type} [Inhabited α] [DecidableEq α] (d : Array α) : ∀ m, (Lib.compactUpTo d m).length ≤ m ∧ ((Lib.compactUpTo d m).length = m → ∀ j, j < m → Lib.keeps d j = true)
  | 0 => by simp [Lib.compactUpTo]
  | m + 1 => by
    obtain ⟨h1, h2⟩ := len_upTo d m
    rw [Lib.compactUpTo_succ]
    split
    · rename_i hk
      refine ⟨by simp; omega, fun e j hj => ?_⟩
      rcases Nat.lt_or_ge j m with h | h
      · exact h2 (by simp at e; omega) j h
      · have : j = m := by omega
        subst this; exact hk
    · refine ⟨by simp; omega, fun e => ?_⟩
      simp at e; omega
theorem adj_nodup : ∀ (l : List (List UInt8)), l.Pairwise (fun a b => decide (a ≤ b) = true) → (∀ i (h : i + 1 < l.length), l[i + 1] ≠ l[i]) → l.Nodup
  | [], _, _ => List.nodup_nil
  | [x], _, _ => by simp
  | x :: y :: r, hp, ha => by
    have hxy : y ≠ x := ha 0 (by simp)
    have hp2 := (List.pairwise_cons.1 hp).2
    rw [List.nodup_cons]
    refine ⟨fun hm => ?_, adj_nodup (y :: r) hp2 fun i h => ha (i + 1) (by simpa using h)⟩
    rcases List.mem_cons.1 hm with e | hm
    · exact hxy e.symm
    · have h1 := (List.pairwise_cons.1 hp2).1 x hm
      have h2 := (List.pairwise_cons.1 hp).1 y (by simp)
      simp only [decide_eq_true_eq] at h1 h2
      exact hxy (List.le_antisymm h1 h2)
theorem srt_pairwise (zs : List (List UInt8)) : (srt zs).Pairwise (fun a b => decide (a ≤ b) = true) :=
  List.pairwise_mergeSort (fun a b c h1 h2 => by simp only [decide_eq_true_eq] at *; exact List.le_trans h1 h2) (fun a b => by simp only [Bool.or_eq_true, decide_eq_true_eq]; exact List.le_total a b) zs
theorem bang {α : Type} [Inhabited α] (l : List α) (j : Nat) (h : j < l.length) : l.toArray[j]! = l[j] := by
  rw [getElem!_pos l.toArray j (by simpa using h)]; simp
/-- As many are left as there were, just where no name stands twice. -/
theorem compact_len (zs : List (List UInt8)) : (Lib.compact (srt zs)).length = zs.length ↔ zs.Nodup := by
  have hl : (srt zs).length = zs.length := List.length_mergeSort zs
  have hpm : (srt zs).Perm zs := List.mergeSort_perm _ _
  rw [← hpm.nodup_iff, ← hl]
  constructor
  · intro h
    refine adj_nodup _ (srt_pairwise zs) fun i hi => ?_
    have hk := (len_upTo (srt zs).toArray (srt zs).length).2 h (i + 1) hi
    simp only [Lib.keeps, decide_eq_true_eq] at hk
    rcases hk with hk | hk
    · omega
    · rw [bang _ _ hi, Nat.add_sub_cancel, bang _ _ (by omega)] at hk
      exact hk
  · intro h
    rw [Lib.compact_all]
    intro j hj
    simp only [Lib.keeps, decide_eq_true_eq]
    rcases Nat.eq_zero_or_pos j with h0 | h0
    · exact .inl h0
    · refine .inr ?_
      rw [bang _ _ hj, bang _ _ (by omega)]
      exact fun e => by
        have := (List.getElem_inj h).1 e
        omega
theorem compact_le (zs : List (List UInt8)) : (Lib.compact (srt zs)).length ≤ zs.length := by
  have hl : (srt zs).length = zs.length := List.length_mergeSort zs
  have := Lib.compact_length_le (srt zs)
  omega
end Go.Proofs.Ytdefghfdccmebaa
