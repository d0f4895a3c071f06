/- types.twice: does a text stand in a list twice? -/
import Derived.Test.YtihhcghengjlgaaGreatDoorSort
import Derived.Test.YtihhcghengjlgaaGreatDoorAvmClose
import Derived.Test.YtihhcghengjlgaaGreatDoorAvmExt
set_option linter.all false
set_option linter.all false
namespace Go.Proofs.YtihhcghengjlgaaGreatDoor
open Go.RowKit Go.Maps Go.Sort Go.Shelf Go.Avm
theorem cloneS_in (n B : Nat) (ss : List (List UInt8)) (u : Value) (W : World) (hrow : W.ownsRow B 9 1 u ss.length (ss.map encStr)) (hz : ss.length ≤ 1048576) :
    CallsIn Fence.wide n Tryz.prog 79 #[u] W fun e w' => ∃ u', e = .returned u' ∧ w'.ownsRow W.heap.size 9 1 u' ss.length (ss.map encStr) ∧ Below W.heap.size W w' := by
  refine callsIn_wide.2 ?_
  by_cases hu : u = .slice none 0 0
  · subst hu
    have h0 : ss = [] := by
      rcases hrow.2 with ⟨_, h⟩ | ⟨g, cap, cur, h, _⟩
      · exact List.eq_nil_of_length_eq_zero h
      · cases h
    subst h0
    refine (AnyE.slices_Clone_nil Tryz.layCs 0 0 W).mono ?_
    rintro e w' ⟨rfl, rfl⟩
    exact ⟨_, rfl, ⟨rfl, .inl ⟨rfl, rfl⟩⟩, Below.refl _ _⟩
  · obtain ⟨g, cap, rfl, hbg, hgl, hncap, hcm, hlen, hH⟩ := Lib.holds_of_ownsRow hrow hu
    have hc : ∀ (j : Nat) (u : Value), (ss.map encStr)[j]? = some u → W.cell? ⟨g, 0 + j, none⟩ = some u := fun j u hj => by
      rcases hrow.2 with ⟨h, _⟩ | ⟨g', cap', cur, h, _, hg', h1, _, h3, h4⟩
      · cases h
      · cases h
        have hj' : cur[j]? = some u := by
          rw [← h4, List.getElem?_take] at hj
          split at hj
          · simpa using hj
          · cases hj
        simp [World.cell?, hg', hj']
    obtain ⟨i0, hi, hz0, hz1, hz2⟩ := info_parts Tryz.layS.i26
    refine (AnyE.slices_Clone Tryz.layCs i0 (.string ⟨#[]⟩) 1 16 hi hz0 hz1 hz2 rfl (by decide) Tryz.sizeOf9 g 0 ss.length cap (ss.map encStr) W (by simp) (by unfold maxLen; omega) (by omega) hc (fun u hu => by
      obtain ⟨x, _, rfl⟩ := List.mem_map.1 hu; rfl)).mono ?_
    rintro e w' ⟨v', rfl, ho, _, hb⟩
    exact ⟨v', rfl, ho, hb⟩
set_option maxRecDepth 100000 in
set_option maxHeartbeats 4000000 in
theorem twice_calls (ns : List (List UInt8)) (v : Value) (W : World) (hv : StrsAt W v ns) (hz : ns.length ≤ 1048576) :
    Calls Tryz.prog 50 #[v] W fun e W' => e = .returned (.bool (!decide ns.Nodup)) ∧ Below W.heap.size W W' := by
  refine (callsIn_wide (n := 10)).1 ?_
  obtain ⟨ad, cap, hve⟩ := hv.slice
  have hS := sorted_in _ v W hv (by simpa using hz)
  have hl : (srt ns).length = ns.length := List.length_mergeSort ns
  subst hve
  have hK := fun (u : Value) (w1 : World) (h : w1.ownsRow W.heap.size 9 1 u (srt ns).length ((srt ns).map encStr)) => cloneS_in 9 W.heap.size (srt ns) u w1 h (by omega)
  have hC := fun (B : Nat) (u : Value) (w1 : World) (h : w1.ownsRow B 9 1 u (srt ns).length ((srt ns).map encStr)) => compact_in 9 B (srt ns) u w1 h (by omega)
  have hO : ∀ (u : Value) (w1 : World), w1.ownsRow W.heap.size 9 1 u (srt ns).length ((srt ns).map encStr) → ∃ a c, u = .slice a ns.length c := fun u w1 h => by
    rcases h.2 with ⟨rfl, h0⟩ | ⟨g, cap', cur, rfl, _⟩
    · exact ⟨none, 0, by rw [← hl, h0]⟩
    · exact ⟨_, _, by rw [hl]⟩
  have hcl := compact_len ns
  have hle := compact_le ns
  obtain ⟨q, hq⟩ : ∃ q, (Lib.compact (srt ns)).length = q := ⟨_, rfl⟩
  rw [hq] at hC hcl hle
  clear hv
  have hfa : Fence.wide.fn 77 := trivial
  have hfb : Fence.wide.fn 76 := trivial
  have hfc : Fence.wide.fn 78 := trivial
  have hfd : Fence.wide.fn 79 := trivial
  refine callsIn_of_wp Tryz.func50 rfl trivial ?_ rfl
  simp only [Tryz.ntmps50, List.size_toArray, List.length_cons, List.length_nil, Nat.reduceAdd, Nat.reduceSub, Array.replicate_succ, Array.replicate_zero, List.push_toArray, List.append_toArray, List.nil_append, List.cons_append]
  gi_wp2_with (first
    | (gi_at_call 77; refine (values_in 9 _ _ _ _).mono ?_; rintro e w' ⟨rfl, rfl⟩)
    | (gi_at_call 76; refine hS.mono ?_; rintro e w1 ⟨u, rfl, hrow, hnil, hb1⟩; obtain ⟨a1, c1, hu⟩ := hO _ _ hrow; rw [hu] at hrow; rw [hu])
    | (gi_at_call 79; refine (hK _ _ hrow).mono ?_; rintro e w2 ⟨u2, rfl, hrow2, hb2⟩)
    | (gi_at_call 78; refine (hC _ _ _ hrow2).mono ?_; rintro e w3 ⟨a3, cap3, rfl, hb3⟩))
  all_goals go_ret
  refine ⟨?_, hb1.trans ((hb2.trans hb3).mono hb1.size)⟩
  show Ending.returned (Value.bool (decide (q < ns.length))) = Ending.returned (Value.bool (!decide ns.Nodup))
  congr 2
  by_cases hn : ns.Nodup
  · have := hcl.2 hn
    simp [hn]; omega
  · have : q ≠ ns.length := fun e => hn (hcl.1 e)
    simp [hn]; omega
end Go.Proofs.YtihhcghengjlgaaGreatDoor
