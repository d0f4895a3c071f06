/- slices.Values' iterator, and what is called with it. -/
import Derived.Test.YtdefghfdccmebaaShelf
import Derived.Test.YtdefghfdccmebaaAvmSorted
import Derived.Ground.GgzProg
import Derived.Ground.SlgmProg
import Derived.RangeFuncBox
import Derived.RangeFuncLeaves
import Derived.Shelf.Abstract
import Derived.WalkKit
import Derived.OwnWalkIn
import Derived.TacticsInMore
import Derived.LoopNIn
import Derived.LoopIn
set_option linter.all false
namespace Go.Proofs.Ytdefghfdccmebaa
open Go.RowKit Go.Maps Go.Sort Go.Shelf
attribute [local go_sem] Oper.semAt_some
set_option maxRecDepth 100000 in
set_option maxHeartbeats 2000000 in
theorem values1_gives (F : Fence) (n : Nat) (h53 : F.fn 53) (hro : F.round = none) (hn : 1 ≤ n) (Bs b off cap : Nat) (zs : List (List UInt8)) (w : World) (hreach : zs.length * 16 ≤ 140737488351232) (hBs : w.cell? ⟨Bs, 0, none⟩ = some (.slice (some ⟨b, off, none⟩) zs.length cap)) (hB : Bs < w.heap.size) (hb : b < w.heap.size)
    (hc : ∀ j, j < zs.length → w.cell? ⟨b, off + j, none⟩ = some (encStr (zs[j]?.getD []))) : SeqGivesB F n Try.prog 53 #[.pointer (some ⟨Bs, 0, none⟩)] encStr (fun ss => ss = zs) zs.length w := by
  intro l J W hW hJ hJB hY h0
  have hBsW := (hW.cell (p := ⟨Bs, 0, none⟩) hB).trans hBs
  show CallsIn F n Try.prog 53 #[.func (.yield l) #[] #[], .pointer (some ⟨Bs, 0, none⟩)] W _
  refine callsIn_of_wp Try.func53 rfl h53 ?_ hro
  simp only [Try.ntmps53, List.size_toArray, List.length_cons, List.length_nil, Nat.reduceAdd, Nat.reduceSub, Array.replicate_succ, Array.replicate_zero, List.push_toArray, List.append_toArray, List.nil_append, List.cons_append]
  gi_wp2
  gi_loopw [7] (fun i wr => ∃ k : Nat, k ≤ zs.length ∧ i = .int .i64 k ∧ J (zs.take k) wr)
    (fun i _ => zs.length - (intOf i).toNat)
  case atStart => exact ⟨0, Nat.zero_le _, rfl, by simpa using h0⟩
  case round =>
    obtain ⟨k, hk, rfl, hJs⟩ := hrel
    have hbe := hJB _ _ hJs
    have hcx : k < zs.length → wr.cell? ⟨b, off + k, none⟩ = some (encStr (zs[k]?.getD [])) := fun h => (hbe.cell (p := ⟨b, off + k, none⟩) hb).trans (hc k h)
    by_cases hlt : k < zs.length
    · have hcx' := hcx hlt
      have hnext : ∀ x, zs[k]?.getD [] = x → zs.take (k + 1) = zs.take k ++ [x] := fun x hx => by
        have hx' : zs[k] = x := by simpa [hlt] using hx
        rw [List.take_succ_eq_append_getElem hlt, hx']
      clear hcx
      obtain ⟨x, hx⟩ : ∃ x, zs[k]?.getD [] = x := ⟨_, rfl⟩
      rw [hx] at hcx'
      have hnext := hnext x hx
      clear hx
      obtain ⟨fn, tmps, assign, body, hy, hR⟩ := hY _ x wr hJs (by simp; omega)
      gi_wp2
      refine hR.mono ?_
      rintro e W3 ⟨rfl, hJ3, hk3⟩
      gi_wp2
      go_roundw
      case rel => exact ⟨k + 1, by omega, by simp, by rw [hnext]; exact hJ3⟩
      case measure => simp [intOf]; omega
    · obtain rfl : k = zs.length := by omega
      gi_wp2
      go_end0
      exact ⟨⟨_, rfl⟩, _, rfl, by simpa using hJs⟩
set_option maxRecDepth 100000 in
set_option maxHeartbeats 2000000 in
theorem values0_gives (F : Fence) (n : Nat) (h53 : F.fn 53) (hro : F.round = none) (hn : 1 ≤ n) (Bs cap : Nat) (a : Option Addr) (w : World) (hBs : w.cell? ⟨Bs, 0, none⟩ = some (.slice a 0 cap)) (hB : Bs < w.heap.size) : SeqGivesB F n Try.prog 53 #[.pointer (some ⟨Bs, 0, none⟩)] encStr (fun ss => ss = []) 0 w := by
  intro l J W hW hJ hJB hY h0
  have hBsW := (hW.cell (p := ⟨Bs, 0, none⟩) hB).trans hBs
  show CallsIn F n Try.prog 53 #[.func (.yield l) #[] #[], .pointer (some ⟨Bs, 0, none⟩)] W _
  refine callsIn_of_wp Try.func53 rfl h53 ?_ hro
  simp only [Try.ntmps53, List.size_toArray, List.length_cons, List.length_nil, Nat.reduceAdd, Nat.reduceSub, Array.replicate_succ, Array.replicate_zero, List.push_toArray, List.append_toArray, List.nil_append, List.cons_append]
  gi_wp2
  gi_loopw [7] (fun i wr => i = .int .i64 0 ∧ J [] wr) (fun _ _ => 0)
  case atStart => exact ⟨rfl, h0⟩
  case round =>
    obtain ⟨rfl, hJs⟩ := hrel
    gi_wp2
    go_end0
    exact ⟨⟨_, rfl⟩, _, rfl, hJs⟩
set_option maxHeartbeats 1000000 in
theorem values_in (n : Nat) (a : Option Addr) (len cap : Nat) (w : World) :
    CallsIn Fence.wide n Try.prog 43 #[.slice a len cap] w fun e w' => e = .returned (.func (.func 53) #[] #[.pointer (some ⟨w.heap.size, 0, none⟩)]) ∧ w' = w.alloc (.cells #[.slice a len cap] 22) := by
  refine callsIn_of_wp Try.func43 rfl trivial ?_ rfl
  simp only [Try.ntmps43, List.size_toArray, List.length_cons, List.length_nil, Nat.reduceAdd, Nat.reduceSub, Array.replicate_succ, Array.replicate_zero, List.push_toArray, List.append_toArray, List.nil_append, List.cons_append]
  gi_wp2
  go_ret
  exact ⟨rfl, rfl⟩
/-- The slice value holds these strings. -/
def StrsAt (W : World) (v : Value) (zs : List (List UInt8)) : Prop := (zs = [] ∧ ∃ a cap, v = .slice a 0 cap) ∨ ∃ b off cap, v = .slice (some ⟨b, off, none⟩) zs.length cap ∧ zs.length ≤ cap ∧ b < W.heap.size ∧ ∀ j, j < zs.length → W.cell? ⟨b, off + j, none⟩ = some (encStr (zs[j]?.getD []))
theorem StrsAt.slice {W : World} {v : Value} {zs : List (List UInt8)} (h : StrsAt W v zs) : ∃ a cap, v = .slice a zs.length cap := by
  rcases h with ⟨rfl, a, cap, rfl⟩ | ⟨b, off, cap, rfl, _⟩
  · exact ⟨a, cap, rfl⟩
  · exact ⟨_, _, rfl⟩
theorem sorts52 (m : Nat) : AnyZ.SortsIn Try.prog Try.sorted42_ren Fence.wide m :=
  ⟨fun blk off cap ss W hH hblk hsz => callsIn_wide.2 (AnyM.slices_Sort_string Try.sort52 blk off cap ss W hH hblk hsz),
   fun p cap W => callsIn_wide.2 (AnyM.slices_Sort_string_none Try.sort52 p cap W)⟩
abbrev srt (zs : List (List UInt8)) : List (List UInt8) := zs.mergeSort fun x y => decide (x ≤ y)
/-- slices.Sorted of slices.Values' iterator. -/
theorem sorted_in (zs : List (List UInt8)) (v : Value) (W : World) (hv : StrsAt W v zs) (hz : zs.length ≤ 1048576) :
    CallsIn Fence.wide 9 Try.prog 42 #[.func (.func 53) #[] #[.pointer (some ⟨W.heap.size, 0, none⟩)]] (W.alloc (.cells #[v] 22)) fun e w' => ∃ u, e = .returned u ∧
      w'.ownsRow W.heap.size 9 1 u (srt zs).length ((srt zs).map encStr) ∧ (u = .slice none 0 0 ↔ zs = []) ∧ Below W.heap.size W w' := by
  have hal : Below W.heap.size W (W.alloc (.cells #[v] 22)) := (Below.refl _ W).alloc (Nat.le_refl _) _
  have hcell : (W.alloc (.cells #[v] 22)).cell? ⟨W.heap.size, 0, none⟩ = some v := (cell_of_box_a (World.alloc_heap_new W _)).1
  have hsz : W.heap.size < (W.alloc (.cells #[v] 22)).heap.size := by simp
  have hg : SeqGivesB Fence.wide (9 - 1 - 1 - 1) Try.prog 53 #[.pointer (some ⟨W.heap.size, 0, none⟩)] encStr (fun ss => ss = zs) zs.length (W.alloc (.cells #[v] 22)) := by
    rcases hv with ⟨rfl, a, cap, rfl⟩ | ⟨b, off, cap, rfl, _, hb, hc⟩
    · exact values0_gives Fence.wide _ trivial rfl (by omega) _ cap a _ hcell hsz
    · exact values1_gives Fence.wide _ trivial rfl (by omega) _ b off cap zs _ (by omega) hcell hsz (by omega) fun j hj => (hal.cell (p := ⟨b, off + j, none⟩) hb).trans (hc j hj)
  refine (sortedB_in Try.sorted42 Fence.wide 9 trivial trivial trivial trivial rfl (by omega) (sorts52 _) (enters_of Try.func52 (by kernel_rfl) rfl) 53 #[.pointer (some ⟨W.heap.size, 0, none⟩)] trivial (enters_of Try.func53 (by kernel_rfl) rfl)
    (fun ss => ss = zs) zs.length (by unfold maxLen; omega) (by omega) _ (fun ss h => by rw [h]; exact Nat.le_refl _) hg).mono ?_
  rintro e w' ⟨u, ss, rfl, rfl, hrow, hnil, hb⟩
  refine ⟨u, rfl, ?_, hnil, hal.trans (hb.mono (by omega))⟩
  have hl : (srt ss).length = ss.length := List.length_mergeSort ss
  rw [hl]
  exact ownsRow_base_a hrow (by omega)
end Go.Proofs.Ytdefghfdccmebaa
