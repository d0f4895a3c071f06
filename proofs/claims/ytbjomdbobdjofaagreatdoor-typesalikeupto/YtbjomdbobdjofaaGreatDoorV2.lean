/- Copies of values; the law of Same and Count. -/
import Derived.Test.YtbjomdbobdjofaaGreatDoorV
set_option linter.all false
set_option linter.all false
namespace Go.Proofs.YtbjomdbobdjofaaGreatDoor
open Go Go.Avm
theorem copy_ok : ∀ (n : Nat) (v : Val), v.size ≤ n → v.size ≤ 1048576 → ∀ ws h, callL cfg ws 23 [v.enc] h = some (v.enc, h)
  | 0, v, hv, _, _, _ => by have := size_pos v; omega
  | n + 1, .mk k i b l, hv, hb, ws, h => by
    rw [Val.size] at hv hb
    have hlen := len_sizeL l
    refine callL_fn rfl rfl ?_
    have hlp := loop_post (γ := AV × Avm.H) (f := evC (callL cfg) roundsL cfg.pol h.length h.length c23L0) (keep := [1, 2, 3, 4]) l
      (fun i c => SlcIn h.length 3 4 c.2 ((l.take i).map Val.enc) c.1)
      (fun i _ => [(1, .ptr h.length 0 4 0 0), (2, .ptr (h.length + 1) 0 4 0 0), (3, .ptr (h.length + 2) 0 4 0 0), (4, .int .i64 i)])
      (fun _ g => h ++ ([.arr 0 4 [(Val.mk k i b l).enc], .arr 0 4 [.agg [.int .i64 0, .int .i64 0, .str ⟨#[]⟩, .esl]], .arr 0 4 [.agg [.int .i64 k, .int .i64 i, .str b, g.1]]] ++ g.2))
      (fun _ _ o => ∃ v2 g, SlcIn h.length 3 4 g (l.map Val.enc) v2 ∧ o = (.exit 0, [(1, .ptr h.length 0 4 0 0), (2, .ptr (h.length + 1) 0 4 0 0), (3, .ptr (h.length + 2) 0 4 0 0), (4, .int .i64 l.length)],
        h ++ ([.arr 0 4 [(Val.mk k i b l).enc], .arr 0 4 [.agg [.int .i64 0, .int .i64 0, .str ⟨#[]⟩, .esl]], .arr 0 4 [.agg [.int .i64 k, .int .i64 i, .str b, v2]]] ++ g))) ?_ ?_ (.esl, []) (.inl ⟨rfl, rfl⟩)
    · obtain ⟨o, hl, v2, g, hI, ho⟩ := hlp
      subst ho
      rcases hI with ⟨he, rfl⟩ | ⟨j, ver, rfl, hj⟩
      · have he : l = [] := by simpa using he
        subst he
        simp at hl
        simp [F23, c23, hl]
      · simp at hl
        simp [F23, c23, hl, hj]
    · intro j x r c2 hd hi hx hI K hK
      have hw := wrap_nat (n := j + 1) (by omega)
      simp at hw
      have hm1 : x ∈ l := by rw [← hx]; exact List.getElem_mem hi
      have hsz := sizeL_mem hm1
      have ht : l.take (j + 1) = l.take j ++ [x] := by rw [List.take_succ_eq_append_getElem hi, hx]
      have hll : (l.take j).length = j := by simp; omega
      have hcl := fun h' => copy_ok n x (by omega) (by omega) h.length h'
      rw [ht] at hK
      simp only [List.map_append] at hK
      obtain ⟨v1, g⟩ := c2
      obtain ⟨k1, i1, b1, l1⟩ := x
      simp only [enc_mk] at hcl
      generalize hls : l.take j = ls at hK hI hll
      rcases hI with ⟨he, hv⟩ | ⟨q, ver, hv, hj⟩
      · dsimp only at hv
        subst hv
        have he : ls = [] := by simpa using he
        subst he
        obtain ⟨o, h4, h5⟩ := hK (.osl (h.length + ((g.length + 1) + 3)) 0 4 0 1, g ++ [.arr 0 4 [(Val.mk k1 i1 b1 l1).enc], .arr 0 4 [(Val.mk k1 i1 b1 l1).enc]]) (.inr ⟨g.length + 1, 0, by simp, by simp⟩)
        refine ⟨o, ?_, h5⟩
        simp at h4
        simp [c23L0, hi, hx, hcl, hw, bslP, appended, appI, h4]
      · dsimp only at hv hj
        subst hv
        have hjl := (List.getElem?_eq_some_iff.1 hj).1
        have hfl' : ls.length + 1 ≤ 4294967296 := by omega
        obtain ⟨o, h4, h5⟩ := hK (.osl (h.length + (q + 3)) (ver + 1) 4 0 (ls.length + 1), List.set (g ++ [ABlock.arr 0 4 [(Val.mk k1 i1 b1 l1).enc]]) q (ABlock.arr (ver + 1) 4 (ls.map Val.enc ++ [(Val.mk k1 i1 b1 l1).enc])))
          (.inr ⟨q, ver + 1, by simp, by rw [List.getElem?_set_self (by simp; omega)]; simp⟩)
        refine ⟨o, ?_, h5⟩
        have hones : ∀ a ∈ ls, a.enc.cells.length = 4 := fun a _ => by cases a; simp
        simp at h4
        simp [c23L0, hi, hx, hcl, hw, bslP, appended, appI, h4, hj, hfl', List.getElem?_append_left hjl]
    · intro c2 K hI
      refine ⟨_, ?_, c2.1, c2.2, by simpa using hI, rfl⟩
      simp [c23L0]
mutual
theorem same_symm : ∀ v w : Val, v.same w = w.same v
  | .mk k i b l, .mk k' i' b' l' => by
    simp only [Val.same, sameL_symm l l', eq_comm (a := k), eq_comm (a := i), eq_comm (a := b.toList)]
theorem sameL_symm : ∀ v w : List Val, Val.sameL v w = Val.sameL w v
  | [], [] => rfl
  | x :: l, [] => by simp [Val.sameL]
  | [], y :: m => by simp [Val.sameL]
  | x :: l, y :: m => by simp only [Val.sameL, same_symm x y, sameL_symm l m]
end
mutual
theorem same_refl : ∀ v : Val, v.same v = true
  | .mk k i b l => by simp [Val.same, sameL_refl l]
theorem sameL_refl : ∀ l : List Val, Val.sameL l l = true
  | [] => rfl
  | x :: l => by simp [Val.sameL, same_refl x, sameL_refl l]
end
set_option maxRecDepth 100000 in
theorem sane2 (ws : Nat) (A B : ABlock) : callN cfg 100 ws 15 [] [A, B] = some (.bool true, [A, B]) := by kernel_rfl
theorem sane2_ok (ws : Nat) (A B : ABlock) : callL cfg ws 15 [] [A, B] = some (.bool true, [A, B]) := callN_L 100 _ _ _ _ _ (sane2 ws A B)
theorem typesSame_ok (v w : Val) (hv : v.size ≤ 1048576) (hw : w.size ≤ 1048576) : callL cfg 0 6 [v.enc, w.enc] [] = some (.bool true, []) := by
  refine callL_fn rfl rfl ?_
  have h1 := fun h => count_ok _ v (Nat.le_refl _) hv 0 h
  have h2 := fun h => rcount_ok _ v (Nat.le_refl _) hv 0 h
  have h3 := fun h => same_ok _ v w (Nat.le_refl _) hv 0 h
  have h4 := fun h => rsame_ok _ v w (Nat.le_refl _) hv 0 h
  have h5 := fun h => same_ok _ w v (Nat.le_refl _) hw 0 h
  have h6 := fun h => copy_ok _ v (Nat.le_refl _) hv 0 h
  have h7 := fun h => same_ok _ v v (Nat.le_refl _) hv 0 h
  rw [same_symm w v] at h5
  rw [same_refl v] at h7
  obtain ⟨s, hs⟩ : ∃ s, v.same w = s := ⟨_, rfl⟩
  obtain ⟨n, hn⟩ : ∃ n, v.size = n := ⟨_, rfl⟩
  obtain ⟨d, hd⟩ : ∃ d, v.depth = d := ⟨_, rfl⟩
  rw [hs] at h3 h4 h5
  rw [hn, hd] at h1 h2
  clear hs hn hd hv hw
  obtain ⟨k1, i1, b1, l1⟩ := v
  obtain ⟨k2, i2, b2, l2⟩ := w
  simp only [enc_mk] at h1 h2 h3 h4 h5 h6 h7
  simp [F6, c6, h1, h2, h3, h4, h5, h6, h7, sane2_ok]
end Go.Proofs.YtbjomdbobdjofaaGreatDoor
