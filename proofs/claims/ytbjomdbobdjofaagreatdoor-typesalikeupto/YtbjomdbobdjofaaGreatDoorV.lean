/- Values: comparing, counting, copying. -/
import Derived.Test.YtbjomdbobdjofaaGreatDoorK
import Derived.Test.YtbjomdbobdjofaaGreatDoorAvmSimp
set_option linter.all false
set_option linter.all false
namespace Go.Proofs.YtbjomdbobdjofaaGreatDoor
open Go Go.Avm
inductive Val where
  | mk (kind int : Int) (bytes : ByteArray) (items : List Val)
mutual
def Val.enc : Val → AV
  | .mk k i b its => .agg [.int .i64 k, .int .i64 i, .str b, .isl (Val.encL its)]
def Val.encL : List Val → List AV
  | [] => []
  | v :: l => v.enc :: Val.encL l
end
theorem encL_map : ∀ l, Val.encL l = l.map Val.enc
  | [] => by rw [Val.encL]; rfl
  | v :: l => by rw [Val.encL, encL_map l]; rfl
@[simp] theorem enc_mk (k i : Int) (b : ByteArray) (its : List Val) : (Val.mk k i b its).enc = .agg [.int .i64 k, .int .i64 i, .str b, .isl (its.map Val.enc)] := by rw [Val.enc, encL_map]
mutual
theorem Val.pure_enc : ∀ v : Val, v.enc.pure = true
  | .mk k i b its => by rw [Val.enc]; simp [Val.pure_encL its]
theorem Val.pure_encL : ∀ l : List Val, pureL (Val.encL l) = true
  | [] => by rw [Val.encL]; rfl
  | v :: l => by rw [Val.encL]; simp [Val.pure_enc v, Val.pure_encL l]
end
@[simp] theorem pureL_vals (l : List Val) : pureL (l.map Val.enc) = true := by rw [← encL_map]; exact Val.pure_encL l
@[simp] theorem snapL_vals (h : Avm.H) (n : Nat) (l : List Val) : snapL (snap h n) (l.map Val.enc) = some (l.map Val.enc) := snapL_pure (by simp)
@[simp] theorem frzL_vals (base n : Nat) (l : List Val) (h : Avm.H) : frzL (frz base n) (l.map Val.enc) h = some (l.map Val.enc, h) := frzL_pure (by simp)
mutual
def Val.same : Val → Val → Bool
  | .mk k i b l, .mk k' i' b' l' => decide (k = k') && (decide (i = i') && (decide (b.toList = b'.toList) && Val.sameL l l'))
def Val.sameL : List Val → List Val → Bool
  | [], [] => true
  | x :: r, y :: s => x.same y && Val.sameL r s
  | _, _ => false
end
mutual
def Val.size : Val → Nat
  | .mk _ _ _ l => Val.sizeL l + 1
def Val.sizeL : List Val → Nat
  | [] => 0
  | x :: r => x.size + Val.sizeL r
end
theorem size_pos (v : Val) : 1 ≤ v.size := by cases v; simp [Val.size]
theorem sizeL_mem : ∀ {l : List Val} {x : Val}, x ∈ l → x.size ≤ Val.sizeL l
  | y :: l, x, h => by
    rw [Val.sizeL]
    rcases List.mem_cons.1 h with rfl | h
    · omega
    · have := sizeL_mem h; omega
theorem len_sizeL : ∀ (l : List Val), l.length ≤ Val.sizeL l
  | [] => by simp
  | x :: l => by have := size_pos x; have := len_sizeL l; simp only [Val.sizeL, List.length_cons]; omega
theorem sameL_len : ∀ {l m : List Val}, Val.sameL l m = true → l.length = m.length
  | [], [], _ => rfl
  | x :: l, [], h => by simp [Val.sameL] at h
  | [], y :: m, h => by simp [Val.sameL] at h
  | x :: l, y :: m, h => by
    simp only [Val.sameL, Bool.and_eq_true] at h
    simp [sameL_len h.2]
theorem equalFuncV_ok (l m : List Val) (hlen : l.length ≤ 1048576) (hl : ∀ x ∈ l, ∀ y ws h, callL cfg ws 21 [x.enc, y.enc] h = some (.bool (x.same y), h)) (ws : Nat) (h : Avm.H) :
    callL cfg ws 44 [.isl (l.map Val.enc), .isl (m.map Val.enc), .clos 21 0 []] h = some (.bool (Val.sameL l m), h) := by
  have hpol : cfg.pol 21 = some .snap := rfl
  refine callL_fn rfl rfl ?_
  by_cases hn : l.length = m.length
  · have hlp := loop_post (γ := Avm.H) (f := evC (callL cfg) roundsL cfg.pol h.length h.length c44L0) (keep := [1, 2, 15, 16, 17]) l (fun _ _ => True)
      (fun i _ => [(1, .isl (m.map Val.enc)), (2, .clos 21 0 []), (15, .isl (l.map Val.enc)), (16, .int .i64 l.length), (17, .int .i64 i)]) (fun _ g => h ++ g)
      (fun i r o => ∃ g, o = if Val.sameL r (m.drop i) = true then (.exit 0, [(1, .isl (m.map Val.enc)), (2, .clos 21 0 []), (15, .isl (l.map Val.enc)), (16, .int .i64 l.length), (17, .int .i64 l.length)], h ++ g) else (.ret, [(6, .bool false)], h ++ g)) ?_ ?_ [] trivial
    · obtain ⟨o, h1, g, h2⟩ := hlp
      simp only [List.drop_zero] at h2
      cases hs : Val.sameL l m <;> simp [hs] at h2 <;> subst h2 <;> simp at h1 <;> simp [F44, c44, hn] <;> simp [← hn, h1]
    · intro i x r g hd hi hx _ K hK
      have hw := wrap_nat (n := i + 1) (by omega)
      simp at hw
      have him : i < m.length := by omega
      have hdm : m.drop i = m[i] :: m.drop (i + 1) := List.drop_eq_getElem_cons him
      rw [hdm]
      have hm1 : x ∈ l := by rw [← hx]; exact List.getElem_mem hi
      have hcl := fun h' => hl x hm1 m[i] h.length h'
      obtain ⟨y, hy⟩ : ∃ y, m[i] = y := ⟨_, rfl⟩
      rw [hy] at hcl ⊢
      obtain ⟨k1, i1, b1, l1⟩ := x
      obtain ⟨k2, i2, b2, l2⟩ := y
      simp only [enc_mk] at hcl
      obtain ⟨o, h4, g2, h5⟩ := hK (g ++ [.arr 0 4 [(Val.mk k1 i1 b1 l1).enc], .arr 0 4 [(Val.mk k2 i2 b2 l2).enc]]) trivial
      rw [Val.sameL]
      cases hs : (Val.mk k1 i1 b1 l1).same (Val.mk k2 i2 b2 l2)
      · refine ⟨_, ?_, g ++ [.arr 0 4 [(Val.mk k1 i1 b1 l1).enc], .arr 0 4 [(Val.mk k2 i2 b2 l2).enc]], rfl⟩
        simp [c44L0, hi, hx, him, hy, hpol, hcl, hs]
      · refine ⟨o, ?_, g2, by simpa using h5⟩
        simp at h4
        simp [c44L0, hi, hx, him, hy, hpol, hcl, hs, hw, h4]
    · intro g K _
      refine ⟨_, ?_, g, rfl⟩
      have : m.drop l.length = [] := by rw [hn]; simp
      rw [this]
      simp [c44L0, Val.sameL]
  · have hs : Val.sameL l m = false := by
      cases hs : Val.sameL l m with
      | false => rfl
      | true => exact absurd (sameL_len hs) hn
    have hn2 : ¬ (l.length : Int) = m.length := by omega
    rw [hs]
    simp [F44, c44, hn2]
theorem same_ok : ∀ (n : Nat) (v w : Val), v.size ≤ n → v.size ≤ 1048576 → ∀ ws h, callL cfg ws 21 [v.enc, w.enc] h = some (.bool (v.same w), h)
  | 0, v, _, hv, _, _, _ => by have := size_pos v; omega
  | n + 1, .mk k i b l, .mk k' i' b' l', hv, hb, ws, h => by
    rw [Val.size] at hv hb
    have hlen := len_sizeL l
    have heq := fun h' => equalFuncV_ok l l' (by omega) (fun x hx y ws h => by
      have := sizeL_mem hx
      exact same_ok n x y (by omega) (by omega) ws h) h.length h'
    refine callL_fn rfl rfl ?_
    rw [Val.same]
    simp [F21, c21, heq, Bool.and_assoc]

theorem rsame_ok : ∀ (n : Nat) (v w : Val), v.size ≤ n → v.size ≤ 1048576 → ∀ ws h, callL cfg ws 22 [v.enc, w.enc] h = some (.bool (v.same w), h)
  | 0, v, _, hv, _, _, _ => by have := size_pos v; omega
  | n + 1, .mk k i b l, .mk k' i' b' l', hv, hb, ws, h => by
    rw [Val.size] at hv hb
    have hlen := len_sizeL l
    refine callL_fn rfl rfl ?_
    rw [Val.same]
    by_cases h1 : k = k'
    · by_cases h2 : i = i'
      · by_cases h3 : b.toList = b'.toList
        · by_cases h4 : l.length = l'.length
          · have hl := loop_list (f := evC (callL cfg) roundsL cfg.pol h.length h.length c22L0) (keep := [2, 3, 5]) l (fun i => [(2, .ptr h.length 0 4 0 0), (3, .ptr (h.length + 1) 0 4 0 0), (5, .int .i64 i)]) (fun _ => h ++ [.arr 0 4 [(Val.mk k i b l).enc], .arr 0 4 [(Val.mk k' i' b' l').enc]])
              (fun j r => if Val.sameL r (l'.drop j) = true then (.exit 0, [(2, .ptr h.length 0 4 0 0), (3, .ptr (h.length + 1) 0 4 0 0), (5, .int .i64 l.length)], h ++ [.arr 0 4 [(Val.mk k i b l).enc], .arr 0 4 [(Val.mk k' i' b' l').enc]]) else (.ret, [(4, .bool false)], h ++ [.arr 0 4 [(Val.mk k i b l).enc], .arr 0 4 [(Val.mk k' i' b' l').enc]])) ?_ ?_
            · simp only [List.drop_zero] at hl
              cases hs : Val.sameL l l' <;> simp [hs] at hl <;> simp [F22, c22, h1, h2, h3, h4] <;> simp [h1, h2, h3, h4] at hl <;> simp [hl]
            · intro j x r hd hi hx K hK
              have hw := wrap_nat (n := j + 1) (by omega)
              simp at hw
              have him : j < l'.length := by omega
              have hdm : l'.drop j = l'[j] :: l'.drop (j + 1) := List.drop_eq_getElem_cons him
              rw [hdm]
              have hm1 : x ∈ l := by rw [← hx]; exact List.getElem_mem hi
              have hsz := sizeL_mem hm1
              have hcl := fun h' => rsame_ok n x l'[j] (by omega) (by omega) (h.length + 2) h'
              have hcl := fun h' => rsame_ok n x l'[j] (by omega) (by omega) h.length h'
              obtain ⟨y, hy⟩ : ∃ y, l'[j] = y := ⟨_, rfl⟩
              rw [hy] at hcl ⊢
              obtain ⟨k1, i1, b1, l1⟩ := x
              obtain ⟨k2, i2, b2, l2⟩ := y
              simp only [enc_mk] at hcl
              rw [Val.sameL]
              cases hs : (Val.mk k1 i1 b1 l1).same (Val.mk k2 i2 b2 l2)
              · simp [c22L0, hi, hx, him, hy, hcl, hs]
              · simp at hK
                simp [c22L0, hi, hx, him, hy, hcl, hs, hw, hK]
            · intro K
              have : l'.drop l.length = [] := by rw [h4]; simp
              rw [this]
              simp [c22L0, Val.sameL]
          · have hs : Val.sameL l l' = false := by
              cases hs : Val.sameL l l' with
              | false => rfl
              | true => exact absurd (sameL_len hs) h4
            have hn2 : ¬ (l.length : Int) = l'.length := by omega
            rw [hs]
            simp [F22, c22, h1, h2, h3, hn2]
        · simp [F22, c22, h1, h2, h3]
      · simp [F22, c22, h1, h2]
    · simp [F22, c22, h1]
mutual
def Val.depth : Val → Nat
  | .mk _ _ _ l => Val.depthL l + 1
def Val.depthL : List Val → Nat
  | [] => 0
  | x :: r => max x.depth (Val.depthL r)
end
theorem sizeL_snoc : ∀ (l : List Val) (x : Val), Val.sizeL (l ++ [x]) = Val.sizeL l + x.size
  | [], x => by simp [Val.sizeL]
  | y :: l, x => by simp only [List.cons_append, Val.sizeL, sizeL_snoc l x]; omega
theorem depthL_snoc : ∀ (l : List Val) (x : Val), Val.depthL (l ++ [x]) = max (Val.depthL l) x.depth
  | [], x => by simp [Val.depthL]
  | y :: l, x => by simp only [List.cons_append, Val.depthL, depthL_snoc l x]; omega
mutual
theorem depth_le : ∀ v : Val, v.depth ≤ v.size
  | .mk _ _ _ l => by simp only [Val.depth, Val.size]; have := depthL_le l; omega
theorem depthL_le : ∀ l : List Val, Val.depthL l ≤ Val.sizeL l
  | [] => by simp [Val.depthL]
  | x :: r => by simp only [Val.depthL, Val.sizeL]; have := depth_le x; have := depthL_le r; omega
end
theorem sizeL_take : ∀ (l : List Val) (i : Nat), Val.sizeL (l.take i) ≤ Val.sizeL l
  | [], i => by simp
  | x :: l, 0 => by simp [Val.sizeL]
  | x :: l, i + 1 => by simp only [List.take_succ_cons, Val.sizeL]; have := sizeL_take l i; omega
theorem max_ite (a b : Nat) : (if a < b then (b : Int) else (a : Int)) = ((max a b : Nat) : Int) := by split <;> omega
theorem count_ok : ∀ (n : Nat) (v : Val), v.size ≤ n → v.size ≤ 1048576 → ∀ ws h, callL cfg ws 19 [v.enc] h = some (.tup [.int .i64 v.size, .int .i64 v.depth], h)
  | 0, v, hv, _, _, _ => by have := size_pos v; omega
  | n + 1, .mk k i b l, hv, hb, ws, h => by
    rw [Val.size] at hv hb
    have hlen := len_sizeL l
    have hdl := depthL_le l
    refine callL_fn rfl rfl ?_
    have hlp := loop_post (γ := Avm.H) (f := evC (callL cfg) roundsL cfg.pol h.length h.length c19L0) (keep := [2, 3, 9, 10, 11]) l (fun _ _ => True)
      (fun i _ => [(2, .int .i64 ((1 + Val.sizeL (l.take i) : Nat) : Int)), (3, .int .i64 ((Val.depthL (l.take i) : Nat) : Int)), (9, .isl (l.map Val.enc)), (10, .int .i64 l.length), (11, .int .i64 i)]) (fun _ g => h ++ ([.arr 0 4 [(Val.mk k i b l).enc]] ++ g))
      (fun _ _ o => ∃ g, o = (.exit 0, [(2, .int .i64 ((1 + Val.sizeL l : Nat) : Int)), (3, .int .i64 ((Val.depthL l : Nat) : Int)), (9, .isl (l.map Val.enc)), (10, .int .i64 l.length), (11, .int .i64 l.length)], h ++ ([.arr 0 4 [(Val.mk k i b l).enc]] ++ g))) ?_ ?_ [] trivial
    · obtain ⟨o, h1, g, h2⟩ := hlp
      subst h2
      have hw1 := wrap_nat (n := Val.depthL l + 1) (by omega)
      simp [Val.sizeL, Val.depthL] at h1 hw1
      simp [F19, c19, h1, hw1, Val.size, Val.depth]
      omega
    · intro j x r g hd hi hx _ K hK
      have hw := wrap_nat (n := j + 1) (by omega)
      have hm1 : x ∈ l := by rw [← hx]; exact List.getElem_mem hi
      have hsz := sizeL_mem hm1
      have ht : l.take (j + 1) = l.take j ++ [x] := by rw [List.take_succ_eq_append_getElem hi, hx]
      have hs2 := sizeL_take l (j + 1)
      rw [ht] at hK hs2
      rw [sizeL_snoc] at hK hs2
      rw [depthL_snoc] at hK
      have hw2 := wrap_nat (n := 1 + Val.sizeL (l.take j) + x.size) (by omega)
      have hmx := max_ite (Val.depthL (l.take j)) x.depth
      have hcl := fun h' => count_ok n x (by omega) (by omega) h.length h'
      obtain ⟨z, hz⟩ : ∃ z, x.size = z := ⟨_, rfl⟩
      obtain ⟨d, hdd⟩ : ∃ d, x.depth = d := ⟨_, rfl⟩
      rw [hz, hdd] at hcl
      rw [hz] at hw2
      rw [hdd] at hmx
      rw [hz, hdd] at hK
      obtain ⟨mm, hmm⟩ : ∃ mm, max (Val.depthL (l.take j)) d = mm := ⟨_, rfl⟩
      rw [hmm] at hK hmx
      obtain ⟨k1, i1, b1, l1⟩ := x
      simp only [enc_mk] at hcl
      obtain ⟨o, h4, g2, h5⟩ := hK (g ++ [.arr 0 4 [(Val.mk k1 i1 b1 l1).enc]]) trivial
      refine ⟨o, ?_, g2, h5⟩
      rw [← Nat.add_assoc] at h4
      simp at hw hw2 h4
      simp [c19L0, hi, hx, hcl, hw, hw2, hmx, h4]
    · intro g K _
      refine ⟨_, ?_, g, rfl⟩
      simp [c19L0]
theorem rcount_ok : ∀ (n : Nat) (v : Val), v.size ≤ n → v.size ≤ 1048576 → ∀ ws h, callL cfg ws 20 [v.enc] h = some (.tup [.int .i64 v.size, .int .i64 v.depth], h)
  | 0, v, hv, _, _, _ => by have := size_pos v; omega
  | n + 1, .mk k i b l, hv, hb, ws, h => by
    rw [Val.size] at hv hb
    have hlen := len_sizeL l
    have hdl := depthL_le l
    refine callL_fn rfl rfl ?_
    have hlp := loop_list (f := evC (callL cfg) roundsL cfg.pol h.length h.length c20L0) (keep := [1, 4, 5, 6]) l
      (fun i => [(1, .ptr h.length 0 4 0 0), (4, .int .i64 ((1 + Val.sizeL (l.take i) : Nat) : Int)), (5, .int .i64 ((Val.depthL (l.take i) : Nat) : Int)), (6, .int .i64 i)]) (fun _ => h ++ [.arr 0 4 [(Val.mk k i b l).enc]])
      (fun _ _ => (.exit 0, [(1, .ptr h.length 0 4 0 0), (4, .int .i64 ((1 + Val.sizeL l : Nat) : Int)), (5, .int .i64 ((Val.depthL l : Nat) : Int)), (6, .int .i64 l.length)], h ++ [.arr 0 4 [(Val.mk k i b l).enc]])) ?_ ?_
    · have hw1 := wrap_nat (n := Val.depthL l + 1) (by omega)
      simp [Val.sizeL, Val.depthL] at hlp hw1
      simp [F20, c20, hlp, hw1, Val.size, Val.depth]
      omega
    · intro j x r hd hi hx K hK
      have hw := wrap_nat (n := j + 1) (by omega)
      have hm1 : x ∈ l := by rw [← hx]; exact List.getElem_mem hi
      have hsz := sizeL_mem hm1
      have ht : l.take (j + 1) = l.take j ++ [x] := by rw [List.take_succ_eq_append_getElem hi, hx]
      have hs2 := sizeL_take l (j + 1)
      rw [ht] at hK hs2
      rw [sizeL_snoc] at hK hs2
      rw [depthL_snoc] at hK
      have hw2 := wrap_nat (n := 1 + Val.sizeL (l.take j) + x.size) (by omega)
      have hmx := max_ite (Val.depthL (l.take j)) x.depth
      have hcl := fun h' => rcount_ok n x (by omega) (by omega) h.length h'
      obtain ⟨z, hz⟩ : ∃ z, x.size = z := ⟨_, rfl⟩
      obtain ⟨d, hdd⟩ : ∃ d, x.depth = d := ⟨_, rfl⟩
      rw [hz, hdd] at hcl
      rw [hz] at hw2
      rw [hdd] at hmx
      rw [hz, hdd] at hK
      obtain ⟨mm, hmm⟩ : ∃ mm, max (Val.depthL (l.take j)) d = mm := ⟨_, rfl⟩
      rw [hmm] at hK hmx
      obtain ⟨k1, i1, b1, l1⟩ := x
      simp only [enc_mk] at hcl
      rw [← Nat.add_assoc] at hK
      simp at hw hw2 hK
      simp [c20L0, hi, hx, hcl, hw, hw2, hmx, hK]
    · intro K
      simp [c20L0]
end Go.Proofs.YtbjomdbobdjofaaGreatDoor
