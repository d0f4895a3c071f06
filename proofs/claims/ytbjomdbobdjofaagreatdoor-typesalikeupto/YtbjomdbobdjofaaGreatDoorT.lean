/- Types: comparing. -/
import Derived.Test.YtbjomdbobdjofaaGreatDoorV2
set_option linter.all false
namespace Go.Proofs.YtbjomdbobdjofaaGreatDoor
open Go Go.Avm
mutual
inductive Ty where
  | mk (kind : Int) (name : ByteArray) (lo hi : Int) (free ext : Bool) (items : List It) (kids : List Ty)
inductive It where
  | mk (name : ByteArray) (of : Ty) (opt extra : Bool) (dflt : List Val)
end
mutual
def Ty.cells : Ty → List AV
  | .mk k n lo hi f e its ks => [.int .i64 k, .str n, .int .i64 lo, .int .i64 hi, .bool f, .bool e, .isl (It.encL its), .isl (Ty.encL ks)]
def It.cells : It → List AV
  | .mk n of o x d => .str n :: (of.cells ++ [.bool o, .bool x, .isl (d.map Val.enc)])
def It.encL : List It → List AV
  | [] => []
  | x :: r => .agg x.cells :: It.encL r
def Ty.encL : List Ty → List AV
  | [] => []
  | x :: r => .agg x.cells :: Ty.encL r
end
def Ty.enc (t : Ty) : AV := .agg t.cells
def It.enc (t : It) : AV := .agg t.cells
theorem It.encL_map : ∀ l, It.encL l = l.map It.enc
  | [] => by rw [It.encL]; rfl
  | x :: l => by rw [It.encL, It.encL_map l]; rfl
theorem Ty.encL_map : ∀ l, Ty.encL l = l.map Ty.enc
  | [] => by rw [Ty.encL]; rfl
  | x :: l => by rw [Ty.encL, Ty.encL_map l]; rfl
@[simp] theorem Ty.enc_mk (k : Int) (n : ByteArray) (lo hi : Int) (f e : Bool) (its : List It) (ks : List Ty) : (Ty.mk k n lo hi f e its ks).enc = .agg [.int .i64 k, .str n, .int .i64 lo, .int .i64 hi, .bool f, .bool e, .isl (its.map It.enc), .isl (ks.map Ty.enc)] := by
  rw [Ty.enc, Ty.cells, It.encL_map, Ty.encL_map]
@[simp] theorem It.enc_mk (n : ByteArray) (k : Int) (nm : ByteArray) (lo hi : Int) (f e : Bool) (its : List It) (ks : List Ty) (o x : Bool) (d : List Val) : (It.mk n (Ty.mk k nm lo hi f e its ks) o x d).enc =
    .agg [.str n, .int .i64 k, .str nm, .int .i64 lo, .int .i64 hi, .bool f, .bool e, .isl (its.map It.enc), .isl (ks.map Ty.enc), .bool o, .bool x, .isl (d.map Val.enc)] := by
  rw [It.enc, It.cells, Ty.cells, It.encL_map, Ty.encL_map]; rfl
theorem pureL_app : ∀ (a b : List AV), pureL (a ++ b) = (pureL a && pureL b)
  | [], b => by simp
  | x :: a, b => by simp [pureL_app a b, Bool.and_assoc]
mutual
theorem Ty.pure_cells : ∀ t : Ty, pureL t.cells = true
  | .mk k n lo hi f e its ks => by rw [Ty.cells]; simp [It.pure_encL its, Ty.pure_encL ks]
theorem It.pure_cells : ∀ t : It, pureL t.cells = true
  | .mk n of o x d => by rw [It.cells]; simp [pureL_app, Ty.pure_cells of]
theorem It.pure_encL : ∀ l : List It, pureL (It.encL l) = true
  | [] => by rw [It.encL]; rfl
  | x :: l => by rw [It.encL]; simp [It.pure_cells x, It.pure_encL l]
theorem Ty.pure_encL : ∀ l : List Ty, pureL (Ty.encL l) = true
  | [] => by rw [Ty.encL]; rfl
  | x :: l => by rw [Ty.encL]; simp [Ty.pure_cells x, Ty.pure_encL l]
end
@[simp] theorem pureL_its (l : List It) : pureL (l.map It.enc) = true := by rw [← It.encL_map]; exact It.pure_encL l
@[simp] theorem pureL_tys (l : List Ty) : pureL (l.map Ty.enc) = true := by rw [← Ty.encL_map]; exact Ty.pure_encL l
@[simp] theorem snapL_its (h : Avm.H) (n : Nat) (l : List It) : snapL (snap h n) (l.map It.enc) = some (l.map It.enc) := snapL_pure (by simp)
@[simp] theorem snapL_tys (h : Avm.H) (n : Nat) (l : List Ty) : snapL (snap h n) (l.map Ty.enc) = some (l.map Ty.enc) := snapL_pure (by simp)
@[simp] theorem frzL_its (base n : Nat) (l : List It) (h : Avm.H) : frzL (frz base n) (l.map It.enc) h = some (l.map It.enc, h) := frzL_pure (by simp)
@[simp] theorem frzL_tys (base n : Nat) (l : List Ty) (h : Avm.H) : frzL (frz base n) (l.map Ty.enc) h = some (l.map Ty.enc, h) := frzL_pure (by simp)
mutual
def Ty.same : Ty → Ty → Bool
  | .mk k n lo hi f e its ks, .mk k' n' lo' hi' f' e' its' ks' => decide (k = k') && (decide (n.toList = n'.toList) && (decide (lo = lo') && (decide (hi = hi') && (decide (f = f') && (decide (e = e') && (It.sameL its its' && Ty.sameL ks ks'))))))
def It.same : It → It → Bool
  | .mk n of o x d, .mk n' of' o' x' d' => decide (n.toList = n'.toList) && (decide (o = o') && (decide (x = x') && (of.same of' && Val.sameL d d')))
def It.sameL : List It → List It → Bool
  | [], [] => true
  | x :: r, y :: s => x.same y && It.sameL r s
  | _, _ => false
def Ty.sameL : List Ty → List Ty → Bool
  | [], [] => true
  | x :: r, y :: s => x.same y && Ty.sameL r s
  | _, _ => false
end
mutual
def Ty.size : Ty → Nat
  | .mk _ _ _ _ _ _ its ks => It.sizeL its + Ty.sizeL ks + 1
def It.size : It → Nat
  | .mk _ of _ _ d => of.size + Val.sizeL d + 1
def It.sizeL : List It → Nat
  | [] => 0
  | x :: r => x.size + It.sizeL r
def Ty.sizeL : List Ty → Nat
  | [] => 0
  | x :: r => x.size + Ty.sizeL r
end
theorem Ty.size_pos (v : Ty) : 1 ≤ v.size := by cases v; simp [Ty.size]
theorem It.size_pos (v : It) : 1 ≤ v.size := by cases v; simp [It.size]
theorem Ty.sizeL_mem : ∀ {l : List Ty} {x : Ty}, x ∈ l → x.size ≤ Ty.sizeL l
  | y :: l, x, h => by
    rw [Ty.sizeL]
    rcases List.mem_cons.1 h with rfl | h
    · omega
    · have := Ty.sizeL_mem h; omega
theorem Ty.len_sizeL : ∀ (l : List Ty), l.length ≤ Ty.sizeL l
  | [] => by simp
  | x :: l => by have := Ty.size_pos x; have := Ty.len_sizeL l; simp only [Ty.sizeL, List.length_cons]; omega
theorem Ty.sameL_len : ∀ {l m : List Ty}, Ty.sameL l m = true → l.length = m.length
  | [], [], _ => rfl
  | x :: l, [], h => by simp [Ty.sameL] at h
  | [], y :: m, h => by simp [Ty.sameL] at h
  | x :: l, y :: m, h => by
    simp only [Ty.sameL, Bool.and_eq_true] at h
    simp [Ty.sameL_len h.2]
theorem It.sizeL_mem : ∀ {l : List It} {x : It}, x ∈ l → x.size ≤ It.sizeL l
  | y :: l, x, h => by
    rw [It.sizeL]
    rcases List.mem_cons.1 h with rfl | h
    · omega
    · have := It.sizeL_mem h; omega
theorem It.len_sizeL : ∀ (l : List It), l.length ≤ It.sizeL l
  | [] => by simp
  | x :: l => by have := It.size_pos x; have := It.len_sizeL l; simp only [It.sizeL, List.length_cons]; omega
theorem It.sameL_len : ∀ {l m : List It}, It.sameL l m = true → l.length = m.length
  | [], [], _ => rfl
  | x :: l, [], h => by simp [It.sameL] at h
  | [], y :: m, h => by simp [It.sameL] at h
  | x :: l, y :: m, h => by
    simp only [It.sameL, Bool.and_eq_true] at h
    simp [It.sameL_len h.2]
theorem equalFuncI_ok (l m : List It) (hlen : l.length ≤ 1048576) (hl : ∀ x ∈ l, ∀ y ws h, callL cfg ws 42 [x.enc, y.enc] h = some (.bool (x.same y), h)) (ws : Nat) (h : Avm.H) :
    callL cfg ws 41 [.isl (l.map It.enc), .isl (m.map It.enc), .clos 42 0 []] h = some (.bool (It.sameL l m), h) := by
  have hpol : cfg.pol 42 = some .snap := rfl
  refine callL_fn rfl rfl ?_
  by_cases hn : l.length = m.length
  · have hlp := loop_post (γ := Avm.H) (f := evC (callL cfg) roundsL cfg.pol h.length h.length c41L0) (keep := [1, 2, 15, 16, 17]) l (fun _ _ => True)
      (fun i _ => [(1, .isl (m.map It.enc)), (2, .clos 42 0 []), (15, .isl (l.map It.enc)), (16, .int .i64 l.length), (17, .int .i64 i)]) (fun _ g => h ++ g)
      (fun i r o => ∃ g, o = if It.sameL r (m.drop i) = true then (.exit 0, [(1, .isl (m.map It.enc)), (2, .clos 42 0 []), (15, .isl (l.map It.enc)), (16, .int .i64 l.length), (17, .int .i64 l.length)], h ++ g) else (.ret, [(6, .bool false)], h ++ g)) ?_ ?_ [] trivial
    · obtain ⟨o, h1, g, h2⟩ := hlp
      simp only [List.drop_zero] at h2
      cases hs : It.sameL l m <;> simp [hs] at h2 <;> subst h2 <;> simp at h1 <;> simp [F41, c41, hn] <;> simp [← hn, h1]
    · intro i x r g hd hi hx _ K hK
      have hw := wrap_nat (n := i + 1) (by omega)
      simp at hw
      have him : i < m.length := by omega
      have hdm : m.drop i = m[i] :: m.drop (i + 1) := List.drop_eq_getElem_cons him
      rw [hdm]
      have hm1 : x ∈ l := by rw [← hx]; exact List.getElem_mem hi
      have hcl := fun h' => hl x hm1 m[i] h.length h'
      obtain ⟨y, hy⟩ : ∃ y, m[i] = y := ⟨_, rfl⟩
      rw [hy] at hcl ⊢
      obtain ⟨a1, ⟨k1, nm1, lo1, hi1, fr1, ex1, it1, ks1⟩, o1, x1, d1⟩ := x
      obtain ⟨a2, ⟨k2, nm2, lo2, hi2, fr2, ex2, it2, ks2⟩, o2, x2, d2⟩ := y
      simp only [It.enc_mk] at hcl
      obtain ⟨o, h4, g2, h5⟩ := hK (g ++ [.arr 0 12 [(It.mk a1 (Ty.mk k1 nm1 lo1 hi1 fr1 ex1 it1 ks1) o1 x1 d1).enc], .arr 0 12 [(It.mk a2 (Ty.mk k2 nm2 lo2 hi2 fr2 ex2 it2 ks2) o2 x2 d2).enc]]) trivial
      rw [It.sameL]
      cases hs : (It.mk a1 (Ty.mk k1 nm1 lo1 hi1 fr1 ex1 it1 ks1) o1 x1 d1).same (It.mk a2 (Ty.mk k2 nm2 lo2 hi2 fr2 ex2 it2 ks2) o2 x2 d2)
      · refine ⟨_, ?_, g ++ [.arr 0 12 [(It.mk a1 (Ty.mk k1 nm1 lo1 hi1 fr1 ex1 it1 ks1) o1 x1 d1).enc], .arr 0 12 [(It.mk a2 (Ty.mk k2 nm2 lo2 hi2 fr2 ex2 it2 ks2) o2 x2 d2).enc]], rfl⟩
        simp [c41L0, hi, hx, him, hy, hpol, hcl, hs]
      · refine ⟨o, ?_, g2, by simpa using h5⟩
        simp at h4
        simp [c41L0, hi, hx, him, hy, hpol, hcl, hs, hw, h4]
    · intro g K _
      refine ⟨_, ?_, g, rfl⟩
      have : m.drop l.length = [] := by rw [hn]; simp
      rw [this]
      simp [c41L0, It.sameL]
  · have hs : It.sameL l m = false := by
      cases hs : It.sameL l m with
      | false => rfl
      | true => exact absurd (It.sameL_len hs) hn
    have hn2 : ¬ (l.length : Int) = m.length := by omega
    rw [hs]
    simp [F41, c41, hn2]
theorem equalFuncT_ok (l m : List Ty) (hlen : l.length ≤ 1048576) (hl : ∀ x ∈ l, ∀ y ws h, callL cfg ws 16 [x.enc, y.enc] h = some (.bool (x.same y), h)) (ws : Nat) (h : Avm.H) :
    callL cfg ws 43 [.isl (l.map Ty.enc), .isl (m.map Ty.enc), .clos 16 0 []] h = some (.bool (Ty.sameL l m), h) := by
  have hpol : cfg.pol 16 = some .snap := rfl
  refine callL_fn rfl rfl ?_
  by_cases hn : l.length = m.length
  · have hlp := loop_post (γ := Avm.H) (f := evC (callL cfg) roundsL cfg.pol h.length h.length c43L0) (keep := [1, 2, 15, 16, 17]) l (fun _ _ => True)
      (fun i _ => [(1, .isl (m.map Ty.enc)), (2, .clos 16 0 []), (15, .isl (l.map Ty.enc)), (16, .int .i64 l.length), (17, .int .i64 i)]) (fun _ g => h ++ g)
      (fun i r o => ∃ g, o = if Ty.sameL r (m.drop i) = true then (.exit 0, [(1, .isl (m.map Ty.enc)), (2, .clos 16 0 []), (15, .isl (l.map Ty.enc)), (16, .int .i64 l.length), (17, .int .i64 l.length)], h ++ g) else (.ret, [(6, .bool false)], h ++ g)) ?_ ?_ [] trivial
    · obtain ⟨o, h1, g, h2⟩ := hlp
      simp only [List.drop_zero] at h2
      cases hs : Ty.sameL l m <;> simp [hs] at h2 <;> subst h2 <;> simp at h1 <;> simp [F43, c43, hn] <;> simp [← hn, h1]
    · intro i x r g hd hi hx _ K hK
      have hw := wrap_nat (n := i + 1) (by omega)
      simp at hw
      have him : i < m.length := by omega
      have hdm : m.drop i = m[i] :: m.drop (i + 1) := List.drop_eq_getElem_cons him
      rw [hdm]
      have hm1 : x ∈ l := by rw [← hx]; exact List.getElem_mem hi
      have hcl := fun h' => hl x hm1 m[i] h.length h'
      obtain ⟨y, hy⟩ : ∃ y, m[i] = y := ⟨_, rfl⟩
      rw [hy] at hcl ⊢
      obtain ⟨k1, nm1, lo1, hi1, fr1, ex1, it1, ks1⟩ := x
      obtain ⟨k2, nm2, lo2, hi2, fr2, ex2, it2, ks2⟩ := y
      simp only [Ty.enc_mk] at hcl
      obtain ⟨o, h4, g2, h5⟩ := hK (g ++ [.arr 0 8 [(Ty.mk k1 nm1 lo1 hi1 fr1 ex1 it1 ks1).enc], .arr 0 8 [(Ty.mk k2 nm2 lo2 hi2 fr2 ex2 it2 ks2).enc]]) trivial
      rw [Ty.sameL]
      cases hs : (Ty.mk k1 nm1 lo1 hi1 fr1 ex1 it1 ks1).same (Ty.mk k2 nm2 lo2 hi2 fr2 ex2 it2 ks2)
      · refine ⟨_, ?_, g ++ [.arr 0 8 [(Ty.mk k1 nm1 lo1 hi1 fr1 ex1 it1 ks1).enc], .arr 0 8 [(Ty.mk k2 nm2 lo2 hi2 fr2 ex2 it2 ks2).enc]], rfl⟩
        simp [c43L0, hi, hx, him, hy, hpol, hcl, hs]
      · refine ⟨o, ?_, g2, by simpa using h5⟩
        simp at h4
        simp [c43L0, hi, hx, him, hy, hpol, hcl, hs, hw, h4]
    · intro g K _
      refine ⟨_, ?_, g, rfl⟩
      have : m.drop l.length = [] := by rw [hn]; simp
      rw [this]
      simp [c43L0, Ty.sameL]
  · have hs : Ty.sameL l m = false := by
      cases hs : Ty.sameL l m with
      | false => rfl
      | true => exact absurd (Ty.sameL_len hs) hn
    have hn2 : ¬ (l.length : Int) = m.length := by omega
    rw [hs]
    simp [F43, c43, hn2]
theorem sameType_both : ∀ (n : Nat), (∀ (t u : Ty), t.size ≤ n → t.size ≤ 1048576 → ∀ ws h, callL cfg ws 16 [t.enc, u.enc] h = some (.bool (t.same u), h)) ∧
    (∀ (t u : It), t.size ≤ n → t.size ≤ 1048576 → ∀ ws h, callL cfg ws 42 [t.enc, u.enc] h = some (.bool (t.same u), h))
  | 0 => ⟨fun t _ ht _ _ _ => (by have := t.size_pos; omega), fun t _ ht _ _ _ => (by have := t.size_pos; omega)⟩
  | n + 1 => by
    obtain ⟨ih1, ih2⟩ := sameType_both n
    refine ⟨fun t u ht hb ws h => ?_, fun t u ht hb ws h => ?_⟩
    · obtain ⟨k1, nm1, lo1, hi1, fr1, ex1, it1, ks1⟩ := t
      obtain ⟨k2, nm2, lo2, hi2, fr2, ex2, it2, ks2⟩ := u
      rw [Ty.size] at ht hb
      have hl1 := It.len_sizeL it1
      have hl2 := Ty.len_sizeL ks1
      have e1 := fun h' => equalFuncI_ok it1 it2 (by omega) (fun x hx y ws h => by
        have := It.sizeL_mem hx
        exact ih2 x y (by omega) (by omega) ws h) h.length h'
      have e2 := fun h' => equalFuncT_ok ks1 ks2 (by omega) (fun x hx y ws h => by
        have := Ty.sizeL_mem hx
        exact ih1 x y (by omega) (by omega) ws h) h.length h'
      refine callL_fn rfl rfl ?_
      rw [Ty.same]
      simp [F16, c16, e1, e2, Bool.and_assoc]
    · obtain ⟨a1, ⟨k1, nm1, lo1, hi1, fr1, ex1, it1, ks1⟩, o1, x1, d1⟩ := t
      obtain ⟨a2, ⟨k2, nm2, lo2, hi2, fr2, ex2, it2, ks2⟩, o2, x2, d2⟩ := u
      rw [It.size] at ht hb
      have hl1 := len_sizeL d1
      have e1 := fun h' => ih1 (Ty.mk k1 nm1 lo1 hi1 fr1 ex1 it1 ks1) (Ty.mk k2 nm2 lo2 hi2 fr2 ex2 it2 ks2) (by omega) (by omega) h.length h'
      have e2 := fun h' => equalFuncV_ok d1 d2 (by omega) (fun x hx y ws h => by
        have := sizeL_mem hx
        exact same_ok _ x y (Nat.le_refl _) (by omega) ws h) h.length h'
      simp only [Ty.enc_mk] at e1
      refine callL_fn rfl rfl ?_
      rw [It.same]
      simp [F42, c42, e1, e2, Bool.and_assoc]
end Go.Proofs.YtbjomdbobdjofaaGreatDoor
