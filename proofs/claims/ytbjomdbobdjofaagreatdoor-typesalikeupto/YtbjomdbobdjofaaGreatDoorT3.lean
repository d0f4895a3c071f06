/- The reference's SameType, whole; copies of types. -/
import Derived.Test.YtbjomdbobdjofaaGreatDoorT2
set_option linter.all false
namespace Go.Proofs.YtbjomdbobdjofaaGreatDoor
open Go Go.Avm
set_option maxHeartbeats 8000000 in
theorem rsameType_ok : ∀ (n : Nat) (t u : Ty), t.size ≤ n → t.size ≤ 1048576 → ∀ ws h, callL cfg ws 17 [t.enc, u.enc] h = some (.bool (t.same u), h)
  | 0, t, _, ht, _, _, _ => by have := t.size_pos; omega
  | n + 1, .mk k1 nm1 lo1 hi1 fr1 ex1 it1 ks1, .mk k2 nm2 lo2 hi2 fr2 ex2 it2 ks2, ht, hb, ws, h => by
    rw [Ty.size] at ht hb
    have hli := It.len_sizeL it1
    have hlk := Ty.len_sizeL ks1
    refine callL_fn rfl rfl ?_
    rw [Ty.same]
    by_cases e1 : k1 = k2
    · by_cases e2 : nm1.toList = nm2.toList
      · by_cases e3 : lo1 = lo2
        · by_cases e4 : hi1 = hi2
          · by_cases e5 : fr1 = fr2
            · by_cases e6 : ex1 = ex2
              · subst e1 e3 e4 e5 e6
                by_cases e7 : it1.length = it2.length
                · by_cases e8 : ks1.length = ks2.length
                  · obtain ⟨g, hit⟩ := ritems_loop h [.int .i64 k1, .str nm1, .int .i64 lo1, .int .i64 hi1, .bool fr1, .bool ex1] [.int .i64 k1, .str nm2, .int .i64 lo1, .int .i64 hi1, .bool fr1, .bool ex1] it1 it2 rfl rfl (.isl (ks1.map Ty.enc)) (.isl (ks2.map Ty.enc)) e7 (by omega) (fun x hx y ws h => rsameType_ok n x y (by omega) (by omega) ws h)
                    have hki := rkids_loop h.length (h ++ ([.arr 0 8 [(Ty.mk k1 nm1 lo1 hi1 fr1 ex1 it1 ks1).enc], .arr 0 8 [(Ty.mk k1 nm2 lo1 hi1 fr1 ex1 it2 ks2).enc]] ++ g)) h.length (h.length + 1) [.int .i64 k1, .str nm1, .int .i64 lo1, .int .i64 hi1, .bool fr1, .bool ex1, .isl (it1.map It.enc)]
                      [.int .i64 k1, .str nm2, .int .i64 lo1, .int .i64 hi1, .bool fr1, .bool ex1, .isl (it2.map It.enc)] ks1 ks2 rfl rfl (by simp) (by simp) e8 (by omega) (fun x hx y h' => by
                        have := Ty.sizeL_mem hx
                        exact rsameType_ok n x y (by omega) (by omega) h.length h')
                    cases s1 : It.sameL it1 it2
                    · simp [s1] at hit
                      simp [F17, c17, e2, e7, e8, hit]
                    · cases s2 : Ty.sameL ks1 ks2
                      · simp [s1] at hit
                        simp [s2] at hki
                        simp [F17, c17, e2, e7, e8, hit, hki]
                      · simp [s1] at hit
                        simp [s2] at hki
                        simp [F17, c17, e2, e7, e8, hit, hki]
                  · have hs : Ty.sameL ks1 ks2 = false := by
                      cases hs : Ty.sameL ks1 ks2 with
                      | false => rfl
                      | true => exact absurd (Ty.sameL_len hs) e8
                    have hn2 : ¬ (ks1.length : Int) = ks2.length := by omega
                    simp [F17, c17, e2, e7, hn2, hs]
                · have hs : It.sameL it1 it2 = false := by
                    cases hs : It.sameL it1 it2 with
                    | false => rfl
                    | true => exact absurd (It.sameL_len hs) e7
                  have hn2 : ¬ (it1.length : Int) = it2.length := by omega
                  simp [F17, c17, e2, hn2, hs]
              · simp [F17, c17, e1, e2, e3, e4, e5, e6]
            · simp [F17, c17, e1, e2, e3, e4, e5]
          · simp [F17, c17, e1, e2, e3, e4]
        · simp [F17, c17, e1, e2, e3]
      · simp [F17, c17, e1, e2]
    · simp [F17, c17, e1]
mutual
theorem Ty.same_symm : ∀ v w : Ty, v.same w = w.same v
  | .mk k n lo hi f e its ks, .mk k' n' lo' hi' f' e' its' ks' => by
    simp only [Ty.same, It.sameL_symm its its', Ty.sameL_symm ks ks', eq_comm (a := k), eq_comm (a := n.toList), eq_comm (a := lo), eq_comm (a := hi), eq_comm (a := f), eq_comm (a := e)]
theorem It.same_symm : ∀ v w : It, v.same w = w.same v
  | .mk n of o x d, .mk n' of' o' x' d' => by
    simp only [It.same, Ty.same_symm of of', sameL_symm d d', eq_comm (a := n.toList), eq_comm (a := o), eq_comm (a := x)]
theorem It.sameL_symm : ∀ v w : List It, It.sameL v w = It.sameL w v
  | [], [] => by simp [It.sameL, Ty.sameL]
  | x :: l, [] => by simp [It.sameL]
  | [], y :: m => by simp [It.sameL]
  | x :: l, y :: m => by simp only [It.sameL, It.same_symm x y, It.sameL_symm l m]
theorem Ty.sameL_symm : ∀ v w : List Ty, Ty.sameL v w = Ty.sameL w v
  | [], [] => by simp [It.sameL, Ty.sameL]
  | x :: l, [] => by simp [Ty.sameL]
  | [], y :: m => by simp [Ty.sameL]
  | x :: l, y :: m => by simp only [Ty.sameL, Ty.same_symm x y, Ty.sameL_symm l m]
end
mutual
theorem Ty.same_refl : ∀ v : Ty, v.same v = true
  | .mk k n lo hi f e its ks => by simp [Ty.same, It.sameL_refl its, Ty.sameL_refl ks]
theorem It.same_refl : ∀ v : It, v.same v = true
  | .mk n of o x d => by simp [It.same, Ty.same_refl of, sameL_refl d]
theorem It.sameL_refl : ∀ l : List It, It.sameL l l = true
  | [] => by simp [It.sameL]
  | x :: l => by simp [It.sameL, It.same_refl x, It.sameL_refl l]
theorem Ty.sameL_refl : ∀ l : List Ty, Ty.sameL l l = true
  | [] => by simp [Ty.sameL]
  | x :: l => by simp [Ty.sameL, Ty.same_refl x, Ty.sameL_refl l]
end
end Go.Proofs.YtbjomdbobdjofaaGreatDoor
