/- The reference's SameType. -/
import Derived.Test.YtbjomdbobdjofaaGreatDoorT
set_option linter.all false
namespace Go.Proofs.YtbjomdbobdjofaaGreatDoor
open Go Go.Avm
theorem rdefault_loop (base : Nat) (HH : Avm.H) (bx bz : Nat) (A B C : AV) (p q : List AV) (d1 d2 : List Val) (hp : p.length = 11) (hq : q.length = 11) (hx : HH[bx]? = some (.arr 0 12 [.agg (p ++ [.isl (d1.map Val.enc)])])) (hy : HH[bz]? = some (.arr 0 12 [.agg (q ++ [.isl (d2.map Val.enc)])]))
    (hl : d1.length = d2.length) (hb : Val.sizeL d1 ≤ 1048576) :
    roundsL (evC (callL cfg) roundsL cfg.pol base base c17L0) [2, 3, 5, 6, 7, 8, 91, 92, 93, 94, 95, 98, 99, 100, 101, 102, 105, 106, 107, 108, 109, 110, 111, 114, 115, 116, 117, 118, 119] [(2, A), (3, B), (5, C), (6, .ptr bx 0 12 0 0), (7, .ptr bz 0 12 0 0), (8, .int .i64 0)] HH =
      some (if Val.sameL d1 d2 = true then (.exit 2, [(2, A), (3, B), (5, C), (6, .ptr bx 0 12 0 0), (7, .ptr bz 0 12 0 0), (8, .int .i64 d1.length)], HH) else (.ret, [(4, .bool false)], HH)) := by
  have hlen := len_sizeL d1
  have hdp : List.drop 11 (p ++ [AV.isl (d1.map Val.enc)]) = [AV.isl (d1.map Val.enc)] := by rw [← hp, List.drop_left]
  have hdq : List.drop 11 (q ++ [AV.isl (d2.map Val.enc)]) = [AV.isl (d2.map Val.enc)] := by rw [← hq, List.drop_left]
  have := loop_list (f := evC (callL cfg) roundsL cfg.pol base base c17L0) (keep := [2, 3, 5, 6, 7, 8, 91, 92, 93, 94, 95, 98, 99, 100, 101, 102, 105, 106, 107, 108, 109, 110, 111, 114, 115, 116, 117, 118, 119]) d1
    (fun i => [(2, A), (3, B), (5, C), (6, .ptr bx 0 12 0 0), (7, .ptr bz 0 12 0 0), (8, .int .i64 i)]) (fun _ => HH)
    (fun j r => if Val.sameL r (d2.drop j) = true then (.exit 2, [(2, A), (3, B), (5, C), (6, .ptr bx 0 12 0 0), (7, .ptr bz 0 12 0 0), (8, .int .i64 d1.length)], HH) else (.ret, [(4, .bool false)], HH)) ?_ ?_
  · simpa using this
  · intro j x r hd hi hxx K hK
    have hw := wrap_nat (n := j + 1) (by omega)
    simp at hw
    have him : j < d2.length := by omega
    have hdm : d2.drop j = d2[j] :: d2.drop (j + 1) := List.drop_eq_getElem_cons him
    rw [hdm]
    have hm1 : x ∈ d1 := by rw [← hxx]; exact List.getElem_mem hi
    have hsz := sizeL_mem hm1
    have hcl := fun h' => rsame_ok _ x d2[j] (Nat.le_refl _) (by omega) base h'
    obtain ⟨y, hyy⟩ : ∃ y, d2[j] = y := ⟨_, rfl⟩
    rw [hyy] at hcl ⊢
    obtain ⟨k1, i1, b1, l1⟩ := x
    obtain ⟨k2, i2, b2, l2⟩ := y
    simp only [enc_mk] at hcl
    rw [Val.sameL]
    cases hs : (Val.mk k1 i1 b1 l1).same (Val.mk k2 i2 b2 l2)
    · simp [c17L0, hi, hxx, him, hyy, hcl, hs, hx, hy, hp, hq, hdp, hdq]
    · simp at hK
      simp [c17L0, hi, hxx, him, hyy, hcl, hs, hw, hK, hx, hy, hp, hq, hdp, hdq]
  · intro K
    have : d2.drop d1.length = [] := by rw [hl]; simp
    rw [this]
    simp [c17L0, Val.sameL, hx, hy, hp, hq, hdp, hdq]
theorem rkids_loop (base : Nat) (HH : Avm.H) (b1 b2 : Nat) (p q : List AV) (l m : List Ty) (hp : p.length = 7) (hq : q.length = 7) (hx : HH[b1]? = some (.arr 0 8 [.agg (p ++ [.isl (l.map Ty.enc)])])) (hy : HH[b2]? = some (.arr 0 8 [.agg (q ++ [.isl (m.map Ty.enc)])]))
    (hl : l.length = m.length) (hb : l.length ≤ 1048576) (ih : ∀ x ∈ l, ∀ y h, callL cfg base 17 [x.enc, y.enc] h = some (.bool (x.same y), h)) :
    roundsL (evC (callL cfg) roundsL cfg.pol base base c17L2) [2, 3, 9] [(2, .ptr b1 0 8 0 0), (3, .ptr b2 0 8 0 0), (9, .int .i64 0)] HH =
      some (if Ty.sameL l m = true then (.exit 4, [(2, .ptr b1 0 8 0 0), (3, .ptr b2 0 8 0 0), (9, .int .i64 l.length)], HH) else (.ret, [(4, .bool false)], HH)) := by
  have hdp : List.drop 7 (p ++ [AV.isl (l.map Ty.enc)]) = [AV.isl (l.map Ty.enc)] := by rw [← hp, List.drop_left]
  have hdq : List.drop 7 (q ++ [AV.isl (m.map Ty.enc)]) = [AV.isl (m.map Ty.enc)] := by rw [← hq, List.drop_left]
  have := loop_list (f := evC (callL cfg) roundsL cfg.pol base base c17L2) (keep := [2, 3, 9]) l
    (fun i => [(2, .ptr b1 0 8 0 0), (3, .ptr b2 0 8 0 0), (9, .int .i64 i)]) (fun _ => HH)
    (fun j r => if Ty.sameL r (m.drop j) = true then (.exit 4, [(2, .ptr b1 0 8 0 0), (3, .ptr b2 0 8 0 0), (9, .int .i64 l.length)], HH) else (.ret, [(4, .bool false)], HH)) ?_ ?_
  · simpa using this
  · intro j x r hd hi hxx K hK
    have hw := wrap_nat (n := j + 1) (by omega)
    simp at hw
    have him : j < m.length := by omega
    have hdm : m.drop j = m[j] :: m.drop (j + 1) := List.drop_eq_getElem_cons him
    rw [hdm]
    have hm1 : x ∈ l := by rw [← hxx]; exact List.getElem_mem hi
    have hcl := fun h' => ih x hm1 m[j] h'
    obtain ⟨y, hyy⟩ : ∃ y, m[j] = y := ⟨_, rfl⟩
    rw [hyy] at hcl ⊢
    obtain ⟨k1, nm1, lo1, hi1, fr1, ex1, it1, ks1⟩ := x
    obtain ⟨k2, nm2, lo2, hi2, fr2, ex2, it2, ks2⟩ := y
    simp only [Ty.enc_mk] at hcl
    rw [Ty.sameL]
    cases hs : (Ty.mk k1 nm1 lo1 hi1 fr1 ex1 it1 ks1).same (Ty.mk k2 nm2 lo2 hi2 fr2 ex2 it2 ks2)
    · simp [c17L2, hi, hxx, him, hyy, hcl, hs, hx, hy, hp, hq, hdp, hdq]
    · simp at hK
      simp [c17L2, hi, hxx, him, hyy, hcl, hs, hw, hK, hx, hy, hp, hq, hdp, hdq]
  · intro K
    have : m.drop l.length = [] := by rw [hl]; simp
    rw [this]
    simp [c17L2, Ty.sameL, hx, hy, hp, hq, hdp, hdq]
set_option maxHeartbeats 8000000 in
theorem ritems_loop (h : Avm.H) (t u : List AV) (l m : List It) (ht : t.length = 6) (hu : u.length = 6) (kt ku : AV)
    (hl : l.length = m.length) (hb : It.sizeL l ≤ 1048576) (ih : ∀ (x : Ty), x.size ≤ It.sizeL l → ∀ y ws h, callL cfg ws 17 [x.enc, y.enc] h = some (.bool (x.same y), h)) :
    ∃ g, roundsL (evC (callL cfg) roundsL cfg.pol h.length h.length c17L1) [2, 3, 5, 91, 92, 93, 94, 95, 98, 99, 100, 101, 102, 105, 106, 107, 108, 109, 110, 111, 114, 115, 116, 117, 118, 119] [(2, .ptr h.length 0 8 0 0), (3, .ptr (h.length + 1) 0 8 0 0), (5, .int .i64 0)] (h ++ [.arr 0 8 [.agg (t ++ [.isl (l.map It.enc), kt])], .arr 0 8 [.agg (u ++ [.isl (m.map It.enc), ku])]]) =
      some (if It.sameL l m = true then (.exit 0, [(2, .ptr h.length 0 8 0 0), (3, .ptr (h.length + 1) 0 8 0 0), (5, .int .i64 l.length)], h ++ ([.arr 0 8 [.agg (t ++ [.isl (l.map It.enc), kt])], .arr 0 8 [.agg (u ++ [.isl (m.map It.enc), ku])]] ++ g)) else (.ret, [(4, .bool false)], h ++ ([.arr 0 8 [.agg (t ++ [.isl (l.map It.enc), kt])], .arr 0 8 [.agg (u ++ [.isl (m.map It.enc), ku])]] ++ g))) := by
  have hlen := It.len_sizeL l
  have hdt : List.drop 6 (t ++ [AV.isl (l.map It.enc), kt]) = [AV.isl (l.map It.enc), kt] := by rw [← ht, List.drop_left]
  have hdu : List.drop 6 (u ++ [AV.isl (m.map It.enc), ku]) = [AV.isl (m.map It.enc), ku] := by rw [← hu, List.drop_left]
  have hlp := loop_post (γ := Avm.H) (f := evC (callL cfg) roundsL cfg.pol h.length h.length c17L1) (keep := [2, 3, 5, 91, 92, 93, 94, 95, 98, 99, 100, 101, 102, 105, 106, 107, 108, 109, 110, 111, 114, 115, 116, 117, 118, 119]) l (fun _ _ => True)
    (fun i _ => [(2, .ptr h.length 0 8 0 0), (3, .ptr (h.length + 1) 0 8 0 0), (5, .int .i64 i)]) (fun _ g => h ++ ([.arr 0 8 [.agg (t ++ [.isl (l.map It.enc), kt])], .arr 0 8 [.agg (u ++ [.isl (m.map It.enc), ku])]] ++ g))
    (fun j r o => ∃ g, o = if It.sameL r (m.drop j) = true then (.exit 0, [(2, .ptr h.length 0 8 0 0), (3, .ptr (h.length + 1) 0 8 0 0), (5, .int .i64 l.length)], h ++ ([.arr 0 8 [.agg (t ++ [.isl (l.map It.enc), kt])], .arr 0 8 [.agg (u ++ [.isl (m.map It.enc), ku])]] ++ g)) else (.ret, [(4, .bool false)], h ++ ([.arr 0 8 [.agg (t ++ [.isl (l.map It.enc), kt])], .arr 0 8 [.agg (u ++ [.isl (m.map It.enc), ku])]] ++ g))) ?_ ?_ [] trivial
  · obtain ⟨o, h1, g, h2⟩ := hlp
    simp only [List.drop_zero] at h2
    subst h2
    refine ⟨g, ?_⟩
    simpa using h1
  · intro j x r g hd hi hxx _ K hK
    have hw := wrap_nat (n := j + 1) (by omega)
    simp at hw
    have him : j < m.length := by omega
    have hdm : m.drop j = m[j] :: m.drop (j + 1) := List.drop_eq_getElem_cons him
    rw [hdm]
    have hm1 : x ∈ l := by rw [← hxx]; exact List.getElem_mem hi
    have hsz := It.sizeL_mem hm1
    obtain ⟨y, hyy⟩ : ∃ y, m[j] = y := ⟨_, rfl⟩
    rw [hyy]
    obtain ⟨a1, ⟨k1, nm1, lo1, hi1, fr1, ex1, it1, ks1⟩, o1, x1, d1⟩ := x
    obtain ⟨a2, ⟨k2, nm2, lo2, hi2, fr2, ex2, it2, ks2⟩, o2, x2, d2⟩ := y
    rw [It.size] at hsz
    have hcl := fun h' => ih (Ty.mk k1 nm1 lo1 hi1 fr1 ex1 it1 ks1) (by omega) (Ty.mk k2 nm2 lo2 hi2 fr2 ex2 it2 ks2) h.length h'
    simp only [Ty.enc_mk] at hcl
    rw [It.sameL, It.same]
    obtain ⟨o, h4, g2, h5⟩ := hK (g ++ [.arr 0 12 [(It.mk a1 (Ty.mk k1 nm1 lo1 hi1 fr1 ex1 it1 ks1) o1 x1 d1).enc], .arr 0 12 [(It.mk a2 (Ty.mk k2 nm2 lo2 hi2 fr2 ex2 it2 ks2) o2 x2 d2).enc]]) trivial
    by_cases e1 : a1.toList = a2.toList
    · by_cases e2 : o1 = o2
      · by_cases e3 : x1 = x2
        · by_cases e4 : d1.length = d2.length
          · cases e5 : (Ty.mk k1 nm1 lo1 hi1 fr1 ex1 it1 ks1).same (Ty.mk k2 nm2 lo2 hi2 fr2 ex2 it2 ks2)
            · refine ⟨_, ?_, g ++ [.arr 0 12 [(It.mk a1 (Ty.mk k1 nm1 lo1 hi1 fr1 ex1 it1 ks1) o1 x1 d1).enc], .arr 0 12 [(It.mk a2 (Ty.mk k2 nm2 lo2 hi2 fr2 ex2 it2 ks2) o2 x2 d2).enc]], rfl⟩
              simp [c17L1, hi, hxx, him, hyy, hcl, ht, hu, hdt, hdu, e1, e2, e3, e4, e5]
            · have hin := rdefault_loop h.length (h ++ ([.arr 0 8 [.agg (t ++ [.isl (l.map It.enc), kt])], .arr 0 8 [.agg (u ++ [.isl (m.map It.enc), ku])]] ++ (g ++ [.arr 0 12 [(It.mk a1 (Ty.mk k1 nm1 lo1 hi1 fr1 ex1 it1 ks1) o1 x1 d1).enc], .arr 0 12 [(It.mk a2 (Ty.mk k2 nm2 lo2 hi2 fr2 ex2 it2 ks2) o2 x2 d2).enc]])))
                (h.length + (g.length + 2)) (h.length + (g.length + 3)) (.ptr h.length 0 8 0 0) (.ptr (h.length + 1) 0 8 0 0) (.int .i64 j) [.str a1, .int .i64 k1, .str nm1, .int .i64 lo1, .int .i64 hi1, .bool fr1, .bool ex1, .isl (it1.map It.enc), .isl (ks1.map Ty.enc), .bool o1, .bool x1]
                [.str a2, .int .i64 k2, .str nm2, .int .i64 lo2, .int .i64 hi2, .bool fr2, .bool ex2, .isl (it2.map It.enc), .isl (ks2.map Ty.enc), .bool o2, .bool x2] d1 d2 rfl rfl (by simp) (by simp) e4 (by omega)
              cases e6 : Val.sameL d1 d2
              · refine ⟨_, ?_, g ++ [.arr 0 12 [(It.mk a1 (Ty.mk k1 nm1 lo1 hi1 fr1 ex1 it1 ks1) o1 x1 d1).enc], .arr 0 12 [(It.mk a2 (Ty.mk k2 nm2 lo2 hi2 fr2 ex2 it2 ks2) o2 x2 d2).enc]], rfl⟩
                simp [e6] at hin
                simp [c17L1, hi, hxx, him, hyy, hcl, ht, hu, hdt, hdu, e1, e2, e3, e4, e5]
                simp [e1, e2, e3, e4] at hin
                simp [hin]
              · refine ⟨o, ?_, g2, by simpa [e1, e2, e3] using h5⟩
                simp [e6] at hin
                simp at h4
                simp [c17L1, hi, hxx, him, hyy, hcl, ht, hu, hdt, hdu, e1, e2, e3, e4, e5, hw]
                simp [e1, e2, e3, e4] at hin h4
                simp [hin, hw, h4]
          · have e6 : Val.sameL d1 d2 = false := by
              cases hs : Val.sameL d1 d2 with
              | false => rfl
              | true => exact absurd (sameL_len hs) e4
            have hn2 : ¬ (d1.length : Int) = d2.length := by omega
            refine ⟨_, ?_, g ++ [.arr 0 12 [(It.mk a1 (Ty.mk k1 nm1 lo1 hi1 fr1 ex1 it1 ks1) o1 x1 d1).enc], .arr 0 12 [(It.mk a2 (Ty.mk k2 nm2 lo2 hi2 fr2 ex2 it2 ks2) o2 x2 d2).enc]], rfl⟩
            simp [c17L1, hi, hxx, him, hyy, hcl, ht, hu, hdt, hdu, e1, e2, e3, hn2, e6]
        · refine ⟨_, ?_, g ++ [.arr 0 12 [(It.mk a1 (Ty.mk k1 nm1 lo1 hi1 fr1 ex1 it1 ks1) o1 x1 d1).enc], .arr 0 12 [(It.mk a2 (Ty.mk k2 nm2 lo2 hi2 fr2 ex2 it2 ks2) o2 x2 d2).enc]], rfl⟩
          simp [c17L1, hi, hxx, him, hyy, hcl, ht, hu, hdt, hdu, e1, e2, e3]
      · refine ⟨_, ?_, g ++ [.arr 0 12 [(It.mk a1 (Ty.mk k1 nm1 lo1 hi1 fr1 ex1 it1 ks1) o1 x1 d1).enc], .arr 0 12 [(It.mk a2 (Ty.mk k2 nm2 lo2 hi2 fr2 ex2 it2 ks2) o2 x2 d2).enc]], rfl⟩
        simp [c17L1, hi, hxx, him, hyy, hcl, ht, hu, hdt, hdu, e1, e2]
    · refine ⟨_, ?_, g ++ [.arr 0 12 [(It.mk a1 (Ty.mk k1 nm1 lo1 hi1 fr1 ex1 it1 ks1) o1 x1 d1).enc], .arr 0 12 [(It.mk a2 (Ty.mk k2 nm2 lo2 hi2 fr2 ex2 it2 ks2) o2 x2 d2).enc]], rfl⟩
      simp [c17L1, hi, hxx, him, hyy, hcl, ht, hu, hdt, hdu, e1]
  · intro g K _
    refine ⟨_, ?_, g, rfl⟩
    have : m.drop l.length = [] := by rw [hl]; simp
    rw [this]
    simp [c17L1, It.sameL, ht, hu, hdt, hdu]
end Go.Proofs.YtbjomdbobdjofaaGreatDoor
