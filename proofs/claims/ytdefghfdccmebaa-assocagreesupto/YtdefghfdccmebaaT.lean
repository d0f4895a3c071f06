/- What the functions reckon, by the machine. -/
import Derived.Test.YtdefghfdccmebaaK
import Derived.Test.YtdefghfdccmebaaAvmSimp
set_option linter.all false
namespace Go.Proofs.Ytdefghfdccmebaa
open Go Go.Avm
theorem named_ok (ws : Nat) (s : ByteArray) (h : H) : callL cfg ws 32 [.str s] h = some (.bool (isNameB s), h) := by
  refine callL_fn rfl rfl ?_
  simp [F32, c32, isNameB]; norm_cast
theorem isName_ok (ws : Nat) (s : ByteArray) (h : H) : callL cfg ws 35 [.str s] h = some (.bool (isNameB s), h) := by
  refine callL_fn rfl rfl ?_
  simp [F35, c35, isNameB]; norm_cast
theorem strs_ok (l : List ByteArray) : strs (l.map AV.str) = some l := by induction l <;> simp_all [strs]
theorem names_ok (ws : Nat) (l : List ByteArray) (a b : Int) (h : H) (hl : l.length ≤ 1048576) : callL cfg ws 31 [.isl (l.map .str), .int .i64 a, .int .i64 b] h = some (.bool (namesB l a b), h) := by
  refine callL_ext (x := namesX) rfl ?_
  simp [namesX, strs_ok, hl]
def hasB (l : List ByteArray) (s : ByteArray) : Bool := l.any fun x => x.toList == s.toList
theorem has_ok (ws : Nat) (l : List ByteArray) (s : ByteArray) (h : H) (hl : l.length ≤ 1048576) : callL cfg ws 23 [.isl (l.map .str), .str s] h = some (.bool (hasB l s), h) := by
  refine callL_fn rfl rfl ?_
  have := loop_list (f := evC (callL cfg) roundsL cfg.pol h.length h.length c23L0) (keep := [0, 1, 5]) l (fun i => [(0, .isl (l.map .str)), (1, .str s), (5, .int .i64 i)]) (fun _ => h)
    (fun i r => if hasB r s then (.ret, [(4, .bool true)], h) else (.exit 0, [(0, .isl (l.map .str)), (1, .str s), (5, .int .i64 l.length)], h)) ?_ ?_
  · cases hp : hasB l s <;> simp [hp] at this <;> simp [F23, c23, this]
  · intro i x r hd hi hx K hK
    have hw := wrap_nat (n := i + 1) (by omega)
    by_cases hv : x.toList = s.toList
    · simp [c23L0, hi, hx, hv, hasB]
    · simp [c23L0, hi, hx, hv, hasB] at hK hw ⊢
      simpa [hw] using hK
  · intro K
    simp [c23L0, hasB]
theorem index_ok (ws : Nat) (l : List ByteArray) (s : ByteArray) (h : H) (hl : l.length ≤ 1048576) : ∃ n : Int, callL cfg ws 33 [.isl (l.map .str), .str s] h = some (.int .i64 n, h) ∧ (decide (0 ≤ n)) = hasB l s := by
  have := loop_list (f := evC (callL cfg) roundsL cfg.pol h.length h.length c33L0) (keep := [0, 1, 7, 8]) l (fun i => [(0, .isl (l.map .str)), (1, .str s), (7, .int .i64 l.length), (8, .int .i64 i)]) (fun _ => h)
    (fun i r => match r.findIdx? (fun x => x.toList == s.toList) with | some j => (.ret, [(4, .int .i64 ((i + j : Nat) : Int))], h) | none => (.exit 0, [(0, .isl (l.map .str)), (1, .str s), (7, .int .i64 l.length), (8, .int .i64 l.length)], h)) ?_ ?_
  · refine ⟨match l.findIdx? (fun x => x.toList == s.toList) with | some j => j | none => -1, callL_fn rfl rfl ?_, ?_⟩
    · cases hp : l.findIdx? (fun x => x.toList == s.toList) <;> simp [hp] at this <;> simp [F33, c33, this]
    · cases hp : l.findIdx? (fun x => x.toList == s.toList)
      · simp at hp; simpa [hasB] using hp
      · have h1 := List.findIdx?_eq_some_iff_findIdx_eq.1 hp
        have h2 : (l.findIdx? (fun x => x.toList == s.toList)).isSome = true := by rw [hp]; rfl
        rw [List.findIdx?_isSome] at h2
        simpa [hasB] using h2
  · intro i x r hd hi hx K hK
    have hw := wrap_nat (n := i + 1) (by omega)
    by_cases hv : s.toList = x.toList
    · simp [c33L0, hi, hx, hv, List.findIdx?_cons]
    · have hv' : ¬ x.toList = s.toList := fun e => hv e.symm
      rw [List.findIdx?_cons]
      simp only [hv', beq_iff_eq, if_false]
      cases hp : r.findIdx? (fun x => x.toList == s.toList) <;> simp [hp] at hK <;> simp [c33L0, hi, hx, hv] at hw ⊢ <;> simp [hw, hK]
      omega
  · intro K
    simp [c33L0]
theorem contains_ok (ws : Nat) (l : List ByteArray) (s : ByteArray) (h : H) (hl : l.length ≤ 1048576) : callL cfg ws 20 [.isl (l.map .str), .str s] h = some (.bool (hasB l s), h) := by
  obtain ⟨n, h1, h2⟩ := index_ok h.length l s h hl
  refine callL_fn rfl rfl ?_
  simp [F20, c20, h1, h2]
structure Able where
  ver : Int
  ctx : List ByteArray
  els : List ByteArray
  name : ByteArray
def Able.enc (a : Able) : AV := .agg [.int .i64 a.ver, .isl (a.ctx.map .str), .isl (a.els.map .str), .str a.name]
def termsC (v : Int) (c : ByteArray) (els : List ByteArray) (a : Able) (c0 : ByteArray) : AV := .agg [.int .i64 (if v < a.ver then v else a.ver), .str (if hasB a.ctx c then c else c0), .isl ((els.filter (hasB a.els)).map .str)]
theorem terms_ok (ws : Nat) (av : Int) (ae : List ByteArray) (an : ByteArray) (v : Int) (c : ByteArray) (els : List ByteArray) (c0 : ByteArray) (cs : List ByteArray) (h : H) (h1 : (c0 :: cs).length ≤ 1048576) (h2 : ae.length ≤ 1048576) (h3 : els.length ≤ 1048576) :
    callL cfg ws 19 [(Able.mk av (c0 :: cs) ae an).enc, .int .i64 v, .str c, .isl (els.map .str)] h = some (termsC v c els ⟨av, c0 :: cs, ae, an⟩ c0, h) := by
  refine callL_fn rfl rfl ?_
  have hct := fun h' => contains_ok h.length (c0 :: cs) c h' h1
  simp only [List.map_cons] at hct
  have hlp := loop_post (γ := AV × H) (f := evC (callL cfg) roundsL cfg.pol h.length h.length c19L0) (keep := [4, 8, 9, 27, 28, 29]) els
    (fun i c => SlcIn h.length 3 1 c.2 (((els.take i).filter (hasB ae)).map .str) c.1)
    (fun i _ => [(4, .ptr h.length 0 4 0 0), (8, .ptr (h.length + 1) 0 3 0 0), (9, .ptr (h.length + 2) 0 3 0 0), (27, .isl (els.map .str)), (28, .int .i64 els.length), (29, .int .i64 i)])
    (fun i g => h ++ ([.arr 0 4 [(Able.mk av (c0 :: cs) ae an).enc], .arr 0 3 [.agg [.int .i64 0, .str ⟨#[]⟩, .esl]], .arr 0 3 [.agg [.int .i64 (if v < av then v else av), .str (if hasB (c0 :: cs) c then c else c0), g.1]]] ++ g.2))
    (fun _ _ o => ∃ v2 g, SlcIn h.length 3 1 g ((els.filter (hasB ae)).map .str) v2 ∧ o = (.exit 0, [(4, .ptr h.length 0 4 0 0), (8, .ptr (h.length + 1) 0 3 0 0), (9, .ptr (h.length + 2) 0 3 0 0), (27, .isl (els.map .str)), (28, .int .i64 els.length), (29, .int .i64 els.length)],
      h ++ ([.arr 0 4 [(Able.mk av (c0 :: cs) ae an).enc], .arr 0 3 [.agg [.int .i64 0, .str ⟨#[]⟩, .esl]], .arr 0 3 [.agg [.int .i64 (if v < av then v else av), .str (if hasB (c0 :: cs) c then c else c0), v2]]] ++ g))) ?_ ?_ (.esl, []) (.inl ⟨rfl, rfl⟩)
  · obtain ⟨o, hl, v2, g, hI, ho⟩ := hlp
    subst ho
    unfold termsC
    rcases hI with ⟨he, rfl⟩ | ⟨j, ver, rfl, hj⟩
    · rw [he]
      cases hh : hasB (c0 :: cs) c <;> simp [hh, Able.enc] at hl <;> simp [F19, c19, Able.enc, hct, hh, hl, ifFar, farAll]
    · cases hh : hasB (c0 :: cs) c <;> simp [hh, Able.enc] at hl <;> simp [F19, c19, Able.enc, hct, hh, hl, ifFar, farAll, hj]
  · intro i x r c2 hd hi hx hI K hK
    have hw := wrap_nat (n := i + 1) (by omega)
    have hct := fun h' => contains_ok h.length ae x h' h2
    have ht : els.take (i + 1) = els.take i ++ [x] := by rw [List.take_succ_eq_append_getElem hi, hx]
    have hlen : (els.take i).length = i := by simp; omega
    rw [ht] at hK
    simp only [List.filter_append, List.map_append] at hK
    simp at hw
    obtain ⟨v1, g⟩ := c2
    cases hp : hasB ae x
    · obtain ⟨o, h4, h5⟩ := hK (v1, g) (by simpa [hp] using hI)
      refine ⟨o, ?_, h5⟩
      simp [Able.enc] at h4
      simp [c19L0, hi, hx, hp, Able.enc, hct, hw, h4]
    · have hfl : ((els.take i).filter (hasB ae)).length ≤ 1048576 := Nat.le_trans (List.length_filter_le _ _) (by omega)
      rcases hI with ⟨he, hv⟩ | ⟨j, ver, hv, hj⟩
      · dsimp only at hv
        subst hv
        obtain ⟨o, h4, h5⟩ := hK (.osl (h.length + ((g.length + 1) + 3)) 0 1 0 1, g ++ [.arr 0 1 [.str x], .arr 0 1 [.str x]]) (.inr ⟨g.length + 1, 0, by rw [he]; simp [hp], by rw [he]; simp [hp]⟩)
        refine ⟨o, ?_, h5⟩
        simp [Able.enc] at h4
        simp [c19L0, hi, hx, hp, Able.enc, hct, hw, bslP, appended, appI, h4]
      · dsimp only at hv hj
        subst hv
        have hjl := (List.getElem?_eq_some_iff.1 hj).1
        have hfl' : ((els.take i).filter (hasB ae)).length + 1 ≤ 4294967296 := by omega
        obtain ⟨o, h4, h5⟩ := hK (.osl (h.length + (j + 3)) (ver + 1) 1 0 (((els.take i).filter (hasB ae)).length + 1), List.set (g ++ [ABlock.arr 0 1 [.str x]]) j (ABlock.arr (ver + 1) 1 ((((els.take i).filter (hasB ae)).map AV.str) ++ [AV.str x])))
          (.inr ⟨j, ver + 1, by simp [hp], by rw [List.getElem?_set_self (by simp; omega)]; simp [hp]⟩)
        refine ⟨o, ?_, h5⟩
        simp [Able.enc] at h4
        simp [c19L0, hi, hx, hp, Able.enc, hct, hw, bslP, appended, appI, h4, hj, hfl', List.getElem?_append_left hjl]
  · intro c2 K hI
    refine ⟨_, ?_, c2.1, c2.2, by simpa using hI, rfl⟩
    simp [c19L0]
theorem rterms_ok (ws : Nat) (av : Int) (ae : List ByteArray) (an : ByteArray) (v : Int) (c : ByteArray) (els : List ByteArray) (c0 : ByteArray) (cs : List ByteArray) (h : H) (h1 : (c0 :: cs).length ≤ 1048576) (h2 : ae.length ≤ 1048576) (h3 : els.length ≤ 1048576) :
    callL cfg ws 22 [.int .i64 v, .str c, .isl (els.map .str), (Able.mk av (c0 :: cs) ae an).enc] h = some (termsC v c els ⟨av, c0 :: cs, ae, an⟩ c0, h) := by
  refine callL_fn rfl rfl ?_
  have hct := fun h' => has_ok h.length (c0 :: cs) c h' h1
  simp only [List.map_cons] at hct
  have hlp := loop_post (γ := AV × H) (f := evC (callL cfg) roundsL cfg.pol h.length h.length c22L0) (keep := [2, 7, 8, 9, 10]) els
    (fun i c => SlcIn h.length 3 1 c.2 (((els.take i).filter (hasB ae)).map .str) c.1)
    (fun i _ => [(2, .isl (els.map .str)), (7, .ptr h.length 0 4 0 0), (8, .ptr (h.length + 1) 0 3 0 0), (9, .ptr (h.length + 2) 0 3 0 0), (10, .int .i64 i)])
    (fun i g => h ++ ([.arr 0 4 [(Able.mk av (c0 :: cs) ae an).enc], .arr 0 3 [.agg [.int .i64 0, .str ⟨#[]⟩, .esl]], .arr 0 3 [.agg [.int .i64 (if av < v then av else v), .str (if hasB (c0 :: cs) c then c else c0), g.1]]] ++ g.2))
    (fun _ _ o => ∃ v2 g, SlcIn h.length 3 1 g ((els.filter (hasB ae)).map .str) v2 ∧ o = (.exit 0, [(2, .isl (els.map .str)), (7, .ptr h.length 0 4 0 0), (8, .ptr (h.length + 1) 0 3 0 0), (9, .ptr (h.length + 2) 0 3 0 0), (10, .int .i64 els.length)],
      h ++ ([.arr 0 4 [(Able.mk av (c0 :: cs) ae an).enc], .arr 0 3 [.agg [.int .i64 0, .str ⟨#[]⟩, .esl]], .arr 0 3 [.agg [.int .i64 (if av < v then av else v), .str (if hasB (c0 :: cs) c then c else c0), v2]]] ++ g))) ?_ ?_ (.esl, []) (.inl ⟨rfl, rfl⟩)
  · obtain ⟨o, hl, v2, g, hI, ho⟩ := hlp
    subst ho
    unfold termsC
    have hmn : (if v < av then v else av) = (if av < v then av else v) := by split <;> split <;> omega
    dsimp only
    rw [hmn]
    rcases hI with ⟨he, rfl⟩ | ⟨j, ver, rfl, hj⟩
    · rw [he]
      cases hh : hasB (c0 :: cs) c <;> simp [hh, Able.enc] at hl <;> simp [F22, c22, Able.enc, hct, hh, hl, ifFar, farAll]
    · cases hh : hasB (c0 :: cs) c <;> simp [hh, Able.enc] at hl <;> simp [F22, c22, Able.enc, hct, hh, hl, ifFar, farAll, hj]
  · intro i x r c2 hd hi hx hI K hK
    have hw := wrap_nat (n := i + 1) (by omega)
    have hct := fun h' => has_ok h.length ae x h' h2
    have ht : els.take (i + 1) = els.take i ++ [x] := by rw [List.take_succ_eq_append_getElem hi, hx]
    have hlen : (els.take i).length = i := by simp; omega
    rw [ht] at hK
    simp only [List.filter_append, List.map_append] at hK
    simp at hw
    obtain ⟨v1, g⟩ := c2
    cases hp : hasB ae x
    · obtain ⟨o, h4, h5⟩ := hK (v1, g) (by simpa [hp] using hI)
      refine ⟨o, ?_, h5⟩
      simp [Able.enc] at h4
      simp [c22L0, hi, hx, hp, Able.enc, hct, hw, h4]
    · have hfl : ((els.take i).filter (hasB ae)).length ≤ 1048576 := Nat.le_trans (List.length_filter_le _ _) (by omega)
      rcases hI with ⟨he, hv⟩ | ⟨j, ver, hv, hj⟩
      · dsimp only at hv
        subst hv
        obtain ⟨o, h4, h5⟩ := hK (.osl (h.length + ((g.length + 1) + 3)) 0 1 0 1, g ++ [.arr 0 1 [.str x], .arr 0 1 [.str x]]) (.inr ⟨g.length + 1, 0, by rw [he]; simp [hp], by rw [he]; simp [hp]⟩)
        refine ⟨o, ?_, h5⟩
        simp [Able.enc] at h4
        simp [c22L0, hi, hx, hp, Able.enc, hct, hw, bslP, appended, appI, h4]
      · dsimp only at hv hj
        subst hv
        have hjl := (List.getElem?_eq_some_iff.1 hj).1
        have hfl' : ((els.take i).filter (hasB ae)).length + 1 ≤ 4294967296 := by omega
        obtain ⟨o, h4, h5⟩ := hK (.osl (h.length + (j + 3)) (ver + 1) 1 0 (((els.take i).filter (hasB ae)).length + 1), List.set (g ++ [ABlock.arr 0 1 [.str x]]) j (ABlock.arr (ver + 1) 1 ((((els.take i).filter (hasB ae)).map AV.str) ++ [AV.str x])))
          (.inr ⟨j, ver + 1, by simp [hp], by rw [List.getElem?_set_self (by simp; omega)]; simp [hp]⟩)
        refine ⟨o, ?_, h5⟩
        simp [Able.enc] at h4
        simp [c22L0, hi, hx, hp, Able.enc, hct, hw, bslP, appended, appI, h4, hj, hfl', List.getElem?_append_left hjl]
  · intro c2 K hI
    refine ⟨_, ?_, c2.1, c2.2, by simpa using hI, rfl⟩
    simp [c22L0]

def Able.validB (a : Able) : Bool := decide (1 ≤ a.ver) && decide (a.ver ≤ 9) && namesB a.ctx 1 5 && namesB a.els 0 10 && isNameB a.name
structure Able.Small (a : Able) : Prop where
  ctx : a.ctx.length ≤ 1048576
  els : a.els.length ≤ 1048576
theorem valid_ok (ws : Nat) (a : Able) (ha : a.Small) (h : H) : callL cfg ws 18 [a.enc] h = some (.bool a.validB, h) := by
  refine callL_fn rfl rfl ?_
  obtain ⟨h1, h2⟩ := ha
  simp [F18, c18, Able.enc, names_ok, named_ok, h1, h2, Able.validB, Bool.and_assoc]

def badFrom (p : List ByteArray) : List ByteArray → Bool
  | [] => false
  | x :: r => !isNameB x || p.any (fun y => x.toList == y.toList) || badFrom (p ++ [x]) r
theorem bad_iff : ∀ (r p : List ByteArray), badFrom p r = false ↔ (r.all isNameB = true ∧ distinct r = true ∧ ∀ x ∈ r, ∀ y ∈ p, x.toList ≠ y.toList)
  | [], p => by simp [badFrom, distinct]
  | x :: r, p => by
    simp only [badFrom, Bool.or_eq_false_iff, bad_iff r (p ++ [x]), List.all_cons, distinct, Bool.and_eq_true, List.all_eq_true, Bool.not_eq_true', List.mem_cons, List.mem_append, List.any_eq_false]
    simp
    constructor
    · rintro ⟨⟨h1, h2⟩, h3, h4, h5⟩
      exact ⟨⟨h1, h3⟩, ⟨fun y hy e => h5 y hy x (.inr rfl) e.symm, h4⟩, h2, fun y hy z hz => h5 y hy z (.inl hz)⟩
    · rintro ⟨⟨h1, h3⟩, ⟨h6, h4⟩, h2, h5⟩
      refine ⟨⟨h1, h2⟩, h3, h4, fun y hy z hz => ?_⟩
      rcases hz with hz | rfl
      · exact h5 y hy z hz
      · exact fun e => h6 y hy e.symm
theorem differ_ok (ws : Nat) (l : List ByteArray) (a b : Int) (h : H) (hl : l.length ≤ 1048576) : callL cfg ws 34 [.isl (l.map .str), .int .i64 a, .int .i64 b] h = some (.bool (namesB l a b), h) := by
  refine callL_fn rfl rfl ?_
  have inner : ∀ (i : Nat) (hi : i < l.length), roundsL (evC (callL cfg) roundsL cfg.pol h.length h.length c34L0) [0, 1, 2, 7, 8, 40, 41, 42, 43] [(0, .isl (l.map .str)), (1, .int .i64 a), (2, .int .i64 b), (7, .int .i64 i), (8, .int .i64 0)] h =
      some (if (l.take i).any (fun y => l[i].toList == y.toList) then (.ret, [(6, .bool false)], h) else (.exit 2, [(0, .isl (l.map .str)), (1, .int .i64 a), (2, .int .i64 b), (7, .int .i64 i), (8, .int .i64 i)], h)) := by
    intro i hi
    have hlen : (l.take i).length = i := by simp; omega
    have := loop_list (f := evC (callL cfg) roundsL cfg.pol h.length h.length c34L0) (keep := [0, 1, 2, 7, 8, 40, 41, 42, 43]) (l.take i) (fun j => [(0, .isl (l.map .str)), (1, .int .i64 a), (2, .int .i64 b), (7, .int .i64 i), (8, .int .i64 j)]) (fun _ => h)
      (fun _ r => if r.any (fun y => l[i].toList == y.toList) then (.ret, [(6, .bool false)], h) else (.exit 2, [(0, .isl (l.map .str)), (1, .int .i64 a), (2, .int .i64 b), (7, .int .i64 i), (8, .int .i64 i)], h)) ?_ ?_
    · simpa using this
    · intro j x r hd hj hx K hK
      have hw := wrap_nat (n := j + 1) (by omega)
      simp at hw
      have hji : j < i := by omega
      have hjl : j < l.length := by omega
      have hx' : l[j] = x := by rw [← hx]; simp
      by_cases hv : l[i].toList = x.toList
      · simp [c34L0, hi, hji, hjl, hx', hv]
      · simp [hv] at hK
        simp [c34L0, hi, hji, hjl, hx', hv, hw, hK]
    · intro K
      rw [hlen]
      simp [c34L0]
  have outer := loop_list (f := evC (callL cfg) roundsL cfg.pol h.length h.length c34L1) (keep := [0, 1, 2, 7, 40, 41, 42, 43]) l (fun i => [(0, .isl (l.map .str)), (1, .int .i64 a), (2, .int .i64 b), (7, .int .i64 i)]) (fun _ => h)
      (fun i r => if badFrom (l.take i) r then (.ret, [(6, .bool false)], h) else (.exit 0, [(0, .isl (l.map .str)), (1, .int .i64 a), (2, .int .i64 b), (7, .int .i64 l.length)], h)) ?_ ?_
  · have hb := bad_iff l []
    cases hp : badFrom [] l
    · have h3 := hb.1 hp
      simp [hp] at outer
      simp [F34, c34, outer, namesB, h3.1, h3.2.1]
    · simp [hp] at outer
      have h3 : namesB l a b = false := by
        cases hn : namesB l a b with
        | false => rfl
        | true =>
          simp only [namesB, Bool.and_eq_true] at hn
          rw [hb.2 ⟨hn.2, hn.1.2, by simp⟩] at hp
          cases hp
      simp [F34, c34, outer, h3]
  · intro i x r hd hi hx K hK
    have hw := wrap_nat (n := i + 1) (by omega)
    simp at hw
    have ht : l.take (i + 1) = l.take i ++ [x] := by rw [List.take_succ_eq_append_getElem hi, hx]
    rw [ht] at hK
    have hin := inner i hi
    rw [hx] at hin
    rw [badFrom]
    cases h1 : isNameB x
    · simp [c34L1, hi, hx, isName_ok, h1]
    · cases h2 : (l.take i).any (fun y => x.toList == y.toList)
      · rw [h2] at hin
        simp at hin hK
        simp [c34L1, hi, hx, isName_ok, h1, hin, hw, hK]
      · rw [h2] at hin
        simp at hin
        simp [c34L1, hi, hx, isName_ok, h1, hin]
  · intro K
    simp [c34L1, badFrom]
theorem rvalid_ok (ws : Nat) (a : Able) (ha : a.Small) (h : H) : callL cfg ws 21 [a.enc] h = some (.bool a.validB, h) := by
  refine callL_fn rfl rfl ?_
  obtain ⟨h1, h2⟩ := ha
  simp [F21, c21, Able.enc, differ_ok, isName_ok, h1, h2, Able.validB, Bool.and_assoc]
end Go.Proofs.Ytdefghfdccmebaa
