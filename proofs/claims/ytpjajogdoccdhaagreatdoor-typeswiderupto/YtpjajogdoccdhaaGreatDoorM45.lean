/- The two ways to put arguments in, and to look behind a type. -/
import Derived.Test.YtpjajogdoccdhaaGreatDoorM41
set_option linter.all false
namespace Go.Proofs.YtpjajogdoccdhaaGreatDoor
open Go Go.Avm
def Ty.rput (ps : List ByteArray) (args : List Ty) (t : Ty) : Ty := match t.par ps with
  | some i => args[i]?.getD Ty.zero
  | none => .mk t.kind t.name t.lo t.hi t.free t.ext (t.items.attach.map fun x => if t.comp then x.1.withOf (x.1.of.rput ps args) else x.1) (t.kids.attach.map fun x => x.1.rput ps args)
termination_by t.size
decreasing_by
  · exact Ty.mem_of x.2
  · exact Ty.mem_kids x.2
theorem Ty.rput_eq (ps : List ByteArray) (args : List Ty) (t : Ty) : t.rput ps args = match t.par ps with
  | some i => args[i]?.getD Ty.zero
  | none => .mk t.kind t.name t.lo t.hi t.free t.ext (t.items.map fun x => if t.comp then x.withOf (x.of.rput ps args) else x) (t.kids.map fun x => x.rput ps args) := by
  rw [Ty.rput, att_map t.items (fun x => if t.comp then x.withOf (x.of.rput ps args) else x), att_map t.kids (fun x => x.rput ps args)]
theorem rput_loop0 (t : Ty) (ht : t.wid ≤ 1048576) (ps : List ByteArray) (args : List Ty) (h : Avm.H) (hp : ps.length ≤ 1048576) (hpa : ps.length = args.length) :
    roundsL (evC (callL cfg) roundsL cfg.pol h.length h.length c114L0) [1, 2, 3, 6, 7] [(1, .isl (ps.map .str)), (2, .isl (args.map Ty.enc)), (3, .ptr h.length 0 8 0 0), (6, .ptr (h.length + 1) 0 8 0 0), (7, .int .i64 (0 : Nat))] (h ++ [.arr 0 8 [t.enc], .arr 0 8 [.agg [.int .i64 0, .str ⟨#[]⟩, .int .i64 0, .int .i64 0, .bool false, .bool false, .esl, .esl]]]) = some (match (ps).findIdx? (fun p => eqS p t.name) with | some j => (.ret, [(6, .ptr (h.length + 1) 0 8 0 0)], h ++ [.arr 0 8 [t.enc], .arr 0 8 [(args[j]?.getD Ty.zero).enc]]) | none => (.exit 0, [(1, .isl (ps.map .str)), (2, .isl (args.map Ty.enc)), (3, .ptr h.length 0 8 0 0), (6, .ptr (h.length + 1) 0 8 0 0), (7, .int .i64 ps.length)], h ++ [.arr 0 8 [t.enc], .arr 0 8 [.agg [.int .i64 0, .str ⟨#[]⟩, .int .i64 0, .int .i64 0, .bool false, .bool false, .esl, .esl]]])) := by
  have hlp := loop_list (f := evC (callL cfg) roundsL cfg.pol h.length h.length c114L0) (keep := [1, 2, 3, 6, 7]) ps (fun i => [(1, .isl (ps.map .str)), (2, .isl (args.map Ty.enc)), (3, .ptr h.length 0 8 0 0), (6, .ptr (h.length + 1) 0 8 0 0), (7, .int .i64 i)]) (fun _ => h ++ [.arr 0 8 [t.enc], .arr 0 8 [.agg [.int .i64 0, .str ⟨#[]⟩, .int .i64 0, .int .i64 0, .bool false, .bool false, .esl, .esl]]])
      (fun i r => match (r).findIdx? (fun p => eqS p t.name) with | some j => (.ret, [(6, .ptr (h.length + 1) 0 8 0 0)], h ++ [.arr 0 8 [t.enc], .arr 0 8 [(args[(i + j)]?.getD Ty.zero).enc]]) | none => (.exit 0, [(1, .isl (ps.map .str)), (2, .isl (args.map Ty.enc)), (3, .ptr h.length 0 8 0 0), (6, .ptr (h.length + 1) 0 8 0 0), (7, .int .i64 ps.length)], h ++ [.arr 0 8 [t.enc], .arr 0 8 [.agg [.int .i64 0, .str ⟨#[]⟩, .int .i64 0, .int .i64 0, .bool false, .bool false, .esl, .esl]]])) ?_ ?_
  · simp only [Nat.zero_add] at hlp
    exact hlp
  · intro i x r hd hi hx K hK
    have hw := wrap_nat (n := i + 1) (by omega)
    simp at hw
    have hia : i < args.length := by omega
    rw [List.findIdx?_cons]
    by_cases hv : x.toList = t.name.toList
    · have hv' : eqS x t.name = true := by unfold eqS; exact decide_eq_true hv
      simp only [hv', if_true]
      simp [c114L0, hi, hx, hv, hia]
    · have hv' : eqS x t.name = false := by unfold eqS; exact decide_eq_false hv
      simp only [hv', Bool.false_eq_true, if_false]
      cases hq : r.findIdx? (fun p => eqS p t.name) with
      | none =>
        rw [hq] at hK
        simp at hK
        simp [c114L0, hi, hx, hv, hw, hK]
      | some j =>
        rw [hq] at hK
        dsimp only at hK
        rw [show i + 1 + j = i + (j + 1) by omega] at hK
        simp at hK
        simp [c114L0, hi, hx, hv, hw, hK]
  · intro K
    simp [c114L0]
theorem rput_loop1 (t : Ty) (ht : t.wid ≤ 1048576) (ps : List ByteArray) (args : List Ty) (h : Avm.H) (P : Ty → Ty) (Q : It → It) (hQ : ∀ x, Q x = if t.comp then x.withOf (P x.of) else x) (hP : t.comp = true → ∀ x ∈ t.items, ∀ ws h, callL cfg ws 114 [x.of.enc, .isl (ps.map .str), .isl (args.map Ty.enc)] h = some ((P x.of).enc, h)) :
    roundsL (evC (callL cfg) roundsL cfg.pol h.length h.length c114L1) [1, 2, 3, 6, 8, 9] [(1, .isl (ps.map .str)), (2, .isl (args.map Ty.enc)), (3, .ptr h.length 0 8 0 0), (6, .ptr (h.length + 1) 0 8 0 0), (8, .ptr (h.length + 2) 0 8 0 0), (9, .int .i64 (0 : Nat))] (h ++ [.arr 0 8 [t.enc], .arr 0 8 [.agg [.int .i64 0, .str ⟨#[]⟩, .int .i64 0, .int .i64 0, .bool false, .bool false, .esl, .esl]], .arr 0 8 [.agg [.int .i64 t.kind, .str t.name, .int .i64 t.lo, .int .i64 t.hi, .bool t.free, .bool t.ext, .osl (h.length + 3) 1 12 0 t.items.length, .isl (t.kids.map Ty.enc)]], .arr 1 12 ((upto Q t.items 0).map It.enc)]) = some (.exit 2, [(1, .isl (ps.map .str)), (2, .isl (args.map Ty.enc)), (3, .ptr h.length 0 8 0 0), (6, .ptr (h.length + 1) 0 8 0 0), (8, .ptr (h.length + 2) 0 8 0 0), (9, .int .i64 t.items.length)], h ++ [.arr 0 8 [t.enc], .arr 0 8 [.agg [.int .i64 0, .str ⟨#[]⟩, .int .i64 0, .int .i64 0, .bool false, .bool false, .esl, .esl]], .arr 0 8 [.agg [.int .i64 t.kind, .str t.name, .int .i64 t.lo, .int .i64 t.hi, .bool t.free, .bool t.ext, .osl (h.length + 3) 1 12 0 t.items.length, .isl (t.kids.map Ty.enc)]], .arr 1 12 ((upto Q t.items t.items.length).map It.enc)]) := by
  have hwk := t.wid_items
  refine loop_list (f := evC (callL cfg) roundsL cfg.pol h.length h.length c114L1) (keep := [1, 2, 3, 6, 8, 9]) t.items (fun i => [(1, .isl (ps.map .str)), (2, .isl (args.map Ty.enc)), (3, .ptr h.length 0 8 0 0), (6, .ptr (h.length + 1) 0 8 0 0), (8, .ptr (h.length + 2) 0 8 0 0), (9, .int .i64 i)]) (fun i => h ++ [.arr 0 8 [t.enc], .arr 0 8 [.agg [.int .i64 0, .str ⟨#[]⟩, .int .i64 0, .int .i64 0, .bool false, .bool false, .esl, .esl]], .arr 0 8 [.agg [.int .i64 t.kind, .str t.name, .int .i64 t.lo, .int .i64 t.hi, .bool t.free, .bool t.ext, .osl (h.length + 3) 1 12 0 t.items.length, .isl (t.kids.map Ty.enc)]], .arr 1 12 ((upto Q t.items i).map It.enc)]) (fun _ _ => (.exit 2, [(1, .isl (ps.map .str)), (2, .isl (args.map Ty.enc)), (3, .ptr h.length 0 8 0 0), (6, .ptr (h.length + 1) 0 8 0 0), (8, .ptr (h.length + 2) 0 8 0 0), (9, .int .i64 t.items.length)], h ++ [.arr 0 8 [t.enc], .arr 0 8 [.agg [.int .i64 0, .str ⟨#[]⟩, .int .i64 0, .int .i64 0, .bool false, .bool false, .esl, .esl]], .arr 0 8 [.agg [.int .i64 t.kind, .str t.name, .int .i64 t.lo, .int .i64 t.hi, .bool t.free, .bool t.ext, .osl (h.length + 3) 1 12 0 t.items.length, .isl (t.kids.map Ty.enc)]], .arr 1 12 ((upto Q t.items t.items.length).map It.enc)])) ?_ ?_
  · intro i x r hd hi hx K hK
    have hw := wrap_nat (n := i + 1) (by omega)
    simp at hw
    have hm : x ∈ t.items := by rw [← hx]; exact List.getElem_mem hi
    have hget := upto_get Q It.enc t.items i hi
    have hset := upto_set Q It.enc t.items i hi
    have hln := upto_len Q t.items i
    have hln1 := upto_len Q t.items (i + 1)
    rw [hx] at hget hset
    rw [hQ x] at hset
    cases hc : t.comp
    · have hsame : (upto Q t.items (i + 1)).map It.enc = (upto Q t.items i).map It.enc := by
        rw [← hset, hc]
        simp only [Bool.false_eq_true, if_false]
        refine List.ext_getElem? fun k => ?_
        rw [List.getElem?_set]
        split
        · rename_i e; subst e; rw [hget]; split <;> simp_all
        · rfl
      rw [hsame] at hK
      generalize (upto Q t.items i).map It.enc = els at hget hK ⊢
      unfold Ty.comp at hc
      simp at hc
      simp at hK
      simp [c114L1, hi, hc.1, hc.2, hw, hK]
    · have hcl := fun h' => hP hc x hm h.length h'
      rw [hc] at hset
      simp only [if_true] at hset
      generalize (upto Q t.items i).map It.enc = els at hget hset ⊢
      simp [It.withOf] at hcl hget hset hK
      unfold Ty.comp at hc
      by_cases q8 : t.kind = 8
      · simp [q8] at hK
        simp [c114L1, hi, hx, q8, hcl, hget, hset, hw, hK]
      · have q9 : t.kind = 9 := by simpa [q8] using hc
        simp [q9] at hK
        simp [c114L1, hi, hx, q9, hcl, hget, hset, hw, hK]
  · intro K
    simp [c114L1]
theorem rput_loop2 (t : Ty) (ht : t.wid ≤ 1048576) (ps : List ByteArray) (args : List Ty) (h : Avm.H) (P : Ty → Ty) (Q : It → It) (hP : ∀ x ∈ t.kids, ∀ ws h, callL cfg ws 114 [x.enc, .isl (ps.map .str), .isl (args.map Ty.enc)] h = some ((P x).enc, h)) :
    roundsL (evC (callL cfg) roundsL cfg.pol h.length h.length c114L2) [1, 2, 3, 6, 8, 10] [(1, .isl (ps.map .str)), (2, .isl (args.map Ty.enc)), (3, .ptr h.length 0 8 0 0), (6, .ptr (h.length + 1) 0 8 0 0), (8, .ptr (h.length + 2) 0 8 0 0), (10, .int .i64 (0 : Nat))] (h ++ [.arr 0 8 [t.enc], .arr 0 8 [.agg [.int .i64 0, .str ⟨#[]⟩, .int .i64 0, .int .i64 0, .bool false, .bool false, .esl, .esl]], .arr 0 8 [.agg [.int .i64 t.kind, .str t.name, .int .i64 t.lo, .int .i64 t.hi, .bool t.free, .bool t.ext, .osl (h.length + 3) 1 12 0 t.items.length, .osl (h.length + 4) 1 8 0 t.kids.length]], .arr 1 12 ((t.items.map Q).map It.enc), .arr 1 8 ((upto P t.kids 0).map Ty.enc)]) = some (.exit 4, [(1, .isl (ps.map .str)), (2, .isl (args.map Ty.enc)), (3, .ptr h.length 0 8 0 0), (6, .ptr (h.length + 1) 0 8 0 0), (8, .ptr (h.length + 2) 0 8 0 0), (10, .int .i64 t.kids.length)], h ++ [.arr 0 8 [t.enc], .arr 0 8 [.agg [.int .i64 0, .str ⟨#[]⟩, .int .i64 0, .int .i64 0, .bool false, .bool false, .esl, .esl]], .arr 0 8 [.agg [.int .i64 t.kind, .str t.name, .int .i64 t.lo, .int .i64 t.hi, .bool t.free, .bool t.ext, .osl (h.length + 3) 1 12 0 t.items.length, .osl (h.length + 4) 1 8 0 t.kids.length]], .arr 1 12 ((t.items.map Q).map It.enc), .arr 1 8 ((upto P t.kids t.kids.length).map Ty.enc)]) := by
  have hwk := t.wid_kids
  refine loop_list (f := evC (callL cfg) roundsL cfg.pol h.length h.length c114L2) (keep := [1, 2, 3, 6, 8, 10]) t.kids (fun i => [(1, .isl (ps.map .str)), (2, .isl (args.map Ty.enc)), (3, .ptr h.length 0 8 0 0), (6, .ptr (h.length + 1) 0 8 0 0), (8, .ptr (h.length + 2) 0 8 0 0), (10, .int .i64 i)]) (fun i => h ++ [.arr 0 8 [t.enc], .arr 0 8 [.agg [.int .i64 0, .str ⟨#[]⟩, .int .i64 0, .int .i64 0, .bool false, .bool false, .esl, .esl]], .arr 0 8 [.agg [.int .i64 t.kind, .str t.name, .int .i64 t.lo, .int .i64 t.hi, .bool t.free, .bool t.ext, .osl (h.length + 3) 1 12 0 t.items.length, .osl (h.length + 4) 1 8 0 t.kids.length]], .arr 1 12 ((t.items.map Q).map It.enc), .arr 1 8 ((upto P t.kids i).map Ty.enc)]) (fun _ _ => (.exit 4, [(1, .isl (ps.map .str)), (2, .isl (args.map Ty.enc)), (3, .ptr h.length 0 8 0 0), (6, .ptr (h.length + 1) 0 8 0 0), (8, .ptr (h.length + 2) 0 8 0 0), (10, .int .i64 t.kids.length)], h ++ [.arr 0 8 [t.enc], .arr 0 8 [.agg [.int .i64 0, .str ⟨#[]⟩, .int .i64 0, .int .i64 0, .bool false, .bool false, .esl, .esl]], .arr 0 8 [.agg [.int .i64 t.kind, .str t.name, .int .i64 t.lo, .int .i64 t.hi, .bool t.free, .bool t.ext, .osl (h.length + 3) 1 12 0 t.items.length, .osl (h.length + 4) 1 8 0 t.kids.length]], .arr 1 12 ((t.items.map Q).map It.enc), .arr 1 8 ((upto P t.kids t.kids.length).map Ty.enc)])) ?_ ?_
  · intro i x r hd hi hx K hK
    have hw := wrap_nat (n := i + 1) (by omega)
    simp at hw
    have hm : x ∈ t.kids := by rw [← hx]; exact List.getElem_mem hi
    have hcl := fun h' => hP x hm h.length h'
    have hget := upto_get P Ty.enc t.kids i hi
    have hset := upto_set P Ty.enc t.kids i hi
    rw [hx] at hget hset
    generalize (upto P t.kids i).map Ty.enc = els at hget hset ⊢
    generalize (t.items.map Q).map It.enc = its at hK ⊢
    simp at hcl hget hset hK
    simp [c114L2, hi, hx, hcl, hget, hset, hw, hK]
  · intro K
    simp [c114L2]
theorem rput_ok (ps : List ByteArray) (args : List Ty) (hp : ps.length ≤ 1048576) (hpa : ps.length = args.length) : ∀ (n : Nat) (t : Ty), t.size ≤ n → t.wid ≤ 1048576 → ∀ ws h, callL cfg ws 114 [t.enc, .isl (ps.map .str), .isl (args.map Ty.enc)] h = some ((t.rput ps args).enc, h)
  | 0, t, ht, _, _, _ => by have := t.size_pos; omega
  | n + 1, t, ht, hw0, ws, h => by
    have hwk := t.wid_kids
    have hwi := t.wid_items
    have hli : t.items.length ≤ 4294967296 := by omega
    have hlk : t.kids.length ≤ 4294967296 := by omega
    have l0 := rput_loop0 t hw0 ps args h hp hpa
    have l1 := rput_loop1 t hw0 ps args h (fun x => x.rput ps args) (fun x => if t.comp then x.withOf (x.of.rput ps args) else x) (fun _ => rfl) (fun _ x hx ws h => rput_ok ps args hp hpa n x.of (by have := Ty.mem_of hx; omega) (Nat.le_trans (Ty.wid_itof hx) hw0) ws h)
    have l2 := rput_loop2 t hw0 ps args h (fun x => x.rput ps args) (fun x => if t.comp then x.withOf (x.of.rput ps args) else x) (fun x hx ws h => rput_ok ps args hp hpa n x (by have := Ty.mem_kids hx; omega) (Nat.le_trans (Ty.wid_kid hx) hw0) ws h)
    rw [upto_zero, upto_all] at l1 l2
    have hfi : ps.findIdx? (fun p => eqS p t.name) = ps.findIdx? (eqS t.name) := by congr 1; funext p; exact eqS_symm _ _
    rw [hfi] at l0
    refine callL_fn rfl rfl ?_
    rw [Ty.rput_eq]
    generalize (fun x : It => if t.comp then x.withOf (x.of.rput ps args) else x) = Q at l1 l2 ⊢
    simp [-List.map_map] at l1 l2
    by_cases q10 : t.kind = 10
    · by_cases qk : t.kids = []
      · cases qi : ps.findIdx? (eqS t.name) with
        | some i =>
          have hpar : t.par ps = some i := by simp [Ty.par, q10, qk, qi]
          rw [hpar]
          rw [qi] at l0
          simp [q10, qk] at l0
          simp [F114, c114, q10, qk, l0]
        | none =>
          have hpar : t.par ps = none := by simp [Ty.par, q10, qk, qi]
          rw [hpar]
          rw [qi] at l0
          simp [q10, qk, -List.map_map] at l0 l1 l2
          simp [F114, c114, q10, qk, l0, l1, l2, hli, hlk, bslP, appended, elsOf, look, appI, -List.map_map, take_map2]
      · have hpar : t.par ps = none := by simp [Ty.par, qk]
        rw [hpar]
        simp [q10, -List.map_map] at l1 l2
        simp [F114, c114, q10, qk, l1, l2, hli, hlk, bslP, appended, elsOf, look, appI, -List.map_map, take_map2]
    · have hpar : t.par ps = none := by simp [Ty.par, q10]
      rw [hpar]
      simp [F114, c114, q10, l1, l2, hli, hlk, bslP, appended, elsOf, look, appI, -List.map_map, take_map2]
end Go.Proofs.YtpjajogdoccdhaaGreatDoor
namespace Go.Proofs.YtpjajogdoccdhaaGreatDoor
open Go Go.Avm
/-- A type without what lies in items that are no components. -/
def Ty.strip (t : Ty) : Ty := .mk t.kind t.name t.lo t.hi t.free t.ext (t.items.attach.map fun x => if t.comp then x.1.withOf x.1.of.strip else x.1.withOf Ty.zero) (t.kids.attach.map fun x => x.1.strip)
termination_by t.size
decreasing_by
  · exact Ty.mem_of x.2
  · exact Ty.mem_kids x.2
theorem Ty.strip_eq (t : Ty) : t.strip = .mk t.kind t.name t.lo t.hi t.free t.ext (t.items.map fun x => if t.comp then x.withOf x.of.strip else x.withOf Ty.zero) (t.kids.map Ty.strip) := by
  rw [Ty.strip, att_map t.items (fun x => if t.comp then x.withOf x.of.strip else x.withOf Ty.zero), att_map t.kids Ty.strip]
theorem strip_zero : Ty.zero.strip = Ty.zero := by rw [Ty.strip_eq]; simp [Ty.zero]
theorem strip_kind (t : Ty) : t.strip.kind = t.kind := by rw [Ty.strip_eq]; rfl
theorem strip_name (t : Ty) : t.strip.name = t.name := by rw [Ty.strip_eq]; rfl
theorem strip_kids (t : Ty) : t.strip.kids = t.kids.map Ty.strip := by rw [Ty.strip_eq]; rfl
theorem strip_par (ps : List ByteArray) (t : Ty) : t.strip.par ps = t.par ps := by
  unfold Ty.par
  rw [strip_kind, strip_name, strip_kids]
  simp only [List.map_eq_nil_iff]
theorem get_strip (args : List Ty) (i : Nat) : (args[i]?.getD Ty.zero).strip = (args.map Ty.strip)[i]?.getD Ty.zero := by
  rw [List.getElem?_map]
  cases args[i]? with
  | none => exact strip_zero
  | some a => rfl
theorem comp_mk (t : Ty) (x1 : ByteArray) (x2 x3 : Int) (x4 x5 : Bool) (x6 : List It) (x7 : List Ty) : (Ty.mk t.kind x1 x2 x3 x4 x5 x6 x7).comp = t.comp := rfl
theorem withOf_of (x : It) (t : Ty) : (x.withOf t).of = t := rfl
theorem withOf_twice (x : It) (t u : Ty) : (x.withOf t).withOf u = x.withOf u := rfl
theorem withOf_self (x : It) : x.withOf x.of = x := by cases x; rfl
theorem strip_comp (t : Ty) : t.strip.comp = t.comp := by rw [Ty.strip_eq]; rfl
theorem strip_put (ps : List ByteArray) (args : List Ty) : ∀ (n : Nat) (t : Ty), t.size ≤ n → (t.put ps args).strip = (t.strip.put ps (args.map Ty.strip)).strip
  | 0, t, h => by have := t.size_pos; omega
  | n + 1, t, h => by
    rw [Ty.put_eq ps args t, Ty.put_eq ps _ t.strip, strip_par]
    cases hp : t.par ps with
    | some i =>
      dsimp only
      rw [← get_strip]
      have hidem : ∀ (k : Nat) (u : Ty), u.size ≤ k → u.strip.strip = u.strip := by
        intro k
        induction k with
        | zero => intro u hu; have := u.size_pos; omega
        | succ k ih =>
          intro u hu
          conv => lhs; rw [Ty.strip_eq]
          rw [Ty.strip_eq u]
          simp only [Ty.kind_mk, Ty.name_mk, Ty.lo_mk, Ty.hi_mk, Ty.free_mk, Ty.ext_mk, Ty.items_mk, Ty.kids_mk, comp_mk, List.map_map]
          congr 1
          · refine List.map_congr_left fun x hx => ?_
            by_cases hc : u.comp = true
            · simp [hc, withOf_twice, withOf_of, ih x.of (by have := Ty.mem_of hx; omega)]
            · simp [hc, withOf_twice]
          · exact List.map_congr_left fun x hx => ih x (by have := Ty.mem_kids hx; omega)
      exact (hidem _ _ (Nat.le_refl _)).symm
    | none =>
      dsimp only
      rw [Ty.strip_eq, Ty.strip_eq (Ty.mk t.strip.kind _ _ _ _ _ _ _)]
      rw [Ty.strip_eq t]
      simp only [Ty.kind_mk, Ty.name_mk, Ty.lo_mk, Ty.hi_mk, Ty.free_mk, Ty.ext_mk, Ty.items_mk, Ty.kids_mk, comp_mk, List.map_map]
      congr 1
      · refine List.map_congr_left fun x hx => ?_
        by_cases hc : t.comp = true
        · simp [hc, withOf_twice, withOf_of, strip_put ps args n x.of (by have := Ty.mem_of hx; omega)]
        · simp [hc, withOf_twice]
      · exact List.map_congr_left fun x hx => strip_put ps args n x (by have := Ty.mem_kids hx; omega)
theorem strip_rput (ps : List ByteArray) (args : List Ty) : ∀ (n : Nat) (t : Ty), t.size ≤ n → (t.rput ps args).strip = (t.put ps args).strip
  | 0, t, h => by have := t.size_pos; omega
  | n + 1, t, h => by
    rw [Ty.put_eq ps args t, Ty.rput_eq ps args t]
    cases hp : t.par ps with
    | some i => rfl
    | none =>
      dsimp only
      rw [Ty.strip_eq, Ty.strip_eq (Ty.mk t.kind _ _ _ _ _ (t.items.map fun x => x.withOf (x.of.put ps args)) _)]
      simp only [Ty.kind_mk, Ty.name_mk, Ty.lo_mk, Ty.hi_mk, Ty.free_mk, Ty.ext_mk, Ty.items_mk, Ty.kids_mk, comp_mk, List.map_map]
      congr 1
      · refine List.map_congr_left fun x hx => ?_
        by_cases hc : t.comp = true
        · simp [hc, withOf_twice, withOf_of, strip_rput ps args n x.of (by have := Ty.mem_of hx; omega)]
        · simp [hc, withOf_twice]
      · exact List.map_congr_left fun x hx => strip_rput ps args n x (by have := Ty.mem_kids hx; omega)
theorem put_nil (args : List Ty) : ∀ (n : Nat) (t : Ty), t.size ≤ n → t.put [] args = t
  | 0, t, h => by have := t.size_pos; omega
  | n + 1, t, h => by
    rw [Ty.put_eq]
    have hp : t.par [] = none := by unfold Ty.par; split <;> rfl
    rw [hp]
    dsimp only
    have h1 : (t.items.map fun x => x.withOf (x.of.put [] args)) = t.items := by
      conv => rhs; rw [← List.map_id t.items]
      refine List.map_congr_left fun x hx => ?_
      rw [put_nil args n x.of (by have := Ty.mem_of hx; omega), withOf_self]; rfl
    have h2 : (t.kids.map fun x => x.put [] args) = t.kids := by
      conv => rhs; rw [← List.map_id t.kids]
      exact List.map_congr_left fun x hx => put_nil args n x (by have := Ty.mem_kids hx; omega)
    rw [h1, h2]
    cases t; rfl
theorem strip_nodes : ∀ (n : Nat) (t : Ty), t.size ≤ n → t.strip.nodes = t.nodes
  | 0, t, h => by have := t.size_pos; omega
  | n + 1, t, h => by
    rw [Ty.nodes_eq, Ty.nodes_eq t]
    have hin : t.strip.inner = t.inner.map Ty.strip := by
      unfold Ty.inner
      rw [strip_comp, strip_kids, Ty.strip_eq t]
      cases hc : t.comp <;> simp [hc, withOf_of, Function.comp_def]
    rw [hin, List.map_map]
    congr 2
    exact List.map_congr_left fun x hx => strip_nodes n x (by have := Ty.mem_inner hx; omega)
/-- The document's way to look behind a type. -/
def rstep (m : Md) (t : Ty) : Option Ty := match m.defs.find? (isD t.name) with
  | none => none
  | some d => if d.params.length ≠ t.kids.length then none else if (d.of.rput d.params t.kids).nodes ≤ 600 then some (d.of.rput d.params t.kids) else none
def rbeh (m : Md) : Nat → Ty → Option Ty
  | 0, t => if t.kind = 10 then none else some t
  | n + 1, t => if t.kind = 10 then (rstep m t).bind (rbeh m n) else some t
def Md.lim (m : Md) : Prop := ∀ d ∈ m.defs, d.of.nodes ≤ 600
theorem step_sim (m : Md) (hl : m.lim) {t u : Ty} (h : t.strip = u.strip) : (stepB m t).map Ty.strip = (rstep m u).map Ty.strip := by
  have hn : t.name = u.name := by rw [← strip_name t, h, strip_name]
  have hk : t.kids.map Ty.strip = u.kids.map Ty.strip := by rw [← strip_kids t, h, strip_kids]
  have hkl : t.kids.length = u.kids.length := by simpa using congrArg List.length hk
  unfold stepB rstep
  rw [hn]
  cases hd : m.defs.find? (isD u.name) with
  | none => rfl
  | some d =>
    dsimp only
    have hdm := List.mem_of_find?_eq_some hd
    rw [hkl]
    by_cases q1 : d.params.length ≠ u.kids.length
    · rw [if_pos q1, if_pos q1]
    · rw [if_neg q1, if_neg q1]
      have e1 : (d.of.rput d.params u.kids).strip = (d.of.put d.params t.kids).strip := by
        rw [strip_rput _ _ _ _ (Nat.le_refl _), strip_put _ _ _ _ (Nat.le_refl _), ← hk, ← strip_put _ _ _ _ (Nat.le_refl _)]
      have e2 : (d.of.rput d.params u.kids).nodes = (d.of.put d.params t.kids).nodes := by
        rw [← strip_nodes _ _ (Nat.le_refl _), e1, strip_nodes _ _ (Nat.le_refl _)]
      by_cases q2 : d.params = []
      · rw [if_pos q2]
        rw [q2, put_nil _ _ _ (Nat.le_refl _)] at e1 e2
        rw [q2, e2, if_pos (hl d hdm)]
        exact congrArg some e1.symm
      · rw [if_neg q2, e2]
        by_cases q3 : (d.of.put d.params t.kids).nodes ≤ 600
        · rw [if_pos q3, if_pos q3]; exact congrArg some e1.symm
        · rw [if_neg q3, if_neg q3]
theorem beh_sim (m : Md) (hl : m.lim) : ∀ (n : Nat) (t u : Ty), t.strip = u.strip → (beh m (n + 1) t).map Ty.strip = (rbeh m n u).map Ty.strip
  | n, t, u, h => by
    have hk : t.kind = u.kind := by rw [← strip_kind t, h, strip_kind]
    have hs := step_sim m hl h
    unfold beh
    by_cases q : u.kind = 10
    · rw [hk, if_pos q]
      cases n with
      | zero =>
        unfold rbeh
        rw [if_pos q]
        cases stepB m t <;> rfl
      | succ n =>
        unfold rbeh
        rw [if_pos q]
        cases h1 : stepB m t with
        | none =>
          rw [h1] at hs
          cases h2 : rstep m u with
          | none => rfl
          | some v => rw [h2] at hs; cases hs
        | some w =>
          rw [h1] at hs
          cases h2 : rstep m u with
          | none => rw [h2] at hs; cases hs
          | some v =>
            rw [h2] at hs
            exact beh_sim m hl n w v (by simpa using hs)
    · rw [hk, if_neg q]
      cases n <;> (unfold rbeh; rw [if_neg q]; exact congrArg some h)
theorem beh_isSome (m : Md) (hl : m.lim) (n : Nat) (t : Ty) : (beh m (n + 1) t).isSome = (rbeh m n t).isSome := by
  have h := congrArg Option.isSome (beh_sim m hl n t t rfl)
  simpa using h
end Go.Proofs.YtpjajogdoccdhaaGreatDoor
