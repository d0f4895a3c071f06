/- Is there one that is no name? By the machine. -/
import Derived.Test.YtpnnkjhofkignaaGreatDoorC
import Derived.Test.YtpnnkjhofkignaaGreatDoorProg
import Derived.Test.YtpnnkjhofkignaaGreatDoorAvmClose
import Derived.Test.YtpnnkjhofkignaaGreatDoorAvmSimp
set_option linter.all false
namespace Go.Proofs.YtpnnkjhofkignaaGreatDoor
open Go Go.Avm
def isNameB (s : ByteArray) : Bool := decide (1 ≤ s.size) && decide (s.size ≤ 30)
def fnOf : List (Nat × F) → FuncId → Option F
  | [], _ => none
  | (k, F) :: l, f => if f = k then some F else fnOf l f
theorem fnOf_mem : ∀ {l : List (Nat × F)} {f : FuncId} {F : F}, fnOf l f = some F → (f, F) ∈ l
  | [], _, _, h => by cases h
  | (k, G) :: l, f, F, h => by
    rw [fnOf] at h
    split at h
    · rename_i e; cases h; subst e; simp
    · exact List.mem_cons_of_mem _ (fnOf_mem h)
set_option maxRecDepth 100000
def fnl0 : List (Nat × F) := [(31, F31), (47, F47), (48, F48), (71, F71)]
def cfg0 : Cfg := ⟨fnOf fnl0, fun _ => none⟩
def pf0 (f : FuncId) : Bool := match cfg0.pol f with | some .snap => true | some (.pur _) => true | _ => false
set_option maxRecDepth 100000 in
theorem checked0 : fnl0.all (fun p => fOkB Tryz.prog pf0 p.1 p.2) = true := by kernel_rfl
theorem follows : Tryz.prog.follows .mixedOrders = true := by kernel_rfl
theorem cfg0_ok (w0 : World) : CfgOk Tryz.prog w0 (drawIs Tryz.prog pf0) cfg0 where
  fn := fun f F _ hF => fOk_of (List.all_eq_true.1 checked0 _ (fnOf_mem hF))
  ext := fun f x hx => by cases hx
  draw := drawAll follows fun g hg => by
    unfold pf0 at hg
    split at hg
    · rename_i h; exact .inl h
    · rename_i b h; exact .inr ⟨b, h⟩
    · cases hg
theorem named0_ok (ws : Nat) (s : ByteArray) (h : H) : callL cfg0 ws 31 [.str s] h = some (.bool (isNameB s), h) := by
  refine callL_fn rfl rfl ?_
  simp [F31, c31, isNameB]; norm_cast
theorem unnamed_ok (ws : Nat) (s : ByteArray) (h : H) : callL cfg0 ws 48 [.str s] h = some (.bool (!isNameB s), h) := by
  refine callL_fn rfl rfl ?_
  simp [F48, c48, named0_ok]
theorem indexFunc_ok (ws : Nat) (l : List ByteArray) (h : H) (hl : l.length ≤ 1048576) : ∃ n : Int, callL cfg0 ws 71 [.isl (l.map .str), .clos 48 0 []] h = some (.int .i64 n, h) ∧ decide (0 ≤ n) = l.any (fun x => !isNameB x) := by
  have := loop_list (f := evC (callL cfg0) roundsL cfg0.pol h.length h.length c71L0) (keep := [0, 1, 7, 8]) l (fun i => [(0, .isl (l.map .str)), (1, .clos 48 0 []), (7, .int .i64 l.length), (8, .int .i64 i)]) (fun _ => h)
    (fun i r => match r.findIdx? (fun x => !isNameB x) with | some j => (.ret, [(4, .int .i64 ((i + j : Nat) : Int))], h) | none => (.exit 0, [(0, .isl (l.map .str)), (1, .clos 48 0 []), (7, .int .i64 l.length), (8, .int .i64 l.length)], h)) ?_ ?_
  · refine ⟨match l.findIdx? (fun x => !isNameB x) with | some j => j | none => -1, callL_fn rfl rfl ?_, ?_⟩
    · cases hp : l.findIdx? (fun x => !isNameB x) <;> simp [hp] at this <;> simp [F71, c71, this]
    · cases hp : l.findIdx? (fun x => !isNameB x)
      · have h3 : (l.findIdx? (fun x => !isNameB x)).isSome = false := by rw [hp]; rfl
        rw [List.findIdx?_isSome] at h3
        rw [h3]; rfl
      · have h2 : (l.findIdx? (fun x => !isNameB x)).isSome = true := by rw [hp]; rfl
        rw [List.findIdx?_isSome] at h2
        rw [h2]; simp
  · intro i x r hd hi hx K hK
    have hw := wrap_nat (n := i + 1) (by omega)
    simp at hw
    have hpol : cfg0.pol 48 = some .snap := rfl
    rw [List.findIdx?_cons]
    cases hv : isNameB x
    · simp [c71L0, hi, hx, unnamed_ok, hv, hpol]
    · cases hp : r.findIdx? (fun x => !isNameB x) <;> simp [hp] at hK <;> simp [c71L0, hi, hx, unnamed_ok, hv, hpol, hw, hK]
      omega
  · intro K
    simp [c71L0]
theorem containsFunc_ok (ws : Nat) (l : List ByteArray) (h : H) (hl : l.length ≤ 1048576) : callL cfg0 ws 47 [.isl (l.map .str), .clos 48 0 []] h = some (.bool (l.any (fun x => !isNameB x)), h) := by
  obtain ⟨n, h1, h2⟩ := indexFunc_ok h.length l h hl
  refine callL_fn rfl rfl ?_
  simp [F47, c47, h1, h2]
end Go.Proofs.YtpnnkjhofkignaaGreatDoor
