/- Whether a value fits a type: the program. -/
import Derived.Test.YtpjajogdoccdhaaGreatDoorM41
set_option linter.all false
namespace Go.Proofs.YtpjajogdoccdhaaGreatDoor
open Go Go.Avm
/-- One component of a record. -/
def partB (sub : Ty → Val → Bool) (p : It × Val) : Bool := (decide (p.2.kind = 12) && (hasP false false false p.2 && mayP p.1)) || sub p.1.of p.2
/-- A value of a kind, what lies in it judged by sub. -/
def fitS (b : Ty) (v : Val) (sub : Ty → Val → Bool) : Bool :=
  if b.kind = 0 then hasP false false false v
  else if b.kind = 1 then hasP true false false v && inP v.int 0 1
  else if b.kind = 2 then hasP true false false v && (inP v.int (-1000000000000000) 1000000000000000 && (b.free || (b.ext || inP v.int b.lo b.hi)))
  else if b.kind = 3 then hasP true false false v && inP v.int 0 ((b.items.length : Int) - 1)
  else if b.kind = 4 then hasP false true false v && allowP b (v.bytes.size : Int) 4000
  else if b.kind = 5 then hasP false true false v && (v.bytes.data.toList.all d01 && allowP b (v.bytes.size : Int) 32000)
  else if b.kind = 6 then arcP v
  else if b.kind = 11 then hasP false true false v && decide (v.bytes.size ≤ 4000)
  else if b.kind = 7 then hasP false false true v && (allowP b (v.items.length : Int) 200 && v.items.all (sub (b.kids.headD Ty.zero)))
  else if b.kind = 9 then hasP true false true v && (inP v.int 0 ((b.items.length : Int) - 1) && (decide (v.items.length = 1) && sub ((b.items[v.int.toNat]?.map It.of).getD Ty.zero) (v.items.headD (.mk 0 0 ⟨#[]⟩ []))))
  else hasP false false true v && (decide (v.items.length = b.items.length) && (b.items.zip v.items).all (partB sub))
def fitB (m : Md) : Nat → Ty → Val → Bool
  | 0, _, _ => false
  | n + 1, t, v => match beh m 21 t with
    | none => false
    | some b => decide (v.kind = b.kind) && fitS b v (fitB m n)
theorem eqS_nil (r : ByteArray) (q : Prop) [Decidable q] (h : r.data.toList = [] ↔ q) : eqS r ⟨#[]⟩ = decide q := by
  unfold eqS
  rw [ByteArray.toList_eq, ByteArray.toList_eq]
  exact decide_eq_decide.2 (by simpa using h)
theorem containsV_ok {g : FuncId} {k : Nat} {p : Val → Bool} {cap cap' : List AV} (l : List Val) (hl : l.length ≤ 1048576) (hs : Still cfg g) (h : Avm.H) (hcap : snapL (snap h 7) cap = some cap') (hcp : pureL cap' = true) (hp : ∀ x ∈ l, ∀ ws h', callL cfg ws g (cap'.take k ++ ([x.enc] ++ cap'.drop k)) h' = some (.bool (p x), h')) (ws : Nat) :
    callL cfg ws 54 [.isl (l.map Val.enc), .clos g k cap] h = some (.bool (l.any p), h) :=
  containsFunc_gen (K := 106) (sz := 4) (ag := true) rfl rfl rfl rfl hl (by simp) (Val.henc l) hs hcap hcp hp ws
theorem fits_loop (m : Md) (b : Ty) (v : Val) (hlen : v.items.length = b.items.length) (hvl : v.items.length ≤ 1048576) (sub : Ty → Val → Bool) (hsub : ∀ i ∈ b.items, ∀ x ∈ v.items, ∀ ws h, callL cfg ws 25 [m.enc, i.of.enc, x.enc] h = some (.bool (sub i.of x), h)) (h : Avm.H) :
    ∃ g, roundsL (evC (callL cfg) roundsL cfg.pol h.length h.length c25L0) [3, 4, 186, 187, 188] [(3, .ptr h.length 0 2 0 0), (4, .ptr (h.length + 1) 0 8 0 0), (186, .isl (v.items.map Val.enc)), (187, .int .i64 v.items.length), (188, .int .i64 (0 : Nat))] (h ++ ([.arr 0 2 [m.enc], .arr 0 8 [b.enc], .arr 0 4 [v.enc]] ++ [])) = some (if (b.items.zip v.items).all (partB sub) = true then (.exit 1, [(3, .ptr h.length 0 2 0 0), (4, .ptr (h.length + 1) 0 8 0 0), (186, .isl (v.items.map Val.enc)), (187, .int .i64 v.items.length), (188, .int .i64 v.items.length)], h ++ ([.arr 0 2 [m.enc], .arr 0 8 [b.enc], .arr 0 4 [v.enc]] ++ g)) else (.ret, [(6, .bool false)], h ++ ([.arr 0 2 [m.enc], .arr 0 8 [b.enc], .arr 0 4 [v.enc]] ++ g))) := by
  have hzl : (b.items.zip v.items).length = v.items.length := by simp [hlen]
  have hl : (b.items.zip v.items).length ≤ 1048576 := by omega
  have hlp := loop_post (γ := Avm.H) (f := evC (callL cfg) roundsL cfg.pol h.length h.length c25L0) (keep := [3, 4, 186, 187, 188]) (b.items.zip v.items) (fun _ _ => True)
      (fun i _ => [(3, .ptr h.length 0 2 0 0), (4, .ptr (h.length + 1) 0 8 0 0), (186, .isl (v.items.map Val.enc)), (187, .int .i64 v.items.length), (188, .int .i64 i)]) (fun _ g => h ++ ([.arr 0 2 [m.enc], .arr 0 8 [b.enc], .arr 0 4 [v.enc]] ++ g))
      (fun _ r o => ∃ g, o = if r.all (partB sub) = true then (.exit 1, [(3, .ptr h.length 0 2 0 0), (4, .ptr (h.length + 1) 0 8 0 0), (186, .isl (v.items.map Val.enc)), (187, .int .i64 v.items.length), (188, .int .i64 v.items.length)], h ++ ([.arr 0 2 [m.enc], .arr 0 8 [b.enc], .arr 0 4 [v.enc]] ++ g)) else (.ret, [(6, .bool false)], h ++ ([.arr 0 2 [m.enc], .arr 0 8 [b.enc], .arr 0 4 [v.enc]] ++ g))) ?_ ?_ [] trivial
  · obtain ⟨o, h1, g, h2⟩ := hlp
    exact ⟨g, h2 ▸ h1⟩
  · intro i x r g hd hi hx _ K hK
    have hw := wrap_nat (n := i + 1) (by omega)
    simp at hw
    have hiv : i < v.items.length := by omega
    have hib : i < b.items.length := by omega
    obtain ⟨y, x⟩ := x
    rw [List.getElem_zip] at hx
    have hxv : v.items[i] = x := congrArg Prod.snd hx
    have hxb : b.items[i] = y := congrArg Prod.fst hx
    have hmx : x ∈ v.items := by rw [← hxv]; exact List.getElem_mem hiv
    have hmy : y ∈ b.items := by rw [← hxb]; exact List.getElem_mem hib
    have e1 := fun ws h => hsub y hmy x hmx ws h
    have e2 := fun ws h => has0_ok x ws h
    have e3 := fun ws h => may_ok y ws h
    simp [Md.enc] at e1 e2 e3
    cases hv : partB sub (y, x)
    · refine ⟨_, ?_, g ++ [.arr 0 4 [x.enc]], by simp only [List.all_cons, hv, Bool.false_and, Bool.false_eq_true, if_false]; rfl⟩
      unfold partB at hv
      simp at hv
      by_cases q1 : x.kind = 12
      · simp [q1] at e1 e2
        cases q2 : hasP false false false x
        · rw [q2] at e2
          simp [c25L0, c25S19, Md.enc, hiv, hib, hxv, hxb, e1, e2, hv, q1]
        · rw [q2] at e2
          cases q3 : mayP y
          · rw [q3] at e3
            simp [c25L0, c25S19, Md.enc, hiv, hib, hxv, hxb, e1, e2, e3, hv, q1]
          · simp [q1, q2, q3] at hv
      · simp [c25L0, c25S19, Md.enc, hiv, hib, hxv, hxb, e1, hv, q1]
    · obtain ⟨o, h4, g2, h5⟩ := hK (g ++ [.arr 0 4 [x.enc]]) trivial
      refine ⟨o, ?_, g2, by simp only [List.all_cons, hv, Bool.true_and]; exact h5⟩
      unfold partB at hv
      simp at hv
      by_cases q1 : x.kind = 12
      · simp [q1] at e1 e2
        simp [Md.enc, q1] at h4
        cases q2 : hasP false false false x
        · rw [q2] at e2
          simp [q1, q2] at hv
          simp [c25L0, c25S19, Md.enc, hiv, hib, hxv, hxb, e1, e2, hv, q1, hw, h4]
        · rw [q2] at e2
          cases q3 : mayP y
          · rw [q3] at e3
            simp [q1, q2, q3] at hv
            simp [c25L0, c25S19, Md.enc, hiv, hib, hxv, hxb, e1, e2, e3, hv, q1, hw, h4]
          · rw [q3] at e3
            simp [c25L0, c25S19, Md.enc, hiv, hib, hxv, hxb, e2, e3, q1, hw, h4]
      · simp [q1] at hv
        simp [Md.enc] at h4
        simp [c25L0, c25S19, Md.enc, hiv, hib, hxv, hxb, e1, hv, q1, hw, h4]
  · intro g K _
    refine ⟨_, ?_, g, by simp only [List.all_nil, if_true]; rfl⟩
    simp [c25L0, Md.enc, hlen]
theorem fitsK_ok (m : Md) (t : Ty) (v : Val) (hv : v.size ≤ 1048576) (b : Ty) (hb1 : b.wid ≤ 1048576) (sub : Ty → Val → Bool)
    (hsub : ∀ x ∈ v.items, ∀ ws h, callL cfg ws 25 [m.enc, (b.kids.headD Ty.zero).enc, x.enc] h = some (.bool (sub (b.kids.headD Ty.zero) x), h)) (hk : b.kids.length = 1) (ws : Nat) (h : Avm.H) :
    callL cfg ws 54 [.isl (v.items.map Val.enc), .clos 55 0 [.ptr h.length 0 2 0 0, .ptr (h.length + 1) 0 8 0 0]] (h ++ [.arr 0 2 [m.enc], .arr 0 8 [b.enc], .arr 0 4 [v.enc]]) = some (.bool (!v.items.all (sub (b.kids.headD Ty.zero))), h ++ [.arr 0 2 [m.enc], .arr 0 8 [b.enc], .arr 0 4 [v.enc]]) := by
  have hl : v.items.length ≤ 1048576 := by have := v.len_items; omega
  obtain ⟨k, hk⟩ := List.length_eq_one_iff.1 hk
  have hp : ∀ x ∈ v.items, ∀ ws h', callL cfg ws 55 [x.enc, .iptr m.enc.cells, .iptr b.enc.cells] h' = some (.bool (!sub (b.kids.headD Ty.zero) x), h') := fun x hx ws h' => by
    have e1 := fun ws h => hsub x hx ws h
    rw [hk] at e1
    simp [Md.enc] at e1
    refine callL_fn rfl rfl ?_
    simp [F55, c55, Md.enc, hk, e1]
  have h1 := containsV_ok (g := 55) (k := 0) (cap := [.ptr h.length 0 2 0 0, .ptr (h.length + 1) 0 8 0 0]) (cap' := [.iptr m.enc.cells, .iptr b.enc.cells]) (p := fun x => !sub (b.kids.headD Ty.zero) x) v.items hl (.inl rfl) (h ++ [.arr 0 2 [m.enc], .arr 0 8 [b.enc], .arr 0 4 [v.enc]]) (by simp [Md.enc]) (by simp [Md.enc]) (by simpa using hp) ws
  rw [h1]
  simp [List.not_all_eq_any_not]
end Go.Proofs.YtpjajogdoccdhaaGreatDoor
