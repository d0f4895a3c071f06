/- TypesFits: for every input whose reading holds at most so many values and letters, the law answers true, and what it was given reads as it read before. The conditions are the bound and the two tables of package utf8, which the card ties to the program's text. -/
import Derived.Test.YtpjajogdoccdhaaGreatDoorM51
import Derived.Test.YtpjajogdoccdhaaGreatDoorCards
import Derived.Test.YtpjajogdoccdhaaGreatDoorTie
import Derived.Test.YtpjajogdoccdhaaGreatDoorM35
set_option linter.all false
namespace Go.Proofs.YtpjajogdoccdhaaGreatDoor
open Go Go.Avm
theorem rcheck_5 (m : Md) (hm : m.ok) (hl0 : m.lim) (h g0 : Avm.H) : ∃ g, roundsL (evC (callL cfg) roundsL cfg.pol h.length h.length c57L5) [1, 10] [(1, .ptr h.length 0 2 0 0), (10, .int .i64 (0 : Nat))] (h ++ ([.arr 0 2 [m.enc]] ++ g0)) = some (if m.defs.all (loopD m) = true then (.exit 10, [(1, .ptr h.length 0 2 0 0), (10, .int .i64 m.defs.length)], h ++ ([.arr 0 2 [m.enc]] ++ g)) else (.ret, [(2, .int .i64 13)], h ++ ([.arr 0 2 [m.enc]] ++ g))) := by
  have hl : m.defs.length ≤ 1048576 := hm.len
  have hlp := loop_post (γ := Avm.H) (f := evC (callL cfg) roundsL cfg.pol h.length h.length c57L5) (keep := [1, 10]) m.defs (fun _ _ => True)
      (fun i _ => [(1, .ptr h.length 0 2 0 0), (10, .int .i64 i)]) (fun _ g => h ++ ([.arr 0 2 [m.enc]] ++ g))
      (fun _ r o => ∃ g, o = if r.all (loopD m) = true then (.exit 10, [(1, .ptr h.length 0 2 0 0), (10, .int .i64 m.defs.length)], h ++ ([.arr 0 2 [m.enc]] ++ g)) else (.ret, [(2, .int .i64 13)], h ++ ([.arr 0 2 [m.enc]] ++ g))) ?_ ?_ g0 trivial
  · obtain ⟨o, h1, g, h2⟩ := hlp
    exact ⟨g, h2 ▸ h1⟩
  · intro i x r g hd hi hx _ K hK
    have hw := wrap_nat (n := i + 1) (by omega)
    simp at hw
    have hmx : x ∈ m.defs := by rw [← hx]; exact List.getElem_mem hi
    have hos := hm.of x hmx
    have how : x.of.wid ≤ 1048576 := Nat.le_trans x.of.wid_le hos
    have hon : x.of.nodes ≤ 1048576 := Nat.le_trans (Ty.nodes_le _ x.of (Nat.le_refl _)) hos
    have hpl := hm.params x hmx
    have e1 := fun ws h => root_ok m hm hl0 x.of how (hl0 x hmx) ws h
    simp [Md.enc] at e1
    have hlD : loopD m x = (!decide (x.params = []) || (rbeh m 20 x.of).isSome) := by rw [loopD, beh_isSome m hl0]
    have hq0 : ((x.params.length : Int) = 0) = (x.params = []) := propext (by rw [← List.length_eq_zero_iff]; omega)
    cases hv : (loopD m) x
    · refine ⟨_, ?_, g ++ [.arr 0 8 [((rbeh m 20 x.of).getD Ty.zero).enc]], by simp only [List.all_cons, hv, Bool.false_and, Bool.false_eq_true, if_false]; rfl⟩
      rw [hlD] at hv
      have q1 : x.params = [] := by
        by_cases q : x.params = []
        · exact q
        · simp [q] at hv
      have q2 : (rbeh m 20 x.of).isSome = false := by simpa [q1] using hv
      rw [q2] at e1
      simp [c57L5, c57S4, Md.enc, hi, hx, e1, q1, q2]
    · obtain ⟨o, h4, g2, h5⟩ := hK (g ++ [.arr 0 8 [((rbeh m 20 x.of).getD Ty.zero).enc]]) trivial
      refine ⟨o, ?_, g2, by simp only [List.all_cons, hv, Bool.true_and]; exact h5⟩
      simp [Md.enc] at h4
      rw [hlD] at hv
      by_cases q1 : x.params = []
      · have q2 : (rbeh m 20 x.of).isSome = true := by simpa [q1] using hv
        rw [q2] at e1
        simp [c57L5, c57S4, Md.enc, hi, hx, e1, q1, q2, hw, h4]
      · have q3 : ¬ (x.params.length : Int) = 0 := by rw [hq0]; exact q1
        simp [c57L5, c57S4, Md.enc, hi, hx, e1, q1, q3, hw, h4]
  · intro g K _
    refine ⟨_, ?_, g, by simp only [List.all_nil, if_true]; rfl⟩
    simp [c57L5, Md.enc]
theorem rcheck_6 (m : Md) (hm : m.ok) (h g0 : Avm.H) : ∃ g, roundsL (evC (callL cfg) roundsL cfg.pol h.length h.length c57L6) [1, 13] [(1, .ptr h.length 0 2 0 0), (13, .int .i64 (0 : Nat))] (h ++ ([.arr 0 2 [m.enc]] ++ g0)) = some (if m.defs.all argD = true then (.exit 12, [(1, .ptr h.length 0 2 0 0), (13, .int .i64 m.defs.length)], h ++ ([.arr 0 2 [m.enc]] ++ g)) else (.ret, [(2, .int .i64 1)], h ++ ([.arr 0 2 [m.enc]] ++ g))) := by
  have hl : m.defs.length ≤ 1048576 := hm.len
  have hlp := loop_post (γ := Avm.H) (f := evC (callL cfg) roundsL cfg.pol h.length h.length c57L6) (keep := [1, 13]) m.defs (fun _ _ => True)
      (fun i _ => [(1, .ptr h.length 0 2 0 0), (13, .int .i64 i)]) (fun _ g => h ++ ([.arr 0 2 [m.enc]] ++ g))
      (fun _ r o => ∃ g, o = if r.all argD = true then (.exit 12, [(1, .ptr h.length 0 2 0 0), (13, .int .i64 m.defs.length)], h ++ ([.arr 0 2 [m.enc]] ++ g)) else (.ret, [(2, .int .i64 1)], h ++ ([.arr 0 2 [m.enc]] ++ g))) ?_ ?_ g0 trivial
  · obtain ⟨o, h1, g, h2⟩ := hlp
    exact ⟨g, h2 ▸ h1⟩
  · intro i x r g hd hi hx _ K hK
    have hw := wrap_nat (n := i + 1) (by omega)
    simp at hw
    have hmx : x ∈ m.defs := by rw [← hx]; exact List.getElem_mem hi
    have hos := hm.of x hmx
    have how : x.of.wid ≤ 1048576 := Nat.le_trans x.of.wid_le hos
    have hon : x.of.nodes ≤ 1048576 := Nat.le_trans (Ty.nodes_le _ x.of (Nat.le_refl _)) hos
    have hpl := hm.params x hmx
    have e1 := fun ws h => formed_ok x.of how hon ws h
    simp at e1
    cases hv : argD x
    · refine ⟨_, ?_, g, by simp only [List.all_cons, hv, Bool.false_and, Bool.false_eq_true, if_false]; rfl⟩
      unfold argD at hv
      rw [hv] at e1
      simp [c57L6, c57S5, Md.enc, hi, hx, e1]
    · obtain ⟨o, h4, g2, h5⟩ := hK (g) trivial
      refine ⟨o, ?_, g2, by simp only [List.all_cons, hv, Bool.true_and]; exact h5⟩
      simp [Md.enc] at h4
      unfold argD at hv
      rw [hv] at e1
      simp [c57L6, c57S5, Md.enc, hi, hx, e1, hw, h4]
  · intro g K _
    refine ⟨_, ?_, g, by simp only [List.all_nil, if_true]; rfl⟩
    simp [c57L6, Md.enc]
theorem rcheck_7 (m : Md) (hm : m.ok) (hl0 : m.lim) (hf : m.fm) (hq : ∀ d ∈ m.defs, QT d.of) (h g0 : Avm.H) : ∃ g, roundsL (evC (callL cfg) roundsL cfg.pol h.length h.length c57L7) [1, 14] [(1, .ptr h.length 0 2 0 0), (14, .int .i64 (0 : Nat))] (h ++ ([.arr 0 2 [m.enc]] ++ g0)) = some (if m.defs.all (setD m) = true then (.exit 14, [(1, .ptr h.length 0 2 0 0), (14, .int .i64 m.defs.length)], h ++ ([.arr 0 2 [m.enc]] ++ g)) else (.ret, [(2, .int .i64 1)], h ++ ([.arr 0 2 [m.enc]] ++ g))) := by
  have hl : m.defs.length ≤ 1048576 := hm.len
  have hlp := loop_post (γ := Avm.H) (f := evC (callL cfg) roundsL cfg.pol h.length h.length c57L7) (keep := [1, 14]) m.defs (fun _ _ => True)
      (fun i _ => [(1, .ptr h.length 0 2 0 0), (14, .int .i64 i)]) (fun _ g => h ++ ([.arr 0 2 [m.enc]] ++ g))
      (fun _ r o => ∃ g, o = if r.all (setD m) = true then (.exit 14, [(1, .ptr h.length 0 2 0 0), (14, .int .i64 m.defs.length)], h ++ ([.arr 0 2 [m.enc]] ++ g)) else (.ret, [(2, .int .i64 1)], h ++ ([.arr 0 2 [m.enc]] ++ g))) ?_ ?_ g0 trivial
  · obtain ⟨o, h1, g, h2⟩ := hlp
    exact ⟨g, h2 ▸ h1⟩
  · intro i x r g hd hi hx _ K hK
    have hw := wrap_nat (n := i + 1) (by omega)
    simp at hw
    have hmx : x ∈ m.defs := by rw [← hx]; exact List.getElem_mem hi
    have hos := hm.of x hmx
    have how : x.of.wid ≤ 1048576 := Nat.le_trans x.of.wid_le hos
    have hon : x.of.nodes ≤ 1048576 := Nat.le_trans (Ty.nodes_le _ x.of (Nat.le_refl _)) hos
    have hpl := hm.params x hmx
    have e1 := fun ws h => whole_ok m hm hl0 hf x.params hpl x.of (hq x hmx) ws h
    simp [Md.enc] at e1
    cases hv : (setD m) x
    · refine ⟨_, ?_, g, by simp only [List.all_cons, hv, Bool.false_and, Bool.false_eq_true, if_false]; rfl⟩
      unfold setD at hv
      rw [hv] at e1
      simp [c57L7, c57S6, Md.enc, hi, hx, e1]
    · obtain ⟨o, h4, g2, h5⟩ := hK (g) trivial
      refine ⟨o, ?_, g2, by simp only [List.all_cons, hv, Bool.true_and]; exact h5⟩
      simp [Md.enc] at h4
      unfold setD at hv
      rw [hv] at e1
      simp [c57L7, c57S6, Md.enc, hi, hx, e1, hw, h4]
  · intro g K _
    refine ⟨_, ?_, g, by simp only [List.all_nil, if_true]; rfl⟩
    simp [c57L7, Md.enc]
end Go.Proofs.YtpjajogdoccdhaaGreatDoor
namespace Go.Proofs.YtpjajogdoccdhaaGreatDoor
open Go Go.Avm
theorem check_S5 (m : Md) (hm : m.ok) (A1 A2 A3 : Bool) (h g : Avm.H) (w : AV) (hI : SlcIn h.length 1 1 g ((m.defs.map Df.name).map .str) w) (hl : A1 = true → m.defs.all limD = true) : ∃ g', evC (callL cfg) roundsL cfg.pol h.length h.length c40S5 [(1, .ptr h.length 0 2 0 0), (3, .int .i64 (toldP A1 2)), (4, .int .i64 (toldP A2 6)), (5, .int .i64 (toldP A3 7)), (6, .int .i64 0), (7, .int .i64 0), (8, w)] (h ++ ([.arr 0 2 [m.enc]] ++ g)) = some (.ret, [(2, .int .i64 (if A1 = false then 2 else if A2 = false then 6 else if (A3 && distinct (m.defs.map Df.name)) = false then 7 else if m.defs.all (loopD m) = false then 13 else if m.defs.all argD = false then 1 else toldP (m.defs.all (setD m)) 1))], h ++ ([.arr 0 2 [m.enc]] ++ g')) := by
  have hlen : m.defs.length ≤ 1048576 := hm.len
  have e2 := fun ws => twice_ok w (m.defs.map Df.name) (by simpa using hlen) ws _ (SlcIn.els (pre := [.arr 0 2 [m.enc]]) hI)
  obtain ⟨D, hD⟩ : ∃ D, distinct (m.defs.map Df.name) = D := ⟨_, rfl⟩
  rw [hD] at e2 ⊢
  simp [Md.enc] at e2
  cases A1
  · simp [-Prod.exists, c40S5, Md.enc, e2, told_ok, firstA, i64s, firstP, toldP, bslP]
  · cases A2
    · simp [-Prod.exists, c40S5, Md.enc, e2, told_ok, firstA, i64s, firstP, toldP, bslP]
    · cases A3
      · simp [-Prod.exists, c40S5, Md.enc, e2, told_ok, firstA, i64s, firstP, toldP, bslP]
      · cases D
        · simp [-Prod.exists, c40S5, Md.enc, e2, told_ok, firstA, i64s, firstP, toldP, bslP]
        · obtain ⟨g2, h1⟩ := check_loop1 m hm h (g ++ [.arr 0 1 [.int .i64 0, .int .i64 0, .int .i64 0, .int .i64 0]])
          obtain ⟨g3, h2⟩ := check_S4 m hm (m.defs.all (loopD m)) (m.defs.all argD) h g2 (fun _ q2 => ⟨fm_of q2, QT_of hm (hl rfl) q2⟩)
          refine ⟨g3, ?_⟩
          rw [List.take_length] at h1
          generalize m.defs.all (loopD m) = B1 at *
          generalize m.defs.all argD = B2 at *
          generalize m.defs.all (setD m) = B3 at *
          simp only [Bool.and_self, Bool.true_eq_false, if_false]
          rw [← h2]
          clear h2
          simp [Md.enc] at h1
          simp [c40S5, Md.enc, e2, told_ok, firstA, i64s, firstP, toldP, bslP, h1]
theorem check_ok (m : Md) (hm : m.ok) (ws : Nat) (h : Avm.H) : callL cfg ws 40 [m.enc] h = some (.int .i64 (errM m), h) := by
  have e1 := fun ws h => great_ok m.name hm.name ws h
  unfold errM
  refine callL_fn rfl rfl ?_
  by_cases q : 40 < m.defs.length
  · have q2 : (40 : Int) < m.defs.length := by omega
    simp [F40, c40, Md.enc, q, q2]
  · have q2 : ¬ (40 : Int) < m.defs.length := by omega
    obtain ⟨w, g, hI, hl⟩ := check_loop0 m hm h
    obtain ⟨g2, h2⟩ := check_S5 m hm (m.defs.all limD) (greatB m.name && m.defs.all (namD m)) (m.defs.all dupD) h g w hI (fun q => q)
    rw [List.take_length] at hl
    generalize m.defs.all limD = A1 at *
    generalize m.defs.all (namD m) = A2 at *
    generalize m.defs.all dupD = A3 at *
    generalize m.defs.all (loopD m) = A4 at *
    generalize m.defs.all argD = A5 at *
    generalize m.defs.all (setD m) = A6 at *
    generalize distinct (m.defs.map Df.name) = A7 at *
    generalize greatB m.name = A0 at *
    generalize hR : (if A1 = false then 2 else if (A0 && A2) = false then 6 else if (A3 && A7) = false then 7 else if A4 = false then 13 else if A5 = false then 1 else toldP A6 1 : Int) = R at *
    simp [Md.enc] at hl h2
    simp [F40, c40, c40S6, Md.enc, q, q2, e1, told_ok, hl, h2, hR]
end Go.Proofs.YtpjajogdoccdhaaGreatDoor
namespace Go.Proofs.YtpjajogdoccdhaaGreatDoor
open Go Go.Avm
theorem eqS_eq {a b : ByteArray} (h : eqS a b = true) : a = b := by
  unfold eqS at h
  have h1 := of_decide_eq_true h
  rw [ByteArray.toList_eq, ByteArray.toList_eq] at h1
  cases a; cases b
  exact congrArg ByteArray.mk (Array.toList_inj.1 h1)
theorem inS_great {ps : List ByteArray} {s : ByteArray} (h : ps.all greatB = true) (hi : inS ps s = true) : greatB s = true := by
  unfold inS at hi
  obtain ⟨p, hp, he⟩ := List.any_eq_true.1 hi
  have e : p = s := eqS_eq he
  rw [← e]
  exact List.all_eq_true.1 h p hp
theorem known_great (m : Md) (ps : List ByteArray) (h : ps.all greatB = true) (x : Ty) : knownP m ps x = nameP m ps x := by
  unfold knownP nameP refP
  cases q : inS ps x.name
  · rfl
  · rw [inS_great h q]; simp
theorem rnamD_eq (m : Md) (d : Df) : rnamD m d = namD m d := by
  unfold rnamD namD
  cases q : d.params.all greatB
  · simp
  · rw [allP_congr (known_great m d.params q)]; simp
theorem rcheck_S7 (m : Md) (hm : m.ok) (h g : Avm.H) (hl : m.defs.all limD = true) : ∃ g', evC (callL cfg) roundsL cfg.pol h.length h.length c57S7 [(1, .ptr h.length 0 2 0 0)] (h ++ ([.arr 0 2 [m.enc]] ++ g)) = some (.ret, [(2, .int .i64 (if (m.defs.all dupD && distinct (m.defs.map Df.name)) = false then 7 else if m.defs.all (loopD m) = false then 13 else if m.defs.all argD = false then 1 else toldP (m.defs.all (setD m)) 1))], h ++ ([.arr 0 2 [m.enc]] ++ g')) := by
  rw [← dupR_all]
  obtain ⟨g1, h1⟩ := rcheck_4 m hm h g
  cases q1 : dupR m 0 m.defs
  · rw [q1] at h1
    simp [Md.enc] at h1
    exact ⟨g1, by simp [c57S7, Md.enc, h1]⟩
  · rw [q1] at h1
    simp [Md.enc] at h1
    obtain ⟨g2, h2⟩ := rcheck_5 m hm (lim_of hl) h g1
    cases q2 : m.defs.all (loopD m)
    · rw [q2] at h2
      simp [Md.enc] at h2
      exact ⟨g2, by simp [c57S7, Md.enc, h1, h2]⟩
    · rw [q2] at h2
      simp [Md.enc] at h2
      obtain ⟨g3, h3⟩ := rcheck_6 m hm h g2
      cases q3 : m.defs.all argD
      · rw [q3] at h3
        simp [Md.enc] at h3
        exact ⟨g3, by simp [c57S7, Md.enc, h1, h2, h3]⟩
      · rw [q3] at h3
        simp [Md.enc] at h3
        obtain ⟨g4, h4⟩ := rcheck_7 m hm (lim_of hl) (fm_of q3) (QT_of hm hl q3) h g3
        refine ⟨g4, ?_⟩
        cases q4 : m.defs.all (setD m)
        · rw [q4] at h4
          simp [Md.enc] at h4
          simp [c57S7, Md.enc, h1, h2, h3, h4, toldP]
        · rw [q4] at h4
          simp [Md.enc] at h4
          simp [c57S7, Md.enc, h1, h2, h3, h4, toldP]
theorem rcheck_ok (m : Md) (hm : m.ok) (ws : Nat) (h : Avm.H) : callL cfg ws 57 [m.enc] h = some (.int .i64 (errM m), h) := by
  have e1 := fun ws h => rgreat_ok m.name hm.name ws h
  unfold errM
  refine callL_fn rfl rfl ?_
  by_cases q : 40 < m.defs.length
  · have q2 : (40 : Int) < m.defs.length := by omega
    simp [F57, c57, Md.enc, q, q2]
  · have q2 : ¬ (40 : Int) < m.defs.length := by omega
    obtain ⟨g, hl⟩ := rcheck_0 m hm h []
    cases q1 : m.defs.all limD
    · rw [q1] at hl
      simp [Md.enc] at hl
      simp [F57, c57, Md.enc, q, q2, hl]
    · rw [q1] at hl
      simp [Md.enc] at hl
      cases q3 : greatB m.name
      · rw [q3] at e1
        simp [F57, c57, Md.enc, q, q2, hl, e1]
      · rw [q3] at e1
        have hrn : m.defs.all (rnamD m) = m.defs.all (namD m) := by congr 1; funext d; exact rnamD_eq m d
        obtain ⟨g2, h2⟩ := rcheck_2 m hm h g
        rw [hrn] at h2
        cases q4 : m.defs.all (namD m)
        · rw [q4] at h2
          simp [Md.enc] at h2
          simp [F57, c57, Md.enc, q, q2, hl, e1, h2]
        · rw [q4] at h2
          simp [Md.enc] at h2
          obtain ⟨g3, h3⟩ := rcheck_S7 m hm h g2 q1
          generalize (m.defs.all dupD && distinct (m.defs.map Df.name)) = A3 at *
          generalize m.defs.all (loopD m) = A4 at *
          generalize m.defs.all argD = A5 at *
          generalize m.defs.all (setD m) = A6 at *
          generalize hR : (if A3 = false then 7 else if A4 = false then 13 else if A5 = false then 1 else toldP A6 1 : Int) = R at *
          simp [Md.enc] at h3
          simp [F57, c57, Md.enc, q, q2, hl, e1, h2, h3, hR]
theorem errM_zero {m : Md} (h : errM m = 0) : m.defs.all limD = true ∧ m.defs.all argD = true := by
  unfold errM at h
  split at h
  · cases h
  cases q1 : m.defs.all limD
  · rw [q1] at h; simp at h
  · refine ⟨rfl, ?_⟩
    cases q2 : m.defs.all argD
    · rw [q1, q2] at h
      simp only [if_true, Bool.true_eq_false, if_false] at h
      split at h
      · cases h
      split at h
      · cases h
      split at h
      · cases h
      · cases h
    · rfl
end Go.Proofs.YtpjajogdoccdhaaGreatDoor
namespace Go.Proofs.YtpjajogdoccdhaaGreatDoor
open Go Go.Avm
def errC (m : Md) (t : Ty) : Int := if errM m = 0 then errT m t else errM m
def ansF (m : Md) (t : Ty) (v : Val) : Bool := decide (errC m t = 0) && (fairP v && fitB m v.size t v)
theorem errT_zero {m : Md} {t : Ty} (h : errT m t = 0) : limS t = true ∧ t.allP rightP = true := by
  unfold errT at h
  cases q1 : limS t
  · rw [q1] at h; simp at h
  · refine ⟨rfl, ?_⟩
    cases q2 : t.allP rightP
    · rw [q1, q2] at h
      simp only [Bool.true_eq_false, if_false] at h
      split at h
      · cases h
      split at h
      · cases h
      split at h
      · cases h
      · cases h
    · rfl
theorem ctypeC_ok (m : Md) (hm : m.ok) (t : Ty) (hs : t.size ≤ 1048576) (ws : Nat) (h : Avm.H) : callL cfg ws 23 [m.enc, t.enc] h = some (.int .i64 (errC m t), h) := by
  unfold errC
  by_cases q : errM m = 0
  · rw [if_pos q]
    exact ctype_ok m hm (fm_of (errM_zero q).2) t hs (fun ws h => q ▸ check_ok m hm ws h) ws h
  · rw [if_neg q]
    exact ctype_err m t (errM m) q (fun ws h => check_ok m hm ws h) ws h
theorem rctypeC_ok (m : Md) (hm : m.ok) (t : Ty) (hs : t.size ≤ 1048576) (ws : Nat) (h : Avm.H) : callL cfg ws 26 [m.enc, t.enc] h = some (.int .i64 (errC m t), h) := by
  unfold errC
  by_cases q : errM m = 0
  · rw [if_pos q]
    exact rctype_ok m hm (lim_of (errM_zero q).1) (fm_of (errM_zero q).2) t hs (fun ws h => q ▸ rcheck_ok m hm ws h) ws h
  · rw [if_neg q]
    exact rctype_err m t (errM m) q (fun ws h => rcheck_ok m hm ws h) ws h
theorem errC_zero {m : Md} {t : Ty} (h : errC m t = 0) : errM m = 0 ∧ errT m t = 0 := by
  unfold errC at h
  by_cases q : errM m = 0
  · rw [if_pos q] at h; exact ⟨q, h⟩
  · rw [if_neg q] at h; exact absurd h q
theorem pfits_ok (m : Md) (hm : m.ok) (t : Ty) (hs : t.size ≤ 1048576) (v : Val) (hv : v.size ≤ 1048576) (ws : Nat) (h : Avm.H) : callL cfg ws 8 [m.enc, t.enc, v.enc] h = some (.tup [.bool (ansF m t v), .int .i64 (errC m t)], h) := by
  have hw : t.wid ≤ 1048576 := Nat.le_trans t.wid_le hs
  have e1 := fun ws h => ctypeC_ok m hm t hs ws h
  have e2 := fun ws h => fair_ok v hv ws h
  unfold ansF
  refine callL_fn rfl rfl ?_
  by_cases q : errC m t = 0
  · obtain ⟨q1, q2⟩ := errC_zero q
    have e3 := fun ws h => fits_ok m hm (fm_of (errM_zero q1).2) v.size v (Nat.le_refl _) hv t hw (errT_zero q2).2 ws h
    rw [q] at e1 ⊢
    simp [Md.enc] at e1 e2 e3
    simp [F8, c8, Md.enc, e1, e2, e3]
  · simp [Md.enc] at e1
    simp [F8, c8, Md.enc, e1, q]
theorem rpfits_ok (m : Md) (hm : m.ok) (t : Ty) (hs : t.size ≤ 1048576) (v : Val) (hv : v.size ≤ 1048576) (ws : Nat) (h : Avm.H) : callL cfg ws 9 [m.enc, t.enc, v.enc] h = some (.tup [.bool (ansF m t v), .int .i64 (errC m t)], h) := by
  have hw : t.wid ≤ 1048576 := Nat.le_trans t.wid_le hs
  have e1 := fun ws h => rctypeC_ok m hm t hs ws h
  unfold ansF
  refine callL_fn rfl rfl ?_
  by_cases q : errC m t = 0
  · obtain ⟨q1, q2⟩ := errC_zero q
    have e3 := fun ws h => fit_ok m hm (lim_of (errM_zero q1).1) (fm_of (errM_zero q1).2) t hw (lim_nodes (errT_zero q2).1) (errT_zero q2).2 v hv ws h
    rw [q] at e1 ⊢
    simp [Md.enc] at e1 e3
    simp [F9, c9, Md.enc, e1, e3]
  · simp [Md.enc] at e1
    simp [F9, c9, Md.enc, e1, q]
set_option maxRecDepth 100000 in
theorem sane3 (ws : Nat) (A B C : ABlock) : callN cfg 100 ws 10 [] [A, B, C] = some (.bool true, [A, B, C]) := by kernel_rfl
theorem sane3_ok (ws : Nat) (A B C : ABlock) : callL cfg ws 10 [] [A, B, C] = some (.bool true, [A, B, C]) := callN_L 100 _ _ _ _ _ (sane3 ws A B C)
theorem typesFits_ok (m : Md) (hm : m.ok) (t : Ty) (hs : t.size ≤ 1048576) (v : Val) (hv : v.size ≤ 1048576) : callL cfg 0 3 [m.enc, t.enc, v.enc] [] = some (.bool true, []) := by
  have e1 := fun ws h => pfits_ok m hm t hs v hv ws h
  have e2 := fun ws h => rpfits_ok m hm t hs v hv ws h
  refine callL_fn rfl rfl ?_
  generalize ansF m t v = A at *
  generalize errC m t = E at *
  simp [Md.enc] at e1 e2
  simp [F3, c3, Md.enc, e1, e2, sane3_ok]
end Go.Proofs.YtpjajogdoccdhaaGreatDoor
namespace Go.Proofs.YtpjajogdoccdhaaGreatDoor
open Go Go.Avm Go.RowKit Go.ChangeShapes Go.WideShapes Go.ChangeAt
theorem law_ev (xs : List AV) (h : argsTy Tryz.prog Tryz.f3.params.toList xs) (hn : bulkL xs ≤ 1048576) : ∃ h', callL cfg 0 3 xs [] = some (.bool true, h') := by
  have hagM : aggT Tryz.prog 24 = true := by simp [aggT, Tryz.underlying24]
  have hagT : aggT Tryz.prog 28 = true := by simp [aggT, Tryz.underlying28]
  have hagV : aggT Tryz.prog 31 = true := by simp [aggT, Tryz.underlying31]
  rw [Tryz.params3] at h
  obtain ⟨f1, l1, r1, rfl, t1, f2, l2, r2, rfl, t2, f3, l3, r3, rfl, t3, rfl⟩ := h
  rw [hagM, hagT, hagV] at hn ⊢
  simp only [bulkL, ofCells, if_true, AV.bulk] at hn ⊢
  obtain ⟨m, hm, sm⟩ := md_of t1 (by omega)
  obtain ⟨t, ht, st⟩ := ty_of _ _ _ (Nat.le_refl _) t2
  obtain ⟨v, hv, sv⟩ := val_of _ _ _ (Nat.le_refl _) t3
  simp only [AV.bulk] at sv
  rw [hm, hv, ht]
  exact ⟨[], typesFits_ok m sm t (by omega) v (by omega)⟩

set_option maxRecDepth 100000 in
theorem contract (H : Type) (enc : TypeId × Value → H) (W : World) (base : Nat) (args : Array Value) (ds gs : List (DataW H)) (before : List MemPlace)
    (hval : ∀ (j : Nat) t v, Tryz.f3.params[j]? = some t → args[j]? = some v → Value.okWide Tryz.prog W .any base t v)
    (hW : DataW.Whole enc Tryz.prog Tryz.f3.params.toList Rows.typesFitsSpec.vars false W args.toList ds gs before) (hk : Rows.uptoSmall H (ds ++ gs) = true) (hsh : W.ShapedOpen Tryz.prog) :
    Calls Tryz.prog 3 args W fun e W' => ∃ v, e = .returned v ∧ Rows.typesFitsSpec.post enc Tryz.prog Tryz.f3 false true false false W args v W' := by
  have hW' := hW
  obtain ⟨m, hm⟩ := Tryz.layCo.s1_3 W hsh
  obtain ⟨p, q, hA, hV, hps, hfz, hnd⟩ := hW
  obtain ⟨rfl, rfl⟩ := trodVars_none hV
  have hds : ∃ d0 d1 d2, ds = [d0, d1, d2] := by
    have h := hA
    rw [Tryz.params3] at h
    obtain ⟨_, _, d0, _, _, _, _, rfl, _, _, r0⟩ := trodAll_cons h
    obtain ⟨_, _, d1, _, _, _, _, rfl, _, _, r1⟩ := trodAll_cons r0
    obtain ⟨_, _, d2, _, _, _, _, rfl, _, _, r2⟩ := trodAll_cons r1
    obtain ⟨_, rfl, _⟩ := trodAll_nil r2
    exact ⟨d0, d1, d2, rfl⟩
  obtain ⟨d0, d1, d2, rfl⟩ := hds
  obtain ⟨N, hN, hb⟩ : ∃ N, N = 1048576 ∧ Rows.uptoBulkAll [d0, d1, d2] ≤ N := ⟨_, rfl, of_decide_eq_true hk⟩
  refine (law_calls (cfg_ok hm) Tryz.func3 (by decide +kernel) rfl (bulkOk H) (n := N) (fun xs h1 h2 => law_ev xs h1 (hN ▸ h2)) hval hA hb).mono fun e W' ⟨he, hbl⟩ => ?_
  exact ⟨_, he, law_post hW' rfl rfl rfl Tryz.underlying4 (by kernel_rfl) (by kernel_rfl) hbl⟩
theorem laid_met (os : Os) : laidMet Tryz.prog Rows.typesFitsUptoRow.laid ((laidWorld os).forCall (fun _ _ => 0) ⟨#[], #[.agg #[.string ⟨#[]⟩, .slice none 0 0], .agg #[.int .i64 0, .string ⟨#[]⟩, .int .i64 0, .int .i64 0, .bool false, .bool false, .slice none 0 0, .slice none 0 0], .agg #[.int .i64 0, .int .i64 0, .string ⟨#[]⟩, .slice none 0 0]], []⟩).memory :=
  laidMet_of_run' 8 (by kernel_rfl) (by kernel_rfl)
theorem reads (os : Os) {H : Type} (enc : TypeId × Value → H) : ∃ places, DataW.whole enc Tryz.prog ((laidWorld os).forCall (fun _ _ => 0) ⟨#[], #[.agg #[.string ⟨#[]⟩, .slice none 0 0], .agg #[.int .i64 0, .string ⟨#[]⟩, .int .i64 0, .int .i64 0, .bool false, .bool false, .slice none 0 0, .slice none 0 0], .agg #[.int .i64 0, .int .i64 0, .string ⟨#[]⟩, .slice none 0 0]], []⟩).memory Tryz.f3.params.toList Rows.typesFitsSpec.vars false (#[.agg #[.string ⟨#[]⟩, .slice none 0 0], .agg #[.int .i64 0, .string ⟨#[]⟩, .int .i64 0, .int .i64 0, .bool false, .bool false, .slice none 0 0, .slice none 0 0], .agg #[.int .i64 0, .int .i64 0, .string ⟨#[]⟩, .slice none 0 0]] : Array Value).toList 8 = some ([.agg [.lit (.string []), .nil], .agg [.lit (.int .i64 0), .lit (.string []), .lit (.int .i64 0), .lit (.int .i64 0), .lit (.bool false), .lit (.bool false), .nil, .nil], .agg [.lit (.int .i64 0), .lit (.int .i64 0), .lit (.string []), .nil]], [], places) :=
  ⟨[], by kernel_rfl⟩
set_option maxRecDepth 100000 in
theorem liftedUpto (os : Os) (started : os.Started) (H : Type) (enc : TypeId × Value → H) (F : Stop.Interp) :
    ReturnsInHanded {} Tryz.checked os 3 .any ((Rows.OpenSpec.upto Rows.typesFitsSpec).preRow enc Tryz.prog Tryz.f3 Rows.typesFitsUptoRow.domain false Rows.typesFitsUptoRow.laid) (((Rows.OpenSpec.upto Rows.typesFitsSpec).at F).post enc Tryz.prog Tryz.f3 false true false false) := by
  obtain ⟨places, hx⟩ := reads os enc
  refine returnsInHanded_of_row (C := Tryz.checked) (s := Rows.OpenSpec.upto Rows.typesFitsSpec) own started (by kernel_rfl) Tryz.func3
    (witness_row_at (enc := enc) (C := Tryz.checked) false (laidWorld os) #[.agg #[.string ⟨#[]⟩, .slice none 0 0], .agg #[.int .i64 0, .string ⟨#[]⟩, .int .i64 0, .int .i64 0, .bool false, .bool false, .slice none 0 0, .slice none 0 0], .agg #[.int .i64 0, .int .i64 0, .string ⟨#[]⟩, .slice none 0 0]] rfl (by kernel_rfl) (by kernel_rfl) (by kernel_rfl)
      (OpenSpec.preRow_of_cond 8 hx (by kernel_rfl) (fun k hk => by cases hk; kernel_rfl) (by kernel_rfl) (laid_met os))) ?_
  intro W base args ds gs before hval hW _ hcond _ _ hsh _
  exact contract H enc W base args ds gs before hval hW (hcond _ rfl) hsh
theorem saidUpto : Rows.TypesFitsUptoSaid :=
  OpenClaim.holds_of_cond 3 Tryz.f3 rfl rfl rfl rfl rfl rfl rfl ⟨rfl, rfl, rfl, rfl, rfl⟩ rfl rfl rfl rfl rfl (by kernel_rfl) Tryz.func3 (by kernel_rfl)
    (of_decide_eq_true (by kernel_rfl)) (by unfold Func.isWrapper; first | (rw [if_pos (by decide +kernel)]; kernel_rfl) | (rw [if_neg (by decide +kernel)]; exact ⟨rfl, rfl⟩))
    (fun os started H enc _ F => by rw [OpenClaim.pre_eq_preRow]; exact liftedUpto os started H enc F)
theorem plain (f : FuncId) (fn : Func) (hf : Tryz.pinned.checked.prog.funcNamed "heptad/heptadlaw02.TypesFits" = some f) (hfn : Tryz.pinned.checked.prog.funcs[f]? = some fn) :
    false = Tryz.pinned.checked.prog.looks [] ∧ ∀ (j : Nat) t, fn.params[j]? = some t → Tryz.pinned.checked.prog.wantsStandIn t = false := by
  obtain rfl : f = 3 := Option.some.inj ((show Tryz.prog.funcNamed "heptad/heptadlaw02.TypesFits" = some 3 by kernel_rfl).symm.trans hf) |>.symm
  obtain rfl : fn = Tryz.f3 := (Option.some.inj (Tryz.func3.symm.trans hfn)).symm
  refine ⟨by kernel_rfl, fun j t ht => ?_⟩
  rw [Tryz.params3] at ht
  have hall : ∀ t ∈ (#[24, 28, 31] : Array TypeId), Tryz.prog.wantsStandIn t = false := by decide +kernel
  exact hall t (Array.mem_of_getElem? ht)
/-- The card. -/
theorem typesFits_holds : Rows.TypesFitsUptoCardSaid :=
  Claim7.holds_tied_plain_at .later [] _ _ _ _ saidUpto (fun _ h => by cases h) (by kernel_rfl) (fun _ h => by cases h) typesFitsUpto_row_tie rfl ⟨rfl, rfl⟩ (by kernel_rfl) rfl plain (by kernel_rfl)
end Go.Proofs.YtpjajogdoccdhaaGreatDoor
