/- The law on wider types. -/
import Derived.Test.YtpjajogdoccdhaaGreatDoorM51
set_option linter.all false
namespace Go.Proofs.YtpjajogdoccdhaaGreatDoor
open Go Go.Avm
theorem rcheck_5 (m : Md) (hm : m.ok) (hl0 : m.lim) (h g0 : Avm.H) : ∃ g, roundsL (evC (callL cfg) roundsL cfg.pol h.length h.length c57L5) [1, 10] [(1, .ptr h.length 0 2 0 0), (10, .int .i64 (0 : Nat))] (h ++ ([.arr 0 2 [m.enc]] ++ g0)) = some (if m.defs.all (loopD m) = true then (.exit 10, [(1, .ptr h.length 0 2 0 0), (10, .int .i64 m.defs.length)], h ++ ([.arr 0 2 [m.enc]] ++ g)) else (.ret, [(2, .int .i64 13)], h ++ ([.arr 0 2 [m.enc]] ++ g))) := by
  have hl : m.defs.length ≤ 1048576 := hm.len
  have hlp := loop_post (γ := Avm.H) (f := evC (callL cfg) roundsL cfg.pol h.length h.length c57L5) (keep := [1, 10]) m.defs (fun _ _ => True)
      (fun i _ => [(1, .ptr h.length 0 2 0 0), (10, .int .i64 i)]) (fun _ g => h ++ ([.arr 0 2 [m.enc]] ++ g))
      (fun _ r o => ∃ g, o = if r.all (loopD m) = true then (.exit 10, [(1, .ptr h.length 0 2 0 0), (10, .int .i64 m.defs.length)], h ++ ([.arr 0 2 [m.enc]] ++ g)) else (.ret, [(2, .int .i64 13)], h ++ ([.arr 0 2 [m.enc]] ++ g))) ?_ ?_ g0 trivial
  · obtain ⟨o, h1, g, h2⟩ := hlp
    exact ⟨g, h2 ▸ h1⟩
  · intro i x r g hd hi hx _ K hK
    have hw := wrap_nat (n := i + 1) (by omega)
    simp at hw
    have hmx : x ∈ m.defs := by rw [← hx]; exact List.getElem_mem hi
    have hos := hm.of x hmx
    have how : x.of.wid ≤ 1048576 := Nat.le_trans x.of.wid_le hos
    have hon : x.of.nodes ≤ 1048576 := Nat.le_trans (Ty.nodes_le _ x.of (Nat.le_refl _)) hos
    have hpl := hm.params x hmx
    have e1 := fun ws h => root_ok m hm hl0 x.of how (hl0 x hmx) ws h
    simp [Md.enc] at e1
    have hlD : loopD m x = (!decide (x.params = []) || (rbeh m 20 x.of).isSome) := by rw [loopD, beh_isSome m hl0]
    have hq0 : ((x.params.length : Int) = 0) = (x.params = []) := propext (by rw [← List.length_eq_zero_iff]; omega)
    cases hv : (loopD m) x
    · refine ⟨_, ?_, g ++ [.arr 0 8 [((rbeh m 20 x.of).getD Ty.zero).enc]], by simp only [List.all_cons, hv, Bool.false_and, Bool.false_eq_true, if_false]; rfl⟩
      rw [hlD] at hv
      have q1 : x.params = [] := by
        by_cases q : x.params = []
        · exact q
        · simp [q] at hv
      have q2 : (rbeh m 20 x.of).isSome = false := by simpa [q1] using hv
      rw [q2] at e1
      simp [c57L5, c57S4, Md.enc, hi, hx, e1, q1, q2]
    · obtain ⟨o, h4, g2, h5⟩ := hK (g ++ [.arr 0 8 [((rbeh m 20 x.of).getD Ty.zero).enc]]) trivial
      refine ⟨o, ?_, g2, by simp only [List.all_cons, hv, Bool.true_and]; exact h5⟩
      simp [Md.enc] at h4
      rw [hlD] at hv
      by_cases q1 : x.params = []
      · have q2 : (rbeh m 20 x.of).isSome = true := by simpa [q1] using hv
        rw [q2] at e1
        simp [c57L5, c57S4, Md.enc, hi, hx, e1, q1, q2, hw, h4]
      · have q3 : ¬ (x.params.length : Int) = 0 := by rw [hq0]; exact q1
        simp [c57L5, c57S4, Md.enc, hi, hx, e1, q1, q3, hw, h4]
  · intro g K _
    refine ⟨_, ?_, g, by simp only [List.all_nil, if_true]; rfl⟩
    simp [c57L5, Md.enc]
theorem rcheck_6 (m : Md) (hm : m.ok) (h g0 : Avm.H) : ∃ g, roundsL (evC (callL cfg) roundsL cfg.pol h.length h.length c57L6) [1, 13] [(1, .ptr h.length 0 2 0 0), (13, .int .i64 (0 : Nat))] (h ++ ([.arr 0 2 [m.enc]] ++ g0)) = some (if m.defs.all argD = true then (.exit 12, [(1, .ptr h.length 0 2 0 0), (13, .int .i64 m.defs.length)], h ++ ([.arr 0 2 [m.enc]] ++ g)) else (.ret, [(2, .int .i64 1)], h ++ ([.arr 0 2 [m.enc]] ++ g))) := by
  have hl : m.defs.length ≤ 1048576 := hm.len
  have hlp := loop_post (γ := Avm.H) (f := evC (callL cfg) roundsL cfg.pol h.length h.length c57L6) (keep := [1, 13]) m.defs (fun _ _ => True)
      (fun i _ => [(1, .ptr h.length 0 2 0 0), (13, .int .i64 i)]) (fun _ g => h ++ ([.arr 0 2 [m.enc]] ++ g))
      (fun _ r o => ∃ g, o = if r.all argD = true then (.exit 12, [(1, .ptr h.length 0 2 0 0), (13, .int .i64 m.defs.length)], h ++ ([.arr 0 2 [m.enc]] ++ g)) else (.ret, [(2, .int .i64 1)], h ++ ([.arr 0 2 [m.enc]] ++ g))) ?_ ?_ g0 trivial
  · obtain ⟨o, h1, g, h2⟩ := hlp
    exact ⟨g, h2 ▸ h1⟩
  · intro i x r g hd hi hx _ K hK
    have hw := wrap_nat (n := i + 1) (by omega)
    simp at hw
    have hmx : x ∈ m.defs := by rw [← hx]; exact List.getElem_mem hi
    have hos := hm.of x hmx
    have how : x.of.wid ≤ 1048576 := Nat.le_trans x.of.wid_le hos
    have hon : x.of.nodes ≤ 1048576 := Nat.le_trans (Ty.nodes_le _ x.of (Nat.le_refl _)) hos
    have hpl := hm.params x hmx
    have e1 := fun ws h => formed_ok x.of how hon ws h
    simp at e1
    cases hv : argD x
    · refine ⟨_, ?_, g, by simp only [List.all_cons, hv, Bool.false_and, Bool.false_eq_true, if_false]; rfl⟩
      unfold argD at hv
      rw [hv] at e1
      simp [c57L6, c57S5, Md.enc, hi, hx, e1]
    · obtain ⟨o, h4, g2, h5⟩ := hK (g) trivial
      refine ⟨o, ?_, g2, by simp only [List.all_cons, hv, Bool.true_and]; exact h5⟩
      simp [Md.enc] at h4
      unfold argD at hv
      rw [hv] at e1
      simp [c57L6, c57S5, Md.enc, hi, hx, e1, hw, h4]
  · intro g K _
    refine ⟨_, ?_, g, by simp only [List.all_nil, if_true]; rfl⟩
    simp [c57L6, Md.enc]
theorem rcheck_7 (m : Md) (hm : m.ok) (hl0 : m.lim) (hf : m.fm) (hq : ∀ d ∈ m.defs, QT d.of) (h g0 : Avm.H) : ∃ g, roundsL (evC (callL cfg) roundsL cfg.pol h.length h.length c57L7) [1, 14] [(1, .ptr h.length 0 2 0 0), (14, .int .i64 (0 : Nat))] (h ++ ([.arr 0 2 [m.enc]] ++ g0)) = some (if m.defs.all (setD m) = true then (.exit 14, [(1, .ptr h.length 0 2 0 0), (14, .int .i64 m.defs.length)], h ++ ([.arr 0 2 [m.enc]] ++ g)) else (.ret, [(2, .int .i64 1)], h ++ ([.arr 0 2 [m.enc]] ++ g))) := by
  have hl : m.defs.length ≤ 1048576 := hm.len
  have hlp := loop_post (γ := Avm.H) (f := evC (callL cfg) roundsL cfg.pol h.length h.length c57L7) (keep := [1, 14]) m.defs (fun _ _ => True)
      (fun i _ => [(1, .ptr h.length 0 2 0 0), (14, .int .i64 i)]) (fun _ g => h ++ ([.arr 0 2 [m.enc]] ++ g))
      (fun _ r o => ∃ g, o = if r.all (setD m) = true then (.exit 14, [(1, .ptr h.length 0 2 0 0), (14, .int .i64 m.defs.length)], h ++ ([.arr 0 2 [m.enc]] ++ g)) else (.ret, [(2, .int .i64 1)], h ++ ([.arr 0 2 [m.enc]] ++ g))) ?_ ?_ g0 trivial
  · obtain ⟨o, h1, g, h2⟩ := hlp
    exact ⟨g, h2 ▸ h1⟩
  · intro i x r g hd hi hx _ K hK
    have hw := wrap_nat (n := i + 1) (by omega)
    simp at hw
    have hmx : x ∈ m.defs := by rw [← hx]; exact List.getElem_mem hi
    have hos := hm.of x hmx
    have how : x.of.wid ≤ 1048576 := Nat.le_trans x.of.wid_le hos
    have hon : x.of.nodes ≤ 1048576 := Nat.le_trans (Ty.nodes_le _ x.of (Nat.le_refl _)) hos
    have hpl := hm.params x hmx
    have e1 := fun ws h => whole_ok m hm hl0 hf x.params hpl x.of (hq x hmx) ws h
    simp [Md.enc] at e1
    cases hv : (setD m) x
    · refine ⟨_, ?_, g, by simp only [List.all_cons, hv, Bool.false_and, Bool.false_eq_true, if_false]; rfl⟩
      unfold setD at hv
      rw [hv] at e1
      simp [c57L7, c57S6, Md.enc, hi, hx, e1]
    · obtain ⟨o, h4, g2, h5⟩ := hK (g) trivial
      refine ⟨o, ?_, g2, by simp only [List.all_cons, hv, Bool.true_and]; exact h5⟩
      simp [Md.enc] at h4
      unfold setD at hv
      rw [hv] at e1
      simp [c57L7, c57S6, Md.enc, hi, hx, e1, hw, h4]
  · intro g K _
    refine ⟨_, ?_, g, by simp only [List.all_nil, if_true]; rfl⟩
    simp [c57L7, Md.enc]
end Go.Proofs.YtpjajogdoccdhaaGreatDoor
namespace Go.Proofs.YtpjajogdoccdhaaGreatDoor
open Go Go.Avm
theorem check_S5 (m : Md) (hm : m.ok) (A1 A2 A3 : Bool) (h g : Avm.H) (w : AV) (hI : SlcIn h.length 1 1 g ((m.defs.map Df.name).map .str) w) (hl : A1 = true → m.defs.all limD = true) : ∃ g', evC (callL cfg) roundsL cfg.pol h.length h.length c40S5 [(1, .ptr h.length 0 2 0 0), (3, .int .i64 (toldP A1 2)), (4, .int .i64 (toldP A2 6)), (5, .int .i64 (toldP A3 7)), (6, .int .i64 0), (7, .int .i64 0), (8, w)] (h ++ ([.arr 0 2 [m.enc]] ++ g)) = some (.ret, [(2, .int .i64 (if A1 = false then 2 else if A2 = false then 6 else if (A3 && distinct (m.defs.map Df.name)) = false then 7 else if m.defs.all (loopD m) = false then 13 else if m.defs.all argD = false then 1 else toldP (m.defs.all (setD m)) 1))], h ++ ([.arr 0 2 [m.enc]] ++ g')) := by
  have hlen : m.defs.length ≤ 1048576 := hm.len
  have e2 := fun ws => twice_ok w (m.defs.map Df.name) (by simpa using hlen) ws _ (SlcIn.els (pre := [.arr 0 2 [m.enc]]) hI)
  obtain ⟨D, hD⟩ : ∃ D, distinct (m.defs.map Df.name) = D := ⟨_, rfl⟩
  rw [hD] at e2 ⊢
  simp [Md.enc] at e2
  cases A1
  · simp [-Prod.exists, c40S5, Md.enc, e2, told_ok, firstA, i64s, firstP, toldP, bslP]
  · cases A2
    · simp [-Prod.exists, c40S5, Md.enc, e2, told_ok, firstA, i64s, firstP, toldP, bslP]
    · cases A3
      · simp [-Prod.exists, c40S5, Md.enc, e2, told_ok, firstA, i64s, firstP, toldP, bslP]
      · cases D
        · simp [-Prod.exists, c40S5, Md.enc, e2, told_ok, firstA, i64s, firstP, toldP, bslP]
        · obtain ⟨g2, h1⟩ := check_loop1 m hm h (g ++ [.arr 0 1 [.int .i64 0, .int .i64 0, .int .i64 0, .int .i64 0]])
          obtain ⟨g3, h2⟩ := check_S4 m hm (m.defs.all (loopD m)) (m.defs.all argD) h g2 (fun _ q2 => ⟨fm_of q2, QT_of hm (hl rfl) q2⟩)
          refine ⟨g3, ?_⟩
          rw [List.take_length] at h1
          generalize m.defs.all (loopD m) = B1 at *
          generalize m.defs.all argD = B2 at *
          generalize m.defs.all (setD m) = B3 at *
          simp only [Bool.and_self, Bool.true_eq_false, if_false]
          rw [← h2]
          clear h2
          simp [Md.enc] at h1
          simp [c40S5, Md.enc, e2, told_ok, firstA, i64s, firstP, toldP, bslP, h1]
theorem check_ok (m : Md) (hm : m.ok) (ws : Nat) (h : Avm.H) : callL cfg ws 40 [m.enc] h = some (.int .i64 (errM m), h) := by
  have e1 := fun ws h => great_ok m.name hm.name ws h
  unfold errM
  refine callL_fn rfl rfl ?_
  by_cases q : 40 < m.defs.length
  · have q2 : (40 : Int) < m.defs.length := by omega
    simp [F40, c40, Md.enc, q, q2]
  · have q2 : ¬ (40 : Int) < m.defs.length := by omega
    obtain ⟨w, g, hI, hl⟩ := check_loop0 m hm h
    obtain ⟨g2, h2⟩ := check_S5 m hm (m.defs.all limD) (greatB m.name && m.defs.all (namD m)) (m.defs.all dupD) h g w hI (fun q => q)
    rw [List.take_length] at hl
    generalize m.defs.all limD = A1 at *
    generalize m.defs.all (namD m) = A2 at *
    generalize m.defs.all dupD = A3 at *
    generalize m.defs.all (loopD m) = A4 at *
    generalize m.defs.all argD = A5 at *
    generalize m.defs.all (setD m) = A6 at *
    generalize distinct (m.defs.map Df.name) = A7 at *
    generalize greatB m.name = A0 at *
    generalize hR : (if A1 = false then 2 else if (A0 && A2) = false then 6 else if (A3 && A7) = false then 7 else if A4 = false then 13 else if A5 = false then 1 else toldP A6 1 : Int) = R at *
    simp [Md.enc] at hl h2
    simp [F40, c40, c40S6, Md.enc, q, q2, e1, told_ok, hl, h2, hR]
end Go.Proofs.YtpjajogdoccdhaaGreatDoor
namespace Go.Proofs.YtpjajogdoccdhaaGreatDoor
open Go Go.Avm
theorem eqS_eq {a b : ByteArray} (h : eqS a b = true) : a = b := by
  unfold eqS at h
  have h1 := of_decide_eq_true h
  rw [ByteArray.toList_eq, ByteArray.toList_eq] at h1
  cases a; cases b
  exact congrArg ByteArray.mk (Array.toList_inj.1 h1)
theorem inS_great {ps : List ByteArray} {s : ByteArray} (h : ps.all greatB = true) (hi : inS ps s = true) : greatB s = true := by
  unfold inS at hi
  obtain ⟨p, hp, he⟩ := List.any_eq_true.1 hi
  have e : p = s := eqS_eq he
  rw [← e]
  exact List.all_eq_true.1 h p hp
theorem known_great (m : Md) (ps : List ByteArray) (h : ps.all greatB = true) (x : Ty) : knownP m ps x = nameP m ps x := by
  unfold knownP nameP refP
  cases q : inS ps x.name
  · rfl
  · rw [inS_great h q]; simp
theorem rnamD_eq (m : Md) (d : Df) : rnamD m d = namD m d := by
  unfold rnamD namD
  cases q : d.params.all greatB
  · simp
  · rw [allP_congr (known_great m d.params q)]; simp
theorem rcheck_S7 (m : Md) (hm : m.ok) (h g : Avm.H) (hl : m.defs.all limD = true) : ∃ g', evC (callL cfg) roundsL cfg.pol h.length h.length c57S7 [(1, .ptr h.length 0 2 0 0)] (h ++ ([.arr 0 2 [m.enc]] ++ g)) = some (.ret, [(2, .int .i64 (if (m.defs.all dupD && distinct (m.defs.map Df.name)) = false then 7 else if m.defs.all (loopD m) = false then 13 else if m.defs.all argD = false then 1 else toldP (m.defs.all (setD m)) 1))], h ++ ([.arr 0 2 [m.enc]] ++ g')) := by
  rw [← dupR_all]
  obtain ⟨g1, h1⟩ := rcheck_4 m hm h g
  cases q1 : dupR m 0 m.defs
  · rw [q1] at h1
    simp [Md.enc] at h1
    exact ⟨g1, by simp [c57S7, Md.enc, h1]⟩
  · rw [q1] at h1
    simp [Md.enc] at h1
    obtain ⟨g2, h2⟩ := rcheck_5 m hm (lim_of hl) h g1
    cases q2 : m.defs.all (loopD m)
    · rw [q2] at h2
      simp [Md.enc] at h2
      exact ⟨g2, by simp [c57S7, Md.enc, h1, h2]⟩
    · rw [q2] at h2
      simp [Md.enc] at h2
      obtain ⟨g3, h3⟩ := rcheck_6 m hm h g2
      cases q3 : m.defs.all argD
      · rw [q3] at h3
        simp [Md.enc] at h3
        exact ⟨g3, by simp [c57S7, Md.enc, h1, h2, h3]⟩
      · rw [q3] at h3
        simp [Md.enc] at h3
        obtain ⟨g4, h4⟩ := rcheck_7 m hm (lim_of hl) (fm_of q3) (QT_of hm hl q3) h g3
        refine ⟨g4, ?_⟩
        cases q4 : m.defs.all (setD m)
        · rw [q4] at h4
          simp [Md.enc] at h4
          simp [c57S7, Md.enc, h1, h2, h3, h4, toldP]
        · rw [q4] at h4
          simp [Md.enc] at h4
          simp [c57S7, Md.enc, h1, h2, h3, h4, toldP]
theorem rcheck_ok (m : Md) (hm : m.ok) (ws : Nat) (h : Avm.H) : callL cfg ws 57 [m.enc] h = some (.int .i64 (errM m), h) := by
  have e1 := fun ws h => rgreat_ok m.name hm.name ws h
  unfold errM
  refine callL_fn rfl rfl ?_
  by_cases q : 40 < m.defs.length
  · have q2 : (40 : Int) < m.defs.length := by omega
    simp [F57, c57, Md.enc, q, q2]
  · have q2 : ¬ (40 : Int) < m.defs.length := by omega
    obtain ⟨g, hl⟩ := rcheck_0 m hm h []
    cases q1 : m.defs.all limD
    · rw [q1] at hl
      simp [Md.enc] at hl
      simp [F57, c57, Md.enc, q, q2, hl]
    · rw [q1] at hl
      simp [Md.enc] at hl
      cases q3 : greatB m.name
      · rw [q3] at e1
        simp [F57, c57, Md.enc, q, q2, hl, e1]
      · rw [q3] at e1
        have hrn : m.defs.all (rnamD m) = m.defs.all (namD m) := by congr 1; funext d; exact rnamD_eq m d
        obtain ⟨g2, h2⟩ := rcheck_2 m hm h g
        rw [hrn] at h2
        cases q4 : m.defs.all (namD m)
        · rw [q4] at h2
          simp [Md.enc] at h2
          simp [F57, c57, Md.enc, q, q2, hl, e1, h2]
        · rw [q4] at h2
          simp [Md.enc] at h2
          obtain ⟨g3, h3⟩ := rcheck_S7 m hm h g2 q1
          generalize (m.defs.all dupD && distinct (m.defs.map Df.name)) = A3 at *
          generalize m.defs.all (loopD m) = A4 at *
          generalize m.defs.all argD = A5 at *
          generalize m.defs.all (setD m) = A6 at *
          generalize hR : (if A3 = false then 7 else if A4 = false then 13 else if A5 = false then 1 else toldP A6 1 : Int) = R at *
          simp [Md.enc] at h3
          simp [F57, c57, Md.enc, q, q2, hl, e1, h2, h3, hR]
theorem errM_zero {m : Md} (h : errM m = 0) : m.defs.all limD = true ∧ m.defs.all argD = true := by
  unfold errM at h
  split at h
  · cases h
  cases q1 : m.defs.all limD
  · rw [q1] at h; simp at h
  · refine ⟨rfl, ?_⟩
    cases q2 : m.defs.all argD
    · rw [q1, q2] at h
      simp only [if_true, Bool.true_eq_false, if_false] at h
      split at h
      · cases h
      split at h
      · cases h
      split at h
      · cases h
      · cases h
    · rfl
end Go.Proofs.YtpjajogdoccdhaaGreatDoor
namespace Go.Proofs.YtpjajogdoccdhaaGreatDoor
open Go Go.Avm
def errC (m : Md) (t : Ty) : Int := if errM m = 0 then errT m t else errM m
def ansF (m : Md) (t : Ty) (v : Val) : Bool := decide (errC m t = 0) && (fairP v && fitB m v.size t v)
theorem errT_zero {m : Md} {t : Ty} (h : errT m t = 0) : limS t = true ∧ t.allP rightP = true := by
  unfold errT at h
  cases q1 : limS t
  · rw [q1] at h; simp at h
  · refine ⟨rfl, ?_⟩
    cases q2 : t.allP rightP
    · rw [q1, q2] at h
      simp only [Bool.true_eq_false, if_false] at h
      split at h
      · cases h
      split at h
      · cases h
      split at h
      · cases h
      · cases h
    · rfl
theorem ctypeC_ok (m : Md) (hm : m.ok) (t : Ty) (hs : t.size ≤ 1048576) (ws : Nat) (h : Avm.H) : callL cfg ws 23 [m.enc, t.enc] h = some (.int .i64 (errC m t), h) := by
  unfold errC
  by_cases q : errM m = 0
  · rw [if_pos q]
    exact ctype_ok m hm (fm_of (errM_zero q).2) t hs (fun ws h => q ▸ check_ok m hm ws h) ws h
  · rw [if_neg q]
    exact ctype_err m t (errM m) q (fun ws h => check_ok m hm ws h) ws h
theorem rctypeC_ok (m : Md) (hm : m.ok) (t : Ty) (hs : t.size ≤ 1048576) (ws : Nat) (h : Avm.H) : callL cfg ws 26 [m.enc, t.enc] h = some (.int .i64 (errC m t), h) := by
  unfold errC
  by_cases q : errM m = 0
  · rw [if_pos q]
    exact rctype_ok m hm (lim_of (errM_zero q).1) (fm_of (errM_zero q).2) t hs (fun ws h => q ▸ rcheck_ok m hm ws h) ws h
  · rw [if_neg q]
    exact rctype_err m t (errM m) q (fun ws h => rcheck_ok m hm ws h) ws h
theorem errC_zero {m : Md} {t : Ty} (h : errC m t = 0) : errM m = 0 ∧ errT m t = 0 := by
  unfold errC at h
  by_cases q : errM m = 0
  · rw [if_pos q] at h; exact ⟨q, h⟩
  · rw [if_neg q] at h; exact absurd h q
theorem pfits_ok (m : Md) (hm : m.ok) (t : Ty) (hs : t.size ≤ 1048576) (v : Val) (hv : v.size ≤ 1048576) (ws : Nat) (h : Avm.H) : callL cfg ws 8 [m.enc, t.enc, v.enc] h = some (.tup [.bool (ansF m t v), .int .i64 (errC m t)], h) := by
  have hw : t.wid ≤ 1048576 := Nat.le_trans t.wid_le hs
  have e1 := fun ws h => ctypeC_ok m hm t hs ws h
  have e2 := fun ws h => fair_ok v hv ws h
  unfold ansF
  refine callL_fn rfl rfl ?_
  by_cases q : errC m t = 0
  · obtain ⟨q1, q2⟩ := errC_zero q
    have e3 := fun ws h => fits_ok m hm (fm_of (errM_zero q1).2) v.size v (Nat.le_refl _) hv t hw (errT_zero q2).2 ws h
    rw [q] at e1 ⊢
    simp [Md.enc] at e1 e2 e3
    simp [F8, c8, Md.enc, e1, e2, e3]
  · simp [Md.enc] at e1
    simp [F8, c8, Md.enc, e1, q]
theorem rpfits_ok (m : Md) (hm : m.ok) (t : Ty) (hs : t.size ≤ 1048576) (v : Val) (hv : v.size ≤ 1048576) (ws : Nat) (h : Avm.H) : callL cfg ws 9 [m.enc, t.enc, v.enc] h = some (.tup [.bool (ansF m t v), .int .i64 (errC m t)], h) := by
  have hw : t.wid ≤ 1048576 := Nat.le_trans t.wid_le hs
  have e1 := fun ws h => rctypeC_ok m hm t hs ws h
  unfold ansF
  refine callL_fn rfl rfl ?_
  by_cases q : errC m t = 0
  · obtain ⟨q1, q2⟩ := errC_zero q
    have e3 := fun ws h => fit_ok m hm (lim_of (errM_zero q1).1) (fm_of (errM_zero q1).2) t hw (lim_nodes (errT_zero q2).1) (errT_zero q2).2 v hv ws h
    rw [q] at e1 ⊢
    simp [Md.enc] at e1 e3
    simp [F9, c9, Md.enc, e1, e3]
  · simp [Md.enc] at e1
    simp [F9, c9, Md.enc, e1, q]
set_option maxRecDepth 100000 in
theorem sane3 (ws : Nat) (A B C : ABlock) : callN cfg 100 ws 10 [] [A, B, C] = some (.bool true, [A, B, C]) := by kernel_rfl
theorem sane3_ok (ws : Nat) (A B C : ABlock) : callL cfg ws 10 [] [A, B, C] = some (.bool true, [A, B, C]) := callN_L 100 _ _ _ _ _ (sane3 ws A B C)
theorem typesFits_ok (m : Md) (hm : m.ok) (t : Ty) (hs : t.size ≤ 1048576) (v : Val) (hv : v.size ≤ 1048576) : callL cfg 0 3 [m.enc, t.enc, v.enc] [] = some (.bool true, []) := by
  have e1 := fun ws h => pfits_ok m hm t hs v hv ws h
  have e2 := fun ws h => rpfits_ok m hm t hs v hv ws h
  refine callL_fn rfl rfl ?_
  generalize ansF m t v = A at *
  generalize errC m t = E at *
  simp [Md.enc] at e1 e2
  simp [F3, c3, Md.enc, e1, e2, sane3_ok]
end Go.Proofs.YtpjajogdoccdhaaGreatDoor
namespace Go.Proofs.YtpjajogdoccdhaaGreatDoor
open Go Go.Avm
theorem errT_congr {m : Md} {t u : Ty} (hin : t.inner = u.inner) (h1 : limP t = limP u) (h2 : nameP m [] t = nameP m [] u) (h3 : difP t = difP u) (h4 : (beh m 21 t).isSome = (beh m 21 u).isSome) (h5 : rightP t = rightP u) (h6 : settleP m [] t = settleP m [] u) : errT m t = errT m u := by
  have ha : ∀ p : Ty → Bool, p t = p u → t.allP p = u.allP p := fun p hp => by rw [Ty.allP_eq, Ty.allP_eq p u, hp, hin]
  have hn : t.nodes = u.nodes := by rw [Ty.nodes_eq, Ty.nodes_eq u, hin]
  have hd : t.depth = u.depth := by rw [Ty.depth_eq, Ty.depth_eq u, hin]
  unfold errT limS
  rw [ha _ h1, ha _ h2, ha _ h3, h4, ha _ h5, ha _ h6, hn, hd]
theorem wide_right {k : Int} {nm : ByteArray} {lo hi : Int} {its : List It} {ks : List Ty} (hk : k = 2 ∨ k = 4 ∨ k = 5 ∨ k = 7) (hr : rightP (.mk k nm lo hi false false its ks) = true) : rightP (.mk k nm lo hi false true its ks) = true ∧ rightP (.mk k nm 0 0 true false its ks) = true := by
  rcases hk with rfl | rfl | rfl | rfl
  · simp [rightP, rngP, Ty.oLFE, Ty.n0, Ty.i0, Ty.k0] at hr ⊢
    simp [hr]
    exact hr.2
  · simp [rightP, rngP, Ty.oLFE, Ty.n0, Ty.i0, Ty.k0] at hr ⊢
    simp [hr]
    exact hr.2
  · simp [rightP, rngP, Ty.oLFE, Ty.n0, Ty.i0, Ty.k0] at hr ⊢
    simp [hr]
    exact hr.2
  · simp [rightP, rngP, Ty.oLFEK, Ty.n0, Ty.i0, Ty.k0] at hr ⊢
    simp [hr]
    exact ⟨hr.2, hr.2.2⟩
theorem wide_err (m : Md) {k : Int} {nm : ByteArray} {lo hi : Int} {its : List It} {ks : List Ty} (hk : k = 2 ∨ k = 4 ∨ k = 5 ∨ k = 7) (hr : rightP (.mk k nm lo hi false false its ks) = true) : errC m (.mk k nm lo hi false true its ks) = errC m (.mk k nm lo hi false false its ks) ∧ errC m (.mk k nm 0 0 true false its ks) = errC m (.mk k nm lo hi false false its ks) := by
  obtain ⟨h1, h2⟩ := wide_right hk hr
  have hk10 : ¬ k = 10 := by rcases hk with rfl | rfl | rfl | rfl <;> decide
  unfold errC
  constructor
  · rw [errT_congr (t := .mk k nm lo hi false true its ks) (u := .mk k nm lo hi false false its ks) rfl rfl rfl rfl (by simp [beh, hk10]) (by rw [h1, hr]) rfl]
  · rw [errT_congr (t := .mk k nm 0 0 true false its ks) (u := .mk k nm lo hi false false its ks) rfl rfl rfl rfl (by simp [beh, hk10]) (by rw [h2, hr]) rfl]
theorem allow_wide {k : Int} {nm : ByteArray} {lo hi : Int} {its : List It} {ks : List Ty} {n most : Int} (h : allowP (.mk k nm lo hi false false its ks) n most = true) (hr : rngP (.mk k nm lo hi false false its ks) 0 most = true) : allowP (.mk k nm lo hi false true its ks) n most = true ∧ allowP (.mk k nm 0 0 true false its ks) n most = true := by
  have h1 : inP n lo hi = true := h
  have h2 : (decide (0 ≤ lo) && (decide (lo ≤ hi) && decide (hi ≤ most))) = true := hr
  unfold inP at h1
  simp only [Bool.and_eq_true, decide_eq_true_eq] at h1 h2
  have h3 : decide (n ≤ most) = true := decide_eq_true (by omega)
  exact ⟨h3, h3⟩
theorem wide_fits (m : Md) {k : Int} {nm : ByteArray} {lo hi : Int} {its : List It} {ks : List Ty} (hk : k = 2 ∨ k = 4 ∨ k = 5 ∨ k = 7) (hr : rightP (.mk k nm lo hi false false its ks) = true) (n : Nat) (v : Val) (h : fitB m n (.mk k nm lo hi false false its ks) v = true) : fitB m n (.mk k nm lo hi false true its ks) v = true ∧ fitB m n (.mk k nm 0 0 true false its ks) v = true := by
  cases n with
  | zero => cases h
  | succ n =>
    have hk10 : ¬ k = 10 := by rcases hk with rfl | rfl | rfl | rfl <;> decide
    have hb : ∀ (a b : Int) (f e : Bool), beh m 21 (.mk k nm a b f e its ks) = some (.mk k nm a b f e its ks) := fun a b f e => by simp [beh, hk10]
    unfold fitB at h ⊢
    simp only [hb, Bool.and_eq_true, decide_eq_true_eq] at h ⊢
    obtain ⟨h1, h2⟩ := h
    suffices hs : fitS (.mk k nm lo hi false true its ks) v (fitB m n) = true ∧ fitS (.mk k nm 0 0 true false its ks) v (fitB m n) = true from ⟨⟨h1, hs.1⟩, h1, hs.2⟩
    clear h1
    rcases hk with rfl | rfl | rfl | rfl
    · have h2' : (hasP true false false v && (inP v.int (-1000000000000000) 1000000000000000 && (false || (false || inP v.int lo hi)))) = true := h2
      show (hasP true false false v && (inP v.int (-1000000000000000) 1000000000000000 && (false || (true || inP v.int lo hi)))) = true ∧ (hasP true false false v && (inP v.int (-1000000000000000) 1000000000000000 && (true || (false || inP v.int 0 0)))) = true
      simp only [Bool.and_eq_true] at h2'
      rw [h2'.1, h2'.2.1]
      exact ⟨rfl, rfl⟩
    · have h2' : (hasP false true false v && allowP (.mk 4 nm lo hi false false its ks) (v.bytes.size : Int) 4000) = true := h2
      have hr' : (Ty.oLFE (.mk 4 nm lo hi false false its ks) && rngP (.mk 4 nm lo hi false false its ks) 0 4000) = true := hr
      simp only [Bool.and_eq_true] at h2' hr'
      obtain ⟨a1, a2⟩ := allow_wide h2'.2 hr'.2
      show (hasP false true false v && allowP (.mk 4 nm lo hi false true its ks) (v.bytes.size : Int) 4000) = true ∧ (hasP false true false v && allowP (.mk 4 nm 0 0 true false its ks) (v.bytes.size : Int) 4000) = true
      rw [h2'.1, a1, a2]
      exact ⟨rfl, rfl⟩
    · have h2' : (hasP false true false v && (v.bytes.data.toList.all d01 && allowP (.mk 5 nm lo hi false false its ks) (v.bytes.size : Int) 32000)) = true := h2
      have hr' : (Ty.oLFE (.mk 5 nm lo hi false false its ks) && rngP (.mk 5 nm lo hi false false its ks) 0 32000) = true := hr
      simp only [Bool.and_eq_true] at h2' hr'
      obtain ⟨a1, a2⟩ := allow_wide h2'.2.2 hr'.2
      show (hasP false true false v && (v.bytes.data.toList.all d01 && allowP (.mk 5 nm lo hi false true its ks) (v.bytes.size : Int) 32000)) = true ∧ (hasP false true false v && (v.bytes.data.toList.all d01 && allowP (.mk 5 nm 0 0 true false its ks) (v.bytes.size : Int) 32000)) = true
      rw [h2'.1, h2'.2.1, a1, a2]
      exact ⟨rfl, rfl⟩
    · have h2' : (hasP false false true v && (allowP (.mk 7 nm lo hi false false its ks) (v.items.length : Int) 200 && v.items.all (fitB m n (ks.headD Ty.zero)))) = true := h2
      have hr' : (Ty.oLFEK (.mk 7 nm lo hi false false its ks) && (rngP (.mk 7 nm lo hi false false its ks) 0 200 && decide (ks.length = 1))) = true := hr
      simp only [Bool.and_eq_true] at h2' hr'
      obtain ⟨a1, a2⟩ := allow_wide h2'.2.1 hr'.2.1
      show (hasP false false true v && (allowP (.mk 7 nm lo hi false true its ks) (v.items.length : Int) 200 && v.items.all (fitB m n (ks.headD Ty.zero)))) = true ∧ (hasP false false true v && (allowP (.mk 7 nm 0 0 true false its ks) (v.items.length : Int) 200 && v.items.all (fitB m n (ks.headD Ty.zero)))) = true
      rw [h2'.1, h2'.2.2, a1, a2]
      exact ⟨rfl, rfl⟩
theorem wide (m : Md) {k : Int} {nm : ByteArray} {lo hi : Int} {its : List It} {ks : List Ty} (hk : k = 2 ∨ k = 4 ∨ k = 5 ∨ k = 7) (v : Val) (he : errC m (.mk k nm lo hi false false its ks) = 0) (ha : ansF m (.mk k nm lo hi false false its ks) v = true) :
    (errC m (.mk k nm lo hi false true its ks) = 0 ∧ ansF m (.mk k nm lo hi false true its ks) v = true) ∧ errC m (.mk k nm 0 0 true false its ks) = 0 ∧ ansF m (.mk k nm 0 0 true false its ks) v = true := by
  have hr : rightP (.mk k nm lo hi false false its ks) = true := by
    have := (errT_zero (errC_zero he).2).2
    rw [Ty.allP_eq, Bool.and_eq_true] at this
    exact this.1
  obtain ⟨h1, h2⟩ := wide_err m hk hr
  unfold ansF at ha ⊢
  simp only [Bool.and_eq_true, decide_eq_true_eq] at ha ⊢
  obtain ⟨h3, h4⟩ := wide_fits m hk hr _ v ha.2.2
  rw [h1, h2]
  exact ⟨⟨he, he, ha.2.1, h3⟩, he, he, ha.2.1, h4⟩
end Go.Proofs.YtpjajogdoccdhaaGreatDoor
