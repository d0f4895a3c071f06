/- Check of a module, the program: the first loop. -/
import Derived.Test.YtpjajogdoccdhaaGreatDoorM49
set_option linter.all false
namespace Go.Proofs.YtpjajogdoccdhaaGreatDoor
open Go Go.Avm
theorem dflt_loop (m : Md) (hmk : m.ok) (hl : m.lim) (hf : m.fm) (ps : List ByteArray) (hp : ps.length ≤ 1048576) (t : Ty) (hq : QT t) (h : Avm.H) : ∃ g, roundsL (evC (callL cfg) roundsL cfg.pol h.length h.length c116L0) [1, 3, 5, 7] [(1, .isl (ps.map .str)), (3, .ptr h.length 0 2 0 0), (5, .ptr (h.length + 1) 0 8 0 0), (7, .int .i64 (0 : Nat))] (h ++ ([.arr 0 2 [m.enc], .arr 0 8 [t.enc]] ++ [])) = some (if (t.items).all (dfltB m ps) = true then (.exit 0, [(1, .isl (ps.map .str)), (3, .ptr h.length 0 2 0 0), (5, .ptr (h.length + 1) 0 8 0 0), (7, .int .i64 (t.items).length)], h ++ ([.arr 0 2 [m.enc], .arr 0 8 [t.enc]] ++ g)) else (.ret, [(6, .bool false)], h ++ ([.arr 0 2 [m.enc], .arr 0 8 [t.enc]] ++ g))) := by
  have hlt : (t.items).length ≤ 1048576 := (Nat.le_trans t.wid_items hq.wid)
  have hlp := loop_post (γ := Avm.H) (f := evC (callL cfg) roundsL cfg.pol h.length h.length c116L0) (keep := [1, 3, 5, 7]) (t.items) (fun _ _ => True)
      (fun i _ => [(1, .isl (ps.map .str)), (3, .ptr h.length 0 2 0 0), (5, .ptr (h.length + 1) 0 8 0 0), (7, .int .i64 i)]) (fun _ g => h ++ ([.arr 0 2 [m.enc], .arr 0 8 [t.enc]] ++ g))
      (fun _ r o => ∃ g, o = if r.all (dfltB m ps) = true then (.exit 0, [(1, .isl (ps.map .str)), (3, .ptr h.length 0 2 0 0), (5, .ptr (h.length + 1) 0 8 0 0), (7, .int .i64 (t.items).length)], h ++ ([.arr 0 2 [m.enc], .arr 0 8 [t.enc]] ++ g)) else (.ret, [(6, .bool false)], h ++ ([.arr 0 2 [m.enc], .arr 0 8 [t.enc]] ++ g))) ?_ ?_ [] trivial
  · obtain ⟨o, h1, g, h2⟩ := hlp
    exact ⟨g, h2 ▸ h1⟩
  · intro i x r g hd hi hx _ K hK
    have hw := wrap_nat (n := i + 1) (by omega)
    simp at hw
    have hm : x ∈ (t.items) := by rw [← hx]; exact List.getElem_mem hi
    have hq2 : x.dflt ≠ [] → QT x.of := fun hd => hq.of hm hd
    have hds := hq.dflt hm
    cases hv : (dfltB m ps) x
    · refine ⟨_, ?_, (g ++ [.arr 0 12 [x.enc]]), by simp only [List.all_cons, hv, Bool.false_and, Bool.false_eq_true, if_false]; rfl⟩
      rcases hd0 : x.dflt with _ | ⟨d, _ | ⟨e, r2⟩⟩
      · simp [dfltB, hd0] at hv
      · have hne : x.dflt ≠ [] := by rw [hd0]; simp
        have hqo := hq2 hne
        have hdz := hds d (by rw [hd0]; simp)
        have e1 := fun ws h => pnm_ok x.of hqo.wid (by have := hqo.nodes; omega) ps hp ws h
        have e2 := fun ws h => fit_ok m hmk hl hf x.of hqo.wid hqo.nodes hqo.right d hdz ws h
        simp [Md.enc] at e1 e2
        cases q1 : x.opt
        · cases q2 : namedP ps x.of
          · rw [q2] at e1
            have q3 : (fairP d && fitB m d.size x.of d) = false := by rw [Bool.and_comm]; simpa [dfltB, hd0, q1, q2] using hv
            simp only [q3] at e2
            simp [c116L0, Md.enc, hi, hx, hd0, q1, e1, e2]
          · rw [q2] at e1
            simp [c116L0, Md.enc, hi, hx, hd0, q1, e1]
        · simp [c116L0, Md.enc, hi, hx, hd0, q1]
      · have h1 : (1 : Int) < (r2.length : Int) + 1 + 1 := by omega
        have h0 : ((r2.length : Int) + 1 + 1 == 0) = false := by simp; omega
        simp [c116L0, Md.enc, hi, hx, hd0, h1, h0]
      --simp [c116L0, hi, hx, ]
    · obtain ⟨o, h4, g2, h5⟩ := hK (g ++ [.arr 0 12 [x.enc]]) trivial
      refine ⟨o, ?_, g2, by simp only [List.all_cons, hv, Bool.true_and]; exact h5⟩
      rcases hd0 : x.dflt with _ | ⟨d, _ | ⟨e, r2⟩⟩
      · simp [Md.enc, hd0] at h4
        simp [c116L0, Md.enc, hi, hx, hd0, hw, h4]
      · have hne : x.dflt ≠ [] := by rw [hd0]; simp
        have hqo := hq2 hne
        have hdz := hds d (by rw [hd0]; simp)
        have e1 := fun ws h => pnm_ok x.of hqo.wid (by have := hqo.nodes; omega) ps hp ws h
        have e2 := fun ws h => fit_ok m hmk hl hf x.of hqo.wid hqo.nodes hqo.right d hdz ws h
        simp [Md.enc] at e1 e2
        have q0 : x.opt = false ∧ namedP ps x.of = false ∧ (fitB m d.size x.of d = true ∧ fairP d = true) := by simpa [dfltB, hd0] using hv
        have q3 : (fairP d && fitB m d.size x.of d) = true := by rw [q0.2.2.1, q0.2.2.2]; rfl
        rw [q0.2.1] at e1
        simp only [q3] at e2
        simp [Md.enc, hd0] at h4
        simp [c116L0, Md.enc, hi, hx, hd0, q0.1, e1, e2, hw]
        simp [q0.1] at h4
        simp [h4]
      · simp [dfltB, hd0] at hv
      --simp [c116L0, hi, hx, hw, h4]
  · intro g K _
    refine ⟨_, ?_, g, by simp only [List.all_nil, if_true]; rfl⟩
    simp [c116L0]
theorem defaults_ok (m : Md) (hmk : m.ok) (hl : m.lim) (hf : m.fm) (ps : List ByteArray) (hp : ps.length ≤ 1048576) (t : Ty) (hq : QT t) (ws : Nat) (h : Avm.H) : callL cfg ws 116 [m.enc, .isl (ps.map .str), t.enc] h = some (.bool (settleP m ps t), h) := by
  obtain ⟨g, hlp⟩ := dflt_loop m hmk hl hf ps hp t hq h
  rw [settle_all m ps hq]
  refine callL_fn rfl rfl ?_
  cases q : t.items.all (dfltB m ps)
  · rw [q] at hlp
    simp [Md.enc] at hlp
    simp [F116, c116, Md.enc, hlp]
  · rw [q] at hlp
    simp [Md.enc] at hlp
    simp [F116, c116, Md.enc, hlp]
end Go.Proofs.YtpjajogdoccdhaaGreatDoor
namespace Go.Proofs.YtpjajogdoccdhaaGreatDoor
open Go Go.Avm
theorem rall_QT : ∀ (n : Nat) (t : Ty), t.size ≤ n → QT t → ∀ x ∈ t.rall, QT x
  | 0, t, h, _, _, _ => by have := t.size_pos; omega
  | n + 1, t, h, hq, x, hx => by
    rw [Ty.rall_eq] at hx
    rcases List.mem_cons.1 hx with rfl | hx
    · exact hq
    · obtain ⟨y, hy, hxy⟩ := List.mem_flatMap.1 hx
      have hyi := (rinner_mem _ _).1 hy
      exact rall_QT n y (by have := Ty.mem_inner hyi; omega) (hq.inner hyi) x hxy
theorem whole_loop (m : Md) (hmk : m.ok) (hl0 : m.lim) (hf : m.fm) (ps : List ByteArray) (hp : ps.length ≤ 1048576) (t : Ty) (hq : QT t) (h : Avm.H) : ∃ g, roundsL (evC (callL cfg) roundsL cfg.pol h.length h.length c63L0) [1, 3, 7, 8] [(1, .isl (ps.map .str)), (3, .ptr h.length 0 2 0 0), (7, .isl (t.rall.map Ty.enc)), (8, .int .i64 (0 : Nat))] (h ++ ([.arr 0 2 [m.enc], .arr 0 8 [t.enc]] ++ [])) = some (if (t.rall).all (settleP m ps) = true then (.exit 0, [(1, .isl (ps.map .str)), (3, .ptr h.length 0 2 0 0), (7, .isl (t.rall.map Ty.enc)), (8, .int .i64 (t.rall).length)], h ++ ([.arr 0 2 [m.enc], .arr 0 8 [t.enc]] ++ g)) else (.ret, [(6, .bool false)], h ++ ([.arr 0 2 [m.enc], .arr 0 8 [t.enc]] ++ g))) := by
  have hl : (t.rall).length ≤ 1048576 := (by have := rall_len _ t (Nat.le_refl _); have := hq.nodes; omega)
  have hlp := loop_post (γ := Avm.H) (f := evC (callL cfg) roundsL cfg.pol h.length h.length c63L0) (keep := [1, 3, 7, 8]) (t.rall) (fun _ _ => True)
      (fun i _ => [(1, .isl (ps.map .str)), (3, .ptr h.length 0 2 0 0), (7, .isl (t.rall.map Ty.enc)), (8, .int .i64 i)]) (fun _ g => h ++ ([.arr 0 2 [m.enc], .arr 0 8 [t.enc]] ++ g))
      (fun _ r o => ∃ g, o = if r.all (settleP m ps) = true then (.exit 0, [(1, .isl (ps.map .str)), (3, .ptr h.length 0 2 0 0), (7, .isl (t.rall.map Ty.enc)), (8, .int .i64 (t.rall).length)], h ++ ([.arr 0 2 [m.enc], .arr 0 8 [t.enc]] ++ g)) else (.ret, [(6, .bool false)], h ++ ([.arr 0 2 [m.enc], .arr 0 8 [t.enc]] ++ g))) ?_ ?_ [] trivial
  · obtain ⟨o, h1, g, h2⟩ := hlp
    exact ⟨g, h2 ▸ h1⟩
  · intro i x r g hd hi hx _ K hK
    have hw := wrap_nat (n := i + 1) (by omega)
    simp at hw
    have hm : x ∈ (t.rall) := by rw [← hx]; exact List.getElem_mem hi
    have hkn := fun ws h => defaults_ok m hmk hl0 hf ps hp x (rall_QT _ t (Nat.le_refl _) hq x hm) ws h
    cases hv : (settleP m ps) x
    · refine ⟨_, ?_, g, by simp only [List.all_cons, hv, Bool.false_and, Bool.false_eq_true, if_false]; rfl⟩
      simp only [hv] at hkn
      simp [Md.enc] at hkn
      simp [c63L0, hi, hx, hkn, Md.enc, ]
    · obtain ⟨o, h4, g2, h5⟩ := hK g trivial
      refine ⟨o, ?_, g2, by simp only [List.all_cons, hv, Bool.true_and]; exact h5⟩
      simp only [hv] at hkn
      simp [Md.enc] at hkn h4
      simp [c63L0, hi, hx, hkn, Md.enc, hw, h4]
  · intro g K _
    refine ⟨_, ?_, g, by simp only [List.all_nil, if_true]; rfl⟩
    simp [Md.enc, c63L0]
theorem whole_ok (m : Md) (hmk : m.ok) (hl0 : m.lim) (hf : m.fm) (ps : List ByteArray) (hp : ps.length ≤ 1048576) (t : Ty) (hq : QT t) (ws : Nat) (h : Avm.H) : callL cfg ws 63 [m.enc, .isl (ps.map .str), t.enc] h = some (.bool (t.allP (settleP m ps)), h) := by
  have h1 := rall_ok _ t (Nat.le_refl _) hq.wid (by have := hq.nodes; omega)
  obtain ⟨g, hl⟩ := whole_loop m hmk hl0 hf ps hp t hq h
  rw [rall_all _ _ t (Nat.le_refl _)] at hl
  refine callL_fn rfl rfl ?_
  simp at h1
  cases q : t.allP (settleP m ps) <;> rw [q] at hl <;> simp [Md.enc] at hl <;> simp [Md.enc, F63, c63, h1, hl]
end Go.Proofs.YtpjajogdoccdhaaGreatDoor
namespace Go.Proofs.YtpjajogdoccdhaaGreatDoor
open Go Go.Avm
def toldP (b : Bool) (e : Int) : Int := if b = true then 0 else e
theorem told_ok (b : Bool) (e : Int) (ws : Nat) (h : Avm.H) : callL cfg ws 44 [.bool b, .int .i64 e] h = some (.int .i64 (toldP b e), h) := by
  refine callL_fn rfl rfl ?_
  unfold toldP
  cases b <;> simp [F44, c44]
def firstP : List Int → Int
  | [] => 0
  | e :: l => if e = 0 then firstP l else e
def eI (l : List Int) : List AV := l.map (.int .i64)
theorem first_loop (l : List Int) (hl0 : l.length ≤ 1048576) (h : Avm.H) : ∃ o, roundsL (evC (callL cfg) roundsL cfg.pol h.length h.length c76L0) [5, 6, 7] [(5, .isl (eI l)), (6, .int .i64 l.length), (7, .int .i64 (0 : Nat))] h = some o ∧ (if firstP l = 0 then o = (.exit 0, [(5, .isl (eI l)), (6, .int .i64 l.length), (7, .int .i64 l.length)], h) else o = (.ret, [(2, .int .i64 (firstP l))], h)) := by
  refine loop_post (γ := Unit) (f := evC (callL cfg) roundsL cfg.pol h.length h.length c76L0) (keep := [5, 6, 7]) l (fun _ _ => True) (fun i _ => [(5, .isl (eI l)), (6, .int .i64 l.length), (7, .int .i64 i)]) (fun _ _ => h)
      (fun _ r o => if firstP r = 0 then o = (.exit 0, [(5, .isl (eI l)), (6, .int .i64 l.length), (7, .int .i64 l.length)], h) else o = (.ret, [(2, .int .i64 (firstP r))], h)) ?_ ?_ () trivial
  · intro i x r c hd hi hx _ K hK
    have hw := wrap_nat (n := i + 1) (by omega)
    simp at hw
    by_cases q : x = 0
    · obtain ⟨o, h4, h5⟩ := hK () trivial
      refine ⟨o, ?_, by simpa [firstP, q] using h5⟩
      simp [eI] at h4
      simp [c76L0, eI, hi, hx, q, hw, h4]
    · refine ⟨_, ?_, by simp [firstP, q]; rfl⟩
      simp [c76L0, eI, hi, hx, q]
  · intro c K _
    refine ⟨_, ?_, by simp [firstP]; rfl⟩
    simp [c76L0, eI]
theorem first_ok (l : List Int) (hl0 : l.length ≤ 1048576) (ws : Nat) (h : Avm.H) : callL cfg ws 76 [.isl (eI l)] h = some (.int .i64 (firstP l), h) := by
  obtain ⟨o, hlp, ho⟩ := first_loop l hl0 h
  have hsn := snapL_pure (h := h) (n := 7) (pure_ints l)
  refine callL_fn rfl rfl ?_
  unfold eI at *
  by_cases q : firstP l = 0
  · rw [if_pos q] at ho
    subst ho
    rw [q]
    simp at hlp
    simp [F76, c76, hsn, hlp]
  · rw [if_neg q] at ho
    subst ho
    simp at hlp
    simp [F76, c76, hsn, hlp]
end Go.Proofs.YtpjajogdoccdhaaGreatDoor
namespace Go.Proofs.YtpjajogdoccdhaaGreatDoor
open Go Go.Avm
def errT (m : Md) (t : Ty) : Int := if limS t = false then 2 else if t.allP (nameP m []) = false then 6 else if t.allP difP = false then 7 else if (beh m 21 t).isSome = false then 13 else toldP (t.allP rightP && t.allP (settleP m [])) 1
theorem lim_nodes {t : Ty} (h : limS t = true) : t.nodes ≤ 600 := by
  unfold limS at h
  simp only [Bool.and_eq_true, decide_eq_true_eq] at h
  exact h.1
theorem within_right (t : Ty) (hw : t.wid ≤ 1048576) (hb : t.nodes ≤ 1048576) (ws : Nat) (h : Avm.H) : callL cfg ws 45 [t.enc, .clos 46 0 []] h = some (.bool (t.allP rightP), h) :=
  within_ok (cap' := []) (k := 0) (.inl rfl) (by simp) _ t (Nat.le_refl _) hw hb (fun x _ hx _ ws h' => by simpa using right_ok x (Nat.le_trans hx hw) ws h') ws h [] rfl
theorem within_settled (m : Md) (hm : m.ok) (hf : m.fm) (ps : List ByteArray) (hp : ps.length ≤ 1048576) (t : Ty) (hq : QT t) (ws : Nat) (h : Avm.H) (c : AV) (hc : snap h 7 c = some (.agg [.str m.name, .isl (m.defs.map Df.enc), .isl (ps.map .str)])) : callL cfg ws 45 [t.enc, .clos 47 1 [c]] h = some (.bool (t.allP (settleP m ps)), h) :=
  withinQ_ok (cap' := [.agg [.str m.name, .isl (m.defs.map Df.enc), .isl (ps.map .str)]]) (k := 1) QT (fun _ _ h1 h2 => h1.inner h2) (.inl rfl) (by simp) _ t (Nat.le_refl _) hq.wid (by have := hq.nodes; omega) hq (fun x hxq _ _ _ ws h' => by simpa using settled_ok m hm hf ps hp x hxq ws h') ws h [c] (by simp [snapL, hc])
theorem ctype_err (m : Md) (t : Ty) (e : Int) (he : e ≠ 0) (hc : ∀ ws h, callL cfg ws 40 [m.enc] h = some (.int .i64 e, h)) (ws : Nat) (h : Avm.H) : callL cfg ws 23 [m.enc, t.enc] h = some (.int .i64 e, h) := by
  simp [Md.enc] at hc
  refine callL_fn rfl rfl ?_
  simp [F23, c23, Md.enc, hc, he]
theorem ctype_ok (m : Md) (hm : m.ok) (hf : m.fm) (t : Ty) (hs : t.size ≤ 1048576) (hc : ∀ ws h, callL cfg ws 40 [m.enc] h = some (.int .i64 0, h)) (ws : Nat) (h : Avm.H) : callL cfg ws 23 [m.enc, t.enc] h = some (.int .i64 (errT m t), h) := by
  have hw : t.wid ≤ 1048576 := Nat.le_trans t.wid_le hs
  have hn : t.nodes ≤ 1048576 := Nat.le_trans (Ty.nodes_le _ t (Nat.le_refl _)) hs
  have e1 := fun ws h => limits_ok t hw hn ws h
  have e2 := fun ws h => names_ok m [] hm (by simp) t hw hn ws h
  have e3 := fun ws h => differ_ok t hw hn ws h
  have e4 := fun ws h => behind_ok m hm t hw ws h
  have e5 := fun ws h => within_right t hw hn ws h
  simp [Md.enc, Ty.zero] at hc e1 e2 e3 e4 e5
  refine callL_fn rfl rfl ?_
  unfold errT
  cases q1 : limS t
  · rw [q1] at e1
    simp [F23, c23, Md.enc, Ty.zero, hc, e1]
  · rw [q1] at e1
    cases q2 : t.allP (nameP m [])
    · rw [q2] at e2
      simp [F23, c23, Md.enc, Ty.zero, hc, e1, e2]
    · rw [q2] at e2
      cases q3 : t.allP difP
      · rw [q3] at e3
        simp [F23, c23, Md.enc, Ty.zero, hc, e1, e2, e3]
      · rw [q3] at e3
        cases q4 : (beh m 21 t).isSome
        · rw [q4] at e4
          simp [F23, c23, Md.enc, Ty.zero, hc, e1, e2, e3, e4]
        · rw [q4] at e4
          cases q5 : t.allP rightP
          · rw [q5] at e5
            have e6 := told_ok false 1
            simp [F23, c23, Md.enc, Ty.zero, hc, e1, e2, e3, e4, e5, e6]
          · rw [q5] at e5
            have hq : QT t := ⟨hw, lim_nodes q1, q5, hs⟩
            have e7 := fun ws h c hc => within_settled m hm hf [] (by simp) t hq ws h c hc
            have e6 := told_ok (t.allP (settleP m [])) 1
            simp at e7 e6
            simp [F23, c23, Md.enc, Ty.zero, hc, e1, e2, e3, e4, e5, e6, e7]
end Go.Proofs.YtpjajogdoccdhaaGreatDoor
namespace Go.Proofs.YtpjajogdoccdhaaGreatDoor
open Go Go.Avm
theorem known_nil (m : Md) (x : Ty) : knownP m [] x = nameP m [] x := by
  unfold knownP nameP
  simp [inS]
theorem allP_congr {p q : Ty → Bool} (h : ∀ x, p x = q x) (t : Ty) : t.allP p = t.allP q := by
  have : p = q := funext h
  rw [this]
theorem rctype_err (m : Md) (t : Ty) (e : Int) (he : e ≠ 0) (hc : ∀ ws h, callL cfg ws 57 [m.enc] h = some (.int .i64 e, h)) (ws : Nat) (h : Avm.H) : callL cfg ws 26 [m.enc, t.enc] h = some (.int .i64 e, h) := by
  simp [Md.enc] at hc
  refine callL_fn rfl rfl ?_
  simp [F26, c26, Md.enc, hc, he]
theorem rctype_ok (m : Md) (hm : m.ok) (hl : m.lim) (hf : m.fm) (t : Ty) (hs : t.size ≤ 1048576) (hc : ∀ ws h, callL cfg ws 57 [m.enc] h = some (.int .i64 0, h)) (ws : Nat) (h : Avm.H) : callL cfg ws 26 [m.enc, t.enc] h = some (.int .i64 (errT m t), h) := by
  have hw : t.wid ≤ 1048576 := Nat.le_trans t.wid_le hs
  have hn : t.nodes ≤ 1048576 := Nat.le_trans (Ty.nodes_le _ t (Nat.le_refl _)) hs
  have e1 := fun ws h => limited_ok t hw hn ws h
  have e2 := fun ws h => named_ok m [] hm (by simp) t hw hn ws h
  rw [allP_congr (known_nil m)] at e2
  have e3 := fun ws h => once_ok t hw hn ws h
  have e5 := fun ws h => formed_ok t hw hn ws h
  simp [Md.enc, Ty.zero] at hc e1 e2 e3 e5
  refine callL_fn rfl rfl ?_
  unfold errT
  cases q1 : limS t
  · rw [q1] at e1
    simp [F26, c26, Md.enc, Ty.zero, hc, e1]
  · rw [q1] at e1
    have e4 := fun ws h => root_beh m hm hl hf t hw (lim_nodes q1) ws h
    simp [Md.enc, Ty.zero] at e4
    cases q2 : t.allP (nameP m [])
    · rw [q2] at e2
      simp [F26, c26, Md.enc, Ty.zero, hc, e1, e2]
    · rw [q2] at e2
      cases q3 : t.allP difP
      · rw [q3] at e3
        simp [F26, c26, Md.enc, Ty.zero, hc, e1, e2, e3]
      · rw [q3] at e3
        cases q4 : (beh m 21 t).isSome
        · rw [q4] at e4
          simp [F26, c26, Md.enc, Ty.zero, hc, e1, e2, e3, e4]
        · rw [q4] at e4
          cases q5 : t.allP rightP
          · rw [q5] at e5
            simp [F26, c26, Md.enc, Ty.zero, hc, e1, e2, e3, e4, e5, toldP]
          · rw [q5] at e5
            have hq : QT t := ⟨hw, lim_nodes q1, q5, hs⟩
            have e7 := fun ws h => whole_ok m hm hl hf [] (by simp) t hq ws h
            simp [Md.enc] at e7
            cases q6 : t.allP (settleP m [])
            · rw [q6] at e7
              simp [F26, c26, Md.enc, Ty.zero, hc, e1, e2, e3, e4, e5, e7, toldP]
            · rw [q6] at e7
              simp [F26, c26, Md.enc, Ty.zero, hc, e1, e2, e3, e4, e5, e7, toldP]
end Go.Proofs.YtpjajogdoccdhaaGreatDoor
namespace Go.Proofs.YtpjajogdoccdhaaGreatDoor
open Go Go.Avm
theorem first2_ok (a b : Int) (k ver ws : Nat) (h : Avm.H) (hb : h[k]? = some (.arr ver 1 [.int .i64 a, .int .i64 b])) : callL cfg ws 76 [.osl k ver 1 0 2] h = some (.int .i64 (firstP [a, b]), h) := by
  rw [callL_snap (F := F76) rfl rfl rfl (args' := [.isl (eI [a, b])]) (by
    have e1 : snap h deep (.osl k ver 1 0 2) = some (.isl (eI [a, b])) := by simp [deep, look, hb, eI, snapL]
    have e2 : snap h deep (.isl (eI [a, b])) = some (.isl (eI [a, b])) := snap_pure (by simpa [eI] using pure_ints [a, b])
    simp only [snapL, e1, e2])]
  exact first_ok [a, b] (by simp) ws h
theorem first4_ok (a b c d : Int) (k ver ws : Nat) (h : Avm.H) (hb : h[k]? = some (.arr ver 1 [.int .i64 a, .int .i64 b, .int .i64 c, .int .i64 d])) : callL cfg ws 76 [.osl k ver 1 0 4] h = some (.int .i64 (firstP [a, b, c, d]), h) := by
  rw [callL_snap (F := F76) rfl rfl rfl (args' := [.isl (eI [a, b, c, d])]) (by
    have e1 : snap h deep (.osl k ver 1 0 4) = some (.isl (eI [a, b, c, d])) := by simp [deep, look, hb, eI, snapL]
    have e2 : snap h deep (.isl (eI [a, b, c, d])) = some (.isl (eI [a, b, c, d])) := snap_pure (by simpa [eI] using pure_ints [a, b, c, d])
    simp only [snapL, e1, e2])]
  exact first_ok [a, b, c, d] (by simp) ws h
@[irreducible] noncomputable def callA (ws : Nat) (g : FuncId) (args : List AV) (h : Avm.H) : Option (AV × Avm.H) := callL cfg ws g args h
def i64s : List AV → Option (List Int)
  | [] => some []
  | .int .i64 a :: l => (i64s l).map (a :: ·)
  | _ => none
theorem i64s_eI : ∀ {l : List AV} {r : List Int}, i64s l = some r → l = eI r
  | [], r, h => by simp only [i64s, Option.some.injEq] at h; subst h; rfl
  | v :: l, r, h => by
    unfold i64s at h
    split at h
    · rename_i e; cases e
    · rename_i a l' e
      cases e
      cases h1 : i64s l with
      | none => rw [h1] at h; cases h
      | some q => rw [h1] at h; cases h; rw [i64s_eI h1]; rfl
    · cases h
theorem firstA (k ver ws n : Nat) (h : Avm.H) (hn : n ≤ 1048576) : callL cfg ws 76 [.osl k ver 1 0 n] h = (match h[k]? with
    | some (.arr v 1 l) => if v = ver ∧ l.length = n then (match i64s l with | some r => some (.int .i64 (firstP r), h) | none => callA ws 76 [.osl k ver 1 0 n] h) else callA ws 76 [.osl k ver 1 0 n] h
    | _ => callA ws 76 [.osl k ver 1 0 n] h) := by
  have hA : callA ws 76 [.osl k ver 1 0 n] h = callL cfg ws 76 [.osl k ver 1 0 n] h := by unfold callA; rfl
  rw [hA]
  split
  · rename_i v l hb
    split
    · rename_i hv
      split
      · rename_i r hr
        have hl := i64s_eI hr
        have hrl : r.length ≤ 1048576 := by have := hv.2; rw [hl] at this; simp [eI] at this; omega
        rw [callL_snap (F := F76) rfl rfl rfl (args' := [.isl (eI r)]) (by
          have e1 : snap h deep (.osl k ver 1 0 n) = some (.isl (eI r)) := by
            have hp := snapL_pure (h := h) (n := 7) (pure_ints r)
            simp [deep, look, hb, hv.1, ← hv.2, hl]
            unfold eI
            rw [hp]
          have e2 : snap h deep (.isl (eI r)) = some (.isl (eI r)) := snap_pure (by simpa [eI] using pure_ints r)
          simp only [snapL, e1, e2])]
        exact first_ok r hrl ws h
      · rfl
    · rfl
  · rfl
theorem first_told (a b : Bool) (e : Int) (he : e ≠ 0) : firstP [toldP a e, toldP b e] = toldP (a && b) e := by
  cases a <;> cases b <;> simp [firstP, toldP, he]
theorem strs_pure : ∀ l : List ByteArray, pureL (l.map .str) = true
  | [] => rfl
  | x :: l => by simpa using strs_pure l
theorem allgreat_ok (l : List ByteArray) (hl : l.length ≤ 1048576) (hz : ∀ s ∈ l, s.size ≤ 1048576) (ws : Nat) (h : Avm.H) : callL cfg ws 77 [.isl (l.map .str), .clos 78 0 []] h = some (.bool (!l.all greatB), h) := by
  have h1 := containsFunc_gen (K := 126) (J := 77) (cfg := cfg) (g := 78) (k := 0) (cap := []) (cap' := []) (enc := AV.str) (p := fun s => !greatB s) (l := l) (sz := 1) (ag := false) rfl rfl rfl rfl hl (strs_pure l) (fun x _ => by simp) (.inl rfl) (h := h) rfl rfl (fun x hx ws h' => by
    have e0 := fun ws h => great_ok x (hz x hx) ws h
    simp only [List.take_zero, List.drop_zero, List.nil_append, List.append_nil]
    refine callL_fn rfl rfl ?_
    simp [F78, c78, e0]) ws
  rw [h1, any_not]
def limD (d : Df) : Bool := decide (d.params.length ≤ 20) && limS d.of
def namD (m : Md) (d : Df) : Bool := greatB d.name && (d.params.all greatB && d.of.allP (nameP m d.params))
def dupD (d : Df) : Bool := distinct d.params && d.of.allP difP
end Go.Proofs.YtpjajogdoccdhaaGreatDoor
namespace Go.Proofs.YtpjajogdoccdhaaGreatDoor
open Go Go.Avm
theorem check_loop0 (m : Md) (hm : m.ok) (h : Avm.H) : ∃ w g, SlcIn h.length 1 1 g (((m.defs).map Df.name).map .str) w ∧ roundsL (evC (callL cfg) roundsL cfg.pol h.length h.length c40L0) [1, 3, 4, 5, 6, 7, 8, 30, 31, 32] [(1, .ptr h.length 0 2 0 0), (3, .int .i64 0), (4, .int .i64 (toldP (greatB m.name) 6)), (5, .int .i64 0), (6, .int .i64 0), (7, .int .i64 0), (8, .osl (h.length + 1) 0 1 0 0), (30, .isl (m.defs.map Df.enc)), (31, .int .i64 m.defs.length), (32, .int .i64 (0 : Nat))] (h ++ ([.arr 0 2 [m.enc]] ++ [.arr 0 1 []])) = some (.exit 0, [(1, .ptr h.length 0 2 0 0), (3, .int .i64 (toldP ((m.defs.take m.defs.length).all limD) 2)), (4, .int .i64 (toldP (greatB m.name && (m.defs.take m.defs.length).all (namD m)) 6)), (5, .int .i64 (toldP ((m.defs.take m.defs.length).all dupD) 7)), (6, .int .i64 0), (7, .int .i64 0), (8, w), (30, .isl (m.defs.map Df.enc)), (31, .int .i64 m.defs.length), (32, .int .i64 m.defs.length)], h ++ ([.arr 0 2 [m.enc]] ++ g)) := by
  have hl : m.defs.length ≤ 1048576 := hm.len
  have hlp := loop_post (γ := AV × Avm.H) (f := evC (callL cfg) roundsL cfg.pol h.length h.length c40L0) (keep := [1, 3, 4, 5, 6, 7, 8, 30, 31, 32]) m.defs
      (fun i c => SlcIn h.length 1 1 c.2 (((m.defs.take i).map Df.name).map .str) c.1)
      (fun i c => [(1, .ptr h.length 0 2 0 0), (3, .int .i64 (toldP ((m.defs.take i).all limD) 2)), (4, .int .i64 (toldP (greatB m.name && (m.defs.take i).all (namD m)) 6)), (5, .int .i64 (toldP ((m.defs.take i).all dupD) 7)), (6, .int .i64 0), (7, .int .i64 0), (8, c.1), (30, .isl (m.defs.map Df.enc)), (31, .int .i64 m.defs.length), (32, .int .i64 i)]) (fun _ c => h ++ ([.arr 0 2 [m.enc]] ++ c.2))
      (fun _ _ o => ∃ w g, SlcIn h.length 1 1 g (((m.defs).map Df.name).map .str) w ∧ o = (.exit 0, [(1, .ptr h.length 0 2 0 0), (3, .int .i64 (toldP ((m.defs.take m.defs.length).all limD) 2)), (4, .int .i64 (toldP (greatB m.name && (m.defs.take m.defs.length).all (namD m)) 6)), (5, .int .i64 (toldP ((m.defs.take m.defs.length).all dupD) 7)), (6, .int .i64 0), (7, .int .i64 0), (8, w), (30, .isl (m.defs.map Df.enc)), (31, .int .i64 m.defs.length), (32, .int .i64 m.defs.length)], h ++ ([.arr 0 2 [m.enc]] ++ g))) ?_ ?_ (.osl (h.length + 1) 0 1 0 0, [.arr 0 1 []]) (.inr ⟨0, 0, by simp, by simp⟩)
  · obtain ⟨o, hl, w, g, hI, ho⟩ := hlp
    refine ⟨w, g, hI, ?_⟩
    rw [ho] at hl
    simpa [toldP] using hl
  · intro i x r c hd hi hx hI K hK
    have hw := wrap_nat (n := i + 1) (by omega)
    simp at hw
    have hmx : x ∈ m.defs := by rw [← hx]; exact List.getElem_mem hi
    have htk : m.defs.take (i + 1) = m.defs.take i ++ [x] := by rw [List.take_succ_eq_append_getElem hi, hx]
    have hos := hm.of x hmx
    have how : x.of.wid ≤ 1048576 := Nat.le_trans x.of.wid_le hos
    have hon : x.of.nodes ≤ 1048576 := Nat.le_trans (Ty.nodes_le _ x.of (Nat.le_refl _)) hos
    have hpl := hm.params x hmx
    have e1 := fun ws h => limits_ok x.of how hon ws h
    have e2 := fun ws h => great_ok x.name (hm.dname x hmx) ws h
    have e3 := fun ws h => allgreat_ok x.params hpl (hm.pnames x hmx) ws h
    obtain ⟨G, hG⟩ : ∃ G, x.params.all greatB = G := ⟨_, rfl⟩
    simp only [hG] at e3
    have e4 := fun ws h => names_ok m x.params hm hpl x.of how hon ws h
    have e5 := fun ws h => twice_ok (.isl (x.params.map .str)) x.params hpl ws h rfl
    have e6 := fun ws h => differ_ok x.of how hon ws h
    rw [htk] at hK
    simp only [List.all_append, List.all_cons, List.all_nil, Bool.and_true, List.map_append, List.map_cons, List.map_nil] at hK
    generalize (m.defs.take i).all limD = A1 at *
    generalize (m.defs.take i).all (namD m) = A2 at *
    generalize (m.defs.take i).all dupD = A3 at *
    generalize greatB m.name = A0 at *
    have hlD : limD x = (decide ((x.params.length : Int) ≤ 20) && limS x.of) := by
      have e : ((x.params.length : Int) ≤ 20) = (x.params.length ≤ 20) := propext (by omega)
      unfold limD; simp only [e]
    obtain ⟨w, g⟩ := c
    dsimp only at hI
    simp at e1 e2 e3 e4 e5 e6
    have hne : ∀ (a b : Bool) (e : Int), e ≠ 0 → firstP [toldP a e, toldP b e] = toldP (a && b) e := first_told
    simp [-Prod.exists, c40L0, c40S0, Md.enc, hi, hx, hw, e1, e2, e3, e4, e5, e6, told_ok, firstA, i64s, hne, bslP, appended]
    generalize hA : appI _ _ _ _ _ _ = r'
    obtain ⟨v', g', rfl, h2⟩ := SlcIn.use (pre := [_]) hI hA (by simp; omega) (by simp)
    obtain ⟨o, h4, h5⟩ := hK (v', g') (by simpa using h2)
    refine ⟨o, ?_, by simpa [Md.enc] using h5⟩
    simp [Md.enc, hlD, namD, hG, dupD, Bool.and_assoc, -List.all_eq_true] at h4
    simp [Bool.and_assoc, h4, hw]
  · intro c K hI
    rw [List.take_length] at hI
    refine ⟨_, ?_, c.1, c.2, hI, rfl⟩
    simp [c40L0]
end Go.Proofs.YtpjajogdoccdhaaGreatDoor
