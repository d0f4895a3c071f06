/- Defaults: all types in a type. -/
import Derived.Test.YtpjajogdoccdhaaGreatDoorM48
set_option linter.all false
namespace Go.Proofs.YtpjajogdoccdhaaGreatDoor
open Go Go.Avm
theorem rrec_loop (m : Md) (b : Ty) (v : Val) (hlen : v.items.length = b.items.length) (hvl : v.items.length ≤ 1048576) (sub : Ty → Val → Bool) (h12 : ∀ i ∈ b.items, ∀ x : Val, x.kind = 12 → sub i.of x = false) (hsub : ∀ i ∈ b.items, ∀ x ∈ v.items, ∀ ws h, callL cfg ws 65 [m.enc, i.of.enc, x.enc] h = some (.bool (sub i.of x), h)) (h : Avm.H) :
    ∃ g, roundsL (evC (callL cfg) roundsL cfg.pol h.length h.length c65L2) [3, 4, 5, 12] [(3, .ptr h.length 0 2 0 0), (4, .ptr (h.length + 1) 0 8 0 0), (5, .ptr (h.length + 2) 0 4 0 0), (12, .int .i64 (0 : Nat))] (h ++ ([.arr 0 2 [m.enc], .arr 0 8 [b.enc], .arr 0 4 [v.enc]] ++ [])) = some (if (b.items.zip v.items).all (partB sub) = true then (.exit 5, [(3, .ptr h.length 0 2 0 0), (4, .ptr (h.length + 1) 0 8 0 0), (5, .ptr (h.length + 2) 0 4 0 0), (12, .int .i64 v.items.length)], h ++ ([.arr 0 2 [m.enc], .arr 0 8 [b.enc], .arr 0 4 [v.enc]] ++ g)) else (.ret, [(6, .bool false)], h ++ ([.arr 0 2 [m.enc], .arr 0 8 [b.enc], .arr 0 4 [v.enc]] ++ g))) := by
  have hzl : (b.items.zip v.items).length = v.items.length := by simp [hlen]
  have hl : (b.items.zip v.items).length ≤ 1048576 := by omega
  have hlp := loop_post (γ := Avm.H) (f := evC (callL cfg) roundsL cfg.pol h.length h.length c65L2) (keep := [3, 4, 5, 12]) (b.items.zip v.items) (fun _ _ => True)
      (fun i _ => [(3, .ptr h.length 0 2 0 0), (4, .ptr (h.length + 1) 0 8 0 0), (5, .ptr (h.length + 2) 0 4 0 0), (12, .int .i64 i)]) (fun _ g => h ++ ([.arr 0 2 [m.enc], .arr 0 8 [b.enc], .arr 0 4 [v.enc]] ++ g))
      (fun _ r o => ∃ g, o = if r.all (partB sub) = true then (.exit 5, [(3, .ptr h.length 0 2 0 0), (4, .ptr (h.length + 1) 0 8 0 0), (5, .ptr (h.length + 2) 0 4 0 0), (12, .int .i64 v.items.length)], h ++ ([.arr 0 2 [m.enc], .arr 0 8 [b.enc], .arr 0 4 [v.enc]] ++ g)) else (.ret, [(6, .bool false)], h ++ ([.arr 0 2 [m.enc], .arr 0 8 [b.enc], .arr 0 4 [v.enc]] ++ g))) ?_ ?_ [] trivial
  · obtain ⟨o, h1, g, h2⟩ := hlp
    exact ⟨g, h2 ▸ h1⟩
  · intro i x r g hd hi hx _ K hK
    have hw := wrap_nat (n := i + 1) (by omega)
    simp at hw
    have hiv : i < v.items.length := by omega
    have hib : i < b.items.length := by omega
    obtain ⟨y, x⟩ := x
    rw [List.getElem_zip] at hx
    have hxv : v.items[i] = x := congrArg Prod.snd hx
    have hxb : b.items[i] = y := congrArg Prod.fst hx
    have hmx : x ∈ v.items := by rw [← hxv]; exact List.getElem_mem hiv
    have hmy : y ∈ b.items := by rw [← hxb]; exact List.getElem_mem hib
    have e1 := fun ws h => hsub y hmy x hmx ws h
    have e2 := fun ws h => alone_ok x false false false ws h
    have hpe : ∀ p : Bool, partB sub (y, x) = p → ((if x.kind = 12 then (hasP false false false x && mayP y) else sub y.of x) = p) := fun p hp => by
      unfold partB at hp
      by_cases q : x.kind = 12
      · rw [if_pos q]; simpa [q, h12 y hmy x q] using hp
      · rw [if_neg q]; simpa [q] using hp
    simp [Md.enc] at e1 e2
    cases hv : partB sub (y, x)
    · refine ⟨_, ?_, g ++ [.arr 0 12 [y.enc], .arr 0 4 [x.enc]], by simp only [List.all_cons, hv, Bool.false_and, Bool.false_eq_true, if_false]; rfl⟩
      have hv2 := hpe _ hv
      by_cases q1 : x.kind = 12
      · rw [if_pos q1] at hv2
        simp [q1] at e2
        cases q2 : hasP false false false x
        · rw [q2] at e2
          simp [c65L2, c65S23, c65T282, c65E282, Md.enc, hiv, hib, hxv, hxb, e2, q1]
        · rw [q2] at e2 hv2
          simp only [Bool.true_and, mayP, Bool.or_eq_false_iff, Bool.not_eq_false', List.isEmpty_iff] at hv2
          simp [c65L2, c65S23, c65T282, c65E282, Md.enc, hiv, hib, hxv, hxb, e2, q1, hv2.1, hv2.2.1, hv2.2.2]
      · rw [if_neg q1] at hv2
        rw [hv2] at e1
        simp [c65L2, c65S23, c65T282, c65E282, Md.enc, hiv, hib, hxv, hxb, e1, q1]
    · obtain ⟨o, h4, g2, h5⟩ := hK (g ++ [.arr 0 12 [y.enc], .arr 0 4 [x.enc]]) trivial
      refine ⟨o, ?_, g2, by simp only [List.all_cons, hv, Bool.true_and]; exact h5⟩
      have hv2 := hpe _ hv
      by_cases q1 : x.kind = 12
      · rw [if_pos q1] at hv2
        simp [q1] at e2
        simp [Md.enc, q1] at h4
        rw [Bool.and_eq_true] at hv2
        rw [hv2.1] at e2
        have hm := hv2.2
        unfold mayP at hm
        cases c1 : y.opt
        · cases c2 : y.extra
          · have c3 : ¬ y.dflt = [] := by simpa [c1, c2] using hm
            have c3' : ((y.dflt.length : Int) == 0) = false := by rw [len0]; simpa using c3
            simp [c1, c2] at h4
            simp [c65L2, c65S23, c65T282, c65E282, Md.enc, hiv, hib, hxv, hxb, e2, q1, c1, c2, c3, c3', hw, h4]
          · simp [c1, c2] at h4
            simp [c65L2, c65S23, c65T282, c65E282, Md.enc, hiv, hib, hxv, hxb, e2, q1, c1, c2, hw, h4]
        · simp [c1] at h4
          simp [c65L2, c65S23, c65T282, c65E282, Md.enc, hiv, hib, hxv, hxb, e2, q1, c1, hw, h4]
      · rw [if_neg q1] at hv2
        rw [hv2] at e1
        simp [Md.enc] at h4
        simp [c65L2, c65S23, c65T282, c65E282, Md.enc, hiv, hib, hxv, hxb, e1, q1, hw, h4]
  · intro g K _
    refine ⟨_, ?_, g, by simp only [List.all_nil, if_true]; rfl⟩
    simp [c65L2, Md.enc, hlen]
theorem rfits_8 (m : Md) (hm : m.ok) (hl : m.lim) (hf : m.fm) (t : Ty) (ht : t.wid ≤ 1048576) (hn : t.nodes ≤ 600) (v : Val) (b : Ty) (hb : beh m 21 t = some b) (hvk : v.kind = b.kind) (hv : v.size ≤ 1048576) (hbs : rightP b = true) (sub : Ty → Val → Bool) (h12 : ∀ i ∈ b.items, ∀ x : Val, x.kind = 12 → sub i.of x = false) (hsub : ∀ i ∈ b.items, ∀ x ∈ v.items, ∀ ws h, callL cfg ws 65 [m.enc, i.of.enc, x.enc] h = some (.bool (sub i.of x), h)) (hk : b.kind = 8) (ws : Nat) (h : Avm.H) : callL cfg ws 65 [m.enc, t.enc, v.enc] h = some (.bool (hasP false false true v && (decide (v.items.length = b.items.length) && (b.items.zip v.items).all (partB sub))), h) := by
  have hvb := v.bytes_size
  have hvi := v.len_items
  have hvk0 := hvk
  rw [hk] at hvk
  have e0 := fun ws h => alone_ok v false false true ws h
  simp [hk, hvk, Md.enc] at e0
  cases p0 : hasP false false true v
  · rw [p0] at e0
    refine rfits_head_8 m hm hl hf t ht hn v b hb hvk0 hk ws h _ [] ?_
    simp [c65S24, Md.enc, hk, hvk, e0]
  · rw [p0] at e0
    by_cases p1 : v.items.length = b.items.length
    · obtain ⟨g, e1⟩ := rrec_loop m b v p1 (by omega) sub h12 hsub h
      simp only [Md.enc, Ty.enc_eq, Val.enc_eq, hk, hvk] at e1
      cases p2 : (b.items.zip v.items).all (partB sub)
      · rw [p2] at e1
        simp [p1] at e1
        refine rfits_head_8 m hm hl hf t ht hn v b hb hvk0 hk ws h _ g ?_
        simp [c65S24, Md.enc, hk, hvk, e0, p1, e1]
      · rw [p2] at e1
        simp [p1] at e1
        refine rfits_head_8 m hm hl hf t ht hn v b hb hvk0 hk ws h _ g ?_
        simp [c65S24, Md.enc, hk, hvk, e0, p1, e1]
    · have p1' : ¬ ((v.items.length : Nat) : Int) = (b.items.length : Nat) := by omega
      refine rfits_head_8 m hm hl hf t ht hn v b hb hvk0 hk ws h _ [] ?_
      simp [c65S24, Md.enc, hk, hvk, e0, p1, p1']
theorem fitB_absent (m : Md) (hm : m.ok) (hf : m.fm) (n : Nat) (u : Ty) (x : Val) (hu : u.wid ≤ 1048576) (hr : u.allP rightP = true) (hx : x.kind = 12) : fitB m n u x = false := by
  cases n with
  | zero => rfl
  | succ n =>
    rw [fitB]
    cases hb : beh m 21 u with
    | none => rfl
    | some b =>
      dsimp only
      obtain ⟨hbw, hbr, hb10⟩ := beh_good m hm hf hu hr hb
      have hbs := allP_self hbr
      have : ¬ x.kind = b.kind := fun e => by
        rw [hx] at e
        unfold rightP at hbs
        simp [← e] at hbs
      rw [decide_eq_false this, Bool.false_and]
end Go.Proofs.YtpjajogdoccdhaaGreatDoor
namespace Go.Proofs.YtpjajogdoccdhaaGreatDoor
open Go Go.Avm
theorem rfits_ok (m : Md) (hm : m.ok) (hl : m.lim) (hf : m.fm) : ∀ (n : Nat) (v : Val), v.size ≤ n → v.size ≤ 1048576 → ∀ t : Ty, t.wid ≤ 1048576 → t.nodes ≤ 600 → t.allP rightP = true → ∀ ws h, callL cfg ws 65 [m.enc, t.enc, v.enc] h = some (.bool (fitB m n t v), h)
  | 0, v, hn, _, _, _, _, _, _, _ => by have := v.size_pos; omega
  | n + 1, v, hvn, hv, t, ht, hn, hr, ws, h => by
    rw [fitB]
    cases hb : beh m 21 t with
    | none => exact rfits_none m hm hl hf t ht hn v hb ws h
    | some b =>
      dsimp only
      obtain ⟨hbw, hbr, hb10⟩ := beh_good m hm hf ht hr hb
      have hbs := allP_self hbr
      have hbn := beh_nodes m hl hn hb
      by_cases hvk : v.kind = b.kind
      · rw [decide_eq_true hvk, Bool.true_and]
        have hin : b.comp = true → ∀ i ∈ b.items, i.of ∈ b.inner := fun hc i hi => by unfold Ty.inner; rw [if_pos hc]; exact List.mem_append_right _ (List.mem_map_of_mem hi)
        have hsubI : b.comp = true → ∀ i ∈ b.items, ∀ x ∈ v.items, ∀ ws h, callL cfg ws 65 [m.enc, i.of.enc, x.enc] h = some (.bool (fitB m n i.of x), h) := fun hc i hi x hx ws h =>
          rfits_ok m hm hl hf n x (by have := Val.mem_items hx; omega) (by have := Val.mem_items hx; omega) i.of (Nat.le_trans (Ty.wid_itof hi) hbw) (by have := Ty.nodes_inner (hin hc i hi); omega) (allP_inner hbr (hin hc i hi)) ws h
        unfold fitS
        by_cases q0 : b.kind = 0
        · rw [if_pos q0]; exact rfits_0 m hm hl hf t ht hn v b hb hvk hv hbs q0 ws h
        rw [if_neg q0]
        by_cases q1 : b.kind = 1
        · rw [if_pos q1]; exact rfits_1 m hm hl hf t ht hn v b hb hvk hv hbs q1 ws h
        rw [if_neg q1]
        by_cases q2 : b.kind = 2
        · rw [if_pos q2]; exact rfits_2 m hm hl hf t ht hn v b hb hvk hv hbs q2 ws h
        rw [if_neg q2]
        by_cases q3 : b.kind = 3
        · rw [if_pos q3]; exact rfits_3 m hm hl hf t ht hn v b hb hvk hv hbs q3 ws h
        rw [if_neg q3]
        by_cases q4 : b.kind = 4
        · rw [if_pos q4]; exact rfits_4 m hm hl hf t ht hn v b hb hvk hv hbs q4 ws h
        rw [if_neg q4]
        by_cases q5 : b.kind = 5
        · rw [if_pos q5]; exact rfits_5 m hm hl hf t ht hn v b hb hvk hv hbs q5 ws h
        rw [if_neg q5]
        by_cases q6 : b.kind = 6
        · rw [if_pos q6]; exact rfits_6 m hm hl hf t ht hn v b hb hvk hv hbs q6 ws h
        rw [if_neg q6]
        by_cases q11 : b.kind = 11
        · rw [if_pos q11]; exact rfits_11 m hm hl hf t ht hn v b hb hvk hv hbs q11 ws h
        rw [if_neg q11]
        by_cases q7 : b.kind = 7
        · rw [if_pos q7]
          have hk1 := right_kids hbs q7
          obtain ⟨kd, hkd⟩ := List.length_eq_one_iff.1 hk1
          have hkm : b.kids.headD Ty.zero ∈ b.kids := by rw [hkd]; simp
          have hki : b.kids.headD Ty.zero ∈ b.inner := List.mem_append_left _ hkm
          exact rfits_7 m hm hl hf t ht hn v b hb hvk hv hbs (fitB m n) hk1 (fun x hx ws h => rfits_ok m hm hl hf n x (by have := Val.mem_items hx; omega) (by have := Val.mem_items hx; omega) _ (Nat.le_trans (Ty.wid_kid hkm) hbw) (by have := Ty.nodes_inner hki; omega) (allP_inner hbr hki) ws h) q7 ws h
        rw [if_neg q7]
        by_cases q9 : b.kind = 9
        · rw [if_pos q9]; exact rfits_9 m hm hl hf t ht hn v b hb hvk hv hbs (fitB m n) (hsubI (by unfold Ty.comp; simp [q9])) q9 ws h
        rw [if_neg q9]
        have q8 := right_kind hbs hb10 q0 q1 q2 q3 q4 q5 q6 q11 q7 q9
        have hc : b.comp = true := by unfold Ty.comp; simp [q8]
        exact rfits_8 m hm hl hf t ht hn v b hb hvk hv hbs (fitB m n) (fun i hi x hx => fitB_absent m hm hf n i.of x (Nat.le_trans (Ty.wid_itof hi) hbw) (allP_inner hbr (hin hc i hi)) hx) (hsubI hc) q8 ws h
      · rw [decide_eq_false hvk, Bool.false_and]
        exact rfits_ne m hm hl hf t ht hn v b hb hvk ws h
/-- Fit of the document: with the limits of a value. -/
theorem fit_ok (m : Md) (hm : m.ok) (hl : m.lim) (hf : m.fm) (t : Ty) (ht : t.wid ≤ 1048576) (hn : t.nodes ≤ 600) (hr : t.allP rightP = true) (v : Val) (hv : v.size ≤ 1048576) (ws : Nat) (h : Avm.H) : callL cfg ws 27 [m.enc, t.enc, v.enc] h = some (.bool (fairP v && fitB m v.size t v), h) := by
  have e1 := fun ws h => rcount_ok _ v (Nat.le_refl _) hv ws h
  have e2 := fun ws h => rfits_ok m hm hl hf _ v (Nat.le_refl _) hv t ht hn hr ws h
  simp [Md.enc] at e1 e2
  refine callL_fn rfl rfl ?_
  unfold fairP
  by_cases q1 : v.nodes ≤ 600
  · by_cases q2 : v.depth ≤ 30
    · have q1' : (v.nodes : Int) ≤ 600 := by omega
      have q2' : (v.depth : Int) ≤ 30 := by omega
      simp [F27, c27, Md.enc, e1, e2, q1, q2, q1', q2']
    · have q1' : (v.nodes : Int) ≤ 600 := by omega
      have q2' : ¬ (v.depth : Int) ≤ 30 := by omega
      simp [F27, c27, Md.enc, e1, q1, q2, q1', q2']
  · have q1' : ¬ (v.nodes : Int) ≤ 600 := by omega
    simp [F27, c27, Md.enc, e1, q1, q1']
end Go.Proofs.YtpjajogdoccdhaaGreatDoor
namespace Go.Proofs.YtpjajogdoccdhaaGreatDoor
open Go Go.Avm
def nrefB (ps : List ByteArray) (x : Ty) : Bool := !(decide (x.kind = 10) && inS ps x.name)
theorem pnm_loop (ps : List ByteArray) (hp : ps.length ≤ 1048576) (t : Ty) (ht : t.wid ≤ 1048576) (hb : t.nodes ≤ 1048576) (h : Avm.H) : ∃ g, roundsL (evC (callL cfg) roundsL cfg.pol h.length h.length c149L0) [1, 5, 6] [(1, .isl (ps.map .str)), (5, .isl (t.rall.map Ty.enc)), (6, .int .i64 (0 : Nat))] (h ++ ([.arr 0 8 [t.enc]] ++ [])) = some (if (t.rall).all (nrefB ps) = true then (.exit 0, [(1, .isl (ps.map .str)), (5, .isl (t.rall.map Ty.enc)), (6, .int .i64 (t.rall).length)], h ++ ([.arr 0 8 [t.enc]] ++ g)) else (.ret, [(4, .bool true)], h ++ ([.arr 0 8 [t.enc]] ++ g))) := by
  have hl : (t.rall).length ≤ 1048576 := (by have := rall_len _ t (Nat.le_refl _); omega)
  have hlp := loop_post (γ := Avm.H) (f := evC (callL cfg) roundsL cfg.pol h.length h.length c149L0) (keep := [1, 5, 6]) (t.rall) (fun _ _ => True)
      (fun i _ => [(1, .isl (ps.map .str)), (5, .isl (t.rall.map Ty.enc)), (6, .int .i64 i)]) (fun _ g => h ++ ([.arr 0 8 [t.enc]] ++ g))
      (fun _ r o => ∃ g, o = if r.all (nrefB ps) = true then (.exit 0, [(1, .isl (ps.map .str)), (5, .isl (t.rall.map Ty.enc)), (6, .int .i64 (t.rall).length)], h ++ ([.arr 0 8 [t.enc]] ++ g)) else (.ret, [(4, .bool true)], h ++ ([.arr 0 8 [t.enc]] ++ g))) ?_ ?_ [] trivial
  · obtain ⟨o, h1, g, h2⟩ := hlp
    exact ⟨g, h2 ▸ h1⟩
  · intro i x r g hd hi hx _ K hK
    have hw := wrap_nat (n := i + 1) (by omega)
    simp at hw
    have hm : x ∈ (t.rall) := by rw [← hx]; exact List.getElem_mem hi
    have e0 := fun ws h => has_ok ps x.name hp ws h
    cases hv : (nrefB ps) x
    · refine ⟨_, ?_, g, by simp only [List.all_cons, hv, Bool.false_and, Bool.false_eq_true, if_false]; rfl⟩
      unfold nrefB at hv
      by_cases q : x.kind = 10
      · have hv2 : inS ps x.name = true := by simpa [q] using hv
        rw [hv2] at e0
        simp [c149L0, hi, hx, q, e0]
      · simp [q] at hv
      --simp [c149L0, hi, hx, e0, ]
    · obtain ⟨o, h4, g2, h5⟩ := hK g trivial
      refine ⟨o, ?_, g2, by simp only [List.all_cons, hv, Bool.true_and]; exact h5⟩
      simp at h4
      unfold nrefB at hv
      by_cases q : x.kind = 10
      · have hv2 : inS ps x.name = false := by simpa [q] using hv
        rw [hv2] at e0
        simp [c149L0, hi, hx, q, e0, hw, h4]
      · simp [c149L0, hi, hx, q, hw, h4]
      --simp [c149L0, hi, hx, e0, hw, h4]
  · intro g K _
    refine ⟨_, ?_, g, by simp only [List.all_nil, if_true]; rfl⟩
    simp [c149L0]
def namedP (ps : List ByteArray) (t : Ty) : Bool := !t.allP (nrefB ps)
theorem pnm_ok (t : Ty) (ht : t.wid ≤ 1048576) (hb : t.nodes ≤ 1048576) (ps : List ByteArray) (hp : ps.length ≤ 1048576) (ws : Nat) (h : Avm.H) : callL cfg ws 149 [t.enc, .isl (ps.map .str)] h = some (.bool (namedP ps t), h) := by
  obtain ⟨g, hl⟩ := pnm_loop ps hp t ht hb h
  have ha := fun ws h => rall_ok _ t (Nat.le_refl _) ht hb ws h
  rw [rall_all _ _ t (Nat.le_refl _)] at hl
  refine callL_fn rfl rfl ?_
  unfold namedP
  simp at ha
  cases q : t.allP (nrefB ps)
  · rw [q] at hl
    simp at hl
    simp [F149, c149, ha, hl]
  · rw [q] at hl
    simp at hl
    simp [F149, c149, ha, hl]
end Go.Proofs.YtpjajogdoccdhaaGreatDoor
namespace Go.Proofs.YtpjajogdoccdhaaGreatDoor
open Go Go.Avm
theorem cnamedf_ok (m : Md) (ps : List ByteArray) (hp : ps.length ≤ 1048576) (x : Ty) (ws : Nat) (h : Avm.H) : callL cfg ws 157 [x.enc, .iptr [.str m.name, .isl (m.defs.map Df.enc), .isl (ps.map .str)]] h = some (.bool (nrefB ps x), h) := by
  have e0 := fun ws h => containsS_ok ps x.name hp ws h
  refine callL_fn rfl rfl ?_
  unfold nrefB
  by_cases q : x.kind = 10
  · simp [F157, c157, q, e0]
  · simp [F157, c157, q]
theorem cnamed_ok (m : Md) (ps : List ByteArray) (hp : ps.length ≤ 1048576) (t : Ty) (hw0 : t.wid ≤ 1048576) (hb : t.nodes ≤ 1048576) (ws : Nat) (h : Avm.H) : callL cfg ws 136 [.agg [.str m.name, .isl (m.defs.map Df.enc), .isl (ps.map .str)], t.enc] h = some (.bool (namedP ps t), h) := by
  have h2 := fun ws h cap hcap => within_ok (cap' := [.iptr [.str m.name, .isl (m.defs.map Df.enc), .isl (ps.map .str)]]) (k := 0) (.inl rfl) (by simp) _ t (Nat.le_refl _) hw0 hb (fun x _ hx _ ws h' => by simpa using cnamedf_ok m ps hp x ws h') ws h cap hcap
  refine callL_fn rfl rfl ?_
  unfold namedP
  simp at h2
  simp [F136, c136, h2]
/-- May a component be as it is? -/
def dfltB (m : Md) (ps : List ByteArray) (i : It) : Bool := match i.dflt with
  | [] => true
  | [d] => !i.opt && (!namedP ps i.of && (fitB m d.size i.of d && fairP d))
  | _ => false
theorem component_ok (m : Md) (hm : m.ok) (hf : m.fm) (ps : List ByteArray) (hp : ps.length ≤ 1048576) (i : It) (hw : i.of.wid ≤ 1048576) (hb : i.dflt ≠ [] → i.of.nodes ≤ 1048576) (hr : i.dflt ≠ [] → i.of.allP rightP = true) (hd : ∀ d ∈ i.dflt, d.size ≤ 1048576) (ws : Nat) (h : Avm.H) :
    callL cfg ws 97 [.agg [.str m.name, .isl (m.defs.map Df.enc), .isl (ps.map .str)], i.enc] h = some (.bool (dfltB m ps i), h) := by
  refine callL_fn rfl rfl ?_
  unfold dfltB
  match hi : i.dflt with
  | [] => simp [F97, c97, hi]
  | [d] =>
    have hne : i.dflt ≠ [] := by rw [hi]; simp
    have hds := hd d (by rw [hi]; simp)
    have e1 := fun ws h => cnamed_ok m ps hp i.of hw (hb hne) ws h
    have e2 := fun ws h => fits_ok m hm hf _ d (Nat.le_refl _) hds i.of hw (hr hne) ws h
    have e3 := fun ws h => fair_ok d hds ws h
    simp [Md.enc] at e1 e2 e3
    cases q1 : i.opt
    · cases q2 : namedP ps i.of
      · rw [q2] at e1
        cases q3 : fitB m d.size i.of d
        · rw [q3] at e2
          simp [F97, c97, hi, q1, q3, e1, e2]
        · rw [q3] at e2
          simp [F97, c97, hi, q1, q3, e1, e2, e3]
      · rw [q2] at e1
        simp [F97, c97, hi, q1, e1]
    · simp [F97, c97, hi, q1]
  | d :: e :: r =>
    have h1 : (1 : Int) < (r.length : Int) + 1 + 1 := by omega
    have h0 : ((r.length : Int) + 1 + 1 == 0) = false := by simp; omega
    simp [F97, c97, hi, h1, h0]
end Go.Proofs.YtpjajogdoccdhaaGreatDoor
namespace Go.Proofs.YtpjajogdoccdhaaGreatDoor
open Go Go.Avm
theorem withinQ_ok {g : FuncId} {k : Nat} {p : Ty → Bool} {cap' : List AV} (Q : Ty → Prop) (hQ : ∀ x y : Ty, Q x → y ∈ x.inner → Q y) (hs : Still cfg g) (hcp : pureL cap' = true) : ∀ (n : Nat) (t : Ty), t.size ≤ n → t.wid ≤ 1048576 → t.nodes ≤ 1048576 → Q t →
    (∀ x : Ty, Q x → x.size ≤ n → x.wid ≤ t.wid → x.nodes ≤ t.nodes → ∀ ws h', callL cfg ws g (cap'.take k ++ ([x.enc] ++ cap'.drop k)) h' = some (.bool (p x), h')) →
    ∀ ws h cap, snapL (snap h 7) cap = some cap' → callL cfg ws 45 [t.enc, .clos g k cap] h = some (.bool (t.allP p), h)
  | 0, t, ht, _, _, _, _, _, _, _, _ => by have := t.size_pos; omega
  | n + 1, t, ht, hw0, hb, hq, hp, ws, h, cap, hcap => by
    have hk := kids_ok t hw0
    have hpt := fun ws h => hp t hq ht (Nat.le_refl _) (Nat.le_refl _) ws h
    have hlen := t.len_inner
    have hsub : ∀ x ∈ t.inner, ∀ ws h', callL cfg ws 89 [x.enc, .iptr [.clos g k cap']] h' = some (.bool (!(x.allP p)), h') := fun x hx ws h' => by
      have h1 := Ty.mem_inner hx
      have h2 := Ty.wid_inner hx
      have h3 := Ty.nodes_inner hx
      have hin := fun h => withinQ_ok Q hQ hs hcp n x (by omega) (by omega) (by omega) (hQ t x hq hx) (fun y hyq hy hyw hyn ws h' => hp y hyq (by omega) (by omega) (by omega) ws h') h'.length h cap' (snapL_pure hcp)
      refine callL_fn rfl rfl ?_
      simp at hin
      simp [F89, c89, snapL_pure hcp, hcp, hin]
    have hct := fun h cap2 (hcap2 : snapL (snap h 7) cap2 = some [.iptr [.clos g k cap']]) => containsT_ok (k := 0) t.inner (by omega) (.inl rfl) h hcap2 (by simp [hcp]) (fun x hx ws h' => by simpa using hsub x hx ws h')
    refine callL_fn rfl rfl ?_
    rw [Ty.allP_eq]
    simp at hk hpt
    have hpol := hs
    cases hv : p t
    · rw [hv] at hpt
      rcases hs with hs | ⟨b, hs⟩ <;> simp [F45, c45, hcap, hs, hpt]
    · rw [hv] at hpt
      rcases hs with hs | ⟨b, hs⟩ <;> simp [F45, c45, hcap, hs, hpt, hk, hct, snapL_pure hcp, any_not]
def settleP (m : Md) (ps : List ByteArray) (t : Ty) : Bool := !decide (t.kind = 8) || t.items.all (dfltB m ps)
/-- What is asked of a type whose defaults are looked at. -/
structure QT (t : Ty) : Prop where
  wid : t.wid ≤ 1048576
  nodes : t.nodes ≤ 600
  right : t.allP rightP = true
  size : t.size ≤ 1048576
theorem QT.inner {t x : Ty} (h : QT t) (hx : x ∈ t.inner) : QT x :=
  ⟨Nat.le_trans (Ty.wid_inner hx) h.wid, by have := Ty.nodes_inner hx; have := h.nodes; omega, allP_inner h.right hx, by have := Ty.mem_inner hx; have := h.size; omega⟩
theorem QT.dflt {t : Ty} (h : QT t) {i : It} (hi : i ∈ t.items) : ∀ d ∈ i.dflt, d.size ≤ 1048576 := fun d hd => by
  have := It.mem_dflt hd; have := Ty.mem_items hi; have := h.size; omega
/-- An item with a default lies in a record. -/
theorem QT.record {t : Ty} (h : QT t) {i : It} (hi : i ∈ t.items) (hd : i.dflt ≠ []) : t.kind = 8 := by
  have hr := allP_self h.right
  by_cases hc : t.comp = true
  · by_cases q8 : t.kind = 8
    · exact q8
    · have q9 : t.kind = 9 := by simpa [Ty.comp, q8] using hc
      unfold rightP at hr
      simp [q9] at hr
      have := hr.2.2 i hi
      simp [plainI] at this
      exact absurd this.2 hd
  · rcases right_items hr hc with h0 | h0
    · rw [h0] at hi; cases hi
    · have := List.all_eq_true.1 h0 i hi
      simp [bareI] at this
      exact absurd this.2.2 hd
theorem QT.of {t : Ty} (h : QT t) {i : It} (hi : i ∈ t.items) (hd : i.dflt ≠ []) : QT i.of :=
  h.inner (by unfold Ty.inner; rw [if_pos (by unfold Ty.comp; simp [h.record hi hd])]; exact List.mem_append_right _ (List.mem_map_of_mem hi))
theorem settle_all (m : Md) (ps : List ByteArray) {t : Ty} (h : QT t) : settleP m ps t = t.items.all (dfltB m ps) := by
  unfold settleP
  by_cases q : t.kind = 8
  · simp [q]
  · have : t.items.all (dfltB m ps) = true := List.all_eq_true.2 fun i hi => by
      unfold dfltB
      cases hd : i.dflt with
      | nil => rfl
      | cons d r => exact absurd (h.record hi (by rw [hd]; simp)) q
    rw [this]
    simp
theorem settled_ok (m : Md) (hm : m.ok) (hf : m.fm) (ps : List ByteArray) (hp : ps.length ≤ 1048576) (t : Ty) (hq : QT t) (ws : Nat) (h : Avm.H) : callL cfg ws 47 [.agg [.str m.name, .isl (m.defs.map Df.enc), .isl (ps.map .str)], t.enc] h = some (.bool (settleP m ps t), h) := by
  have hwi := t.wid_items
  have hw := hq.wid
  have h1 : ∀ i ∈ t.items, ∀ ws h', callL cfg ws 96 [i.enc, .iptr [.str m.name, .isl (m.defs.map Df.enc), .isl (ps.map .str)]] h' = some (.bool (!dfltB m ps i), h') := fun i hi ws h' => by
    have e0 := fun ws h => component_ok m hm hf ps hp i (Nat.le_trans (Ty.wid_itof hi) hw) (fun hd => by have := (hq.of hi hd).nodes; omega) (fun hd => (hq.of hi hd).right) (hq.dflt hi) ws h
    simp at e0
    refine callL_fn rfl rfl ?_
    simp [F96, c96, e0]
  have hct := fun h cap (hcap : snapL (snap h 7) cap = some [.iptr [.str m.name, .isl (m.defs.map Df.enc), .isl (ps.map .str)]]) ws => containsI_ok (g := 96) (k := 0) (p := fun i => !dfltB m ps i) t.items (by omega) (.inl rfl) h hcap (by simp) (fun i hi ws h' => by simpa using h1 i hi ws h') ws
  simp only [any_not] at hct
  refine callL_fn rfl rfl ?_
  unfold settleP
  generalize t.items.all (dfltB m ps) = A at hct ⊢
  by_cases q : t.kind = 8
  · simp [F47, c47, q, hct]
  · simp [F47, c47, q]
end Go.Proofs.YtpjajogdoccdhaaGreatDoor
