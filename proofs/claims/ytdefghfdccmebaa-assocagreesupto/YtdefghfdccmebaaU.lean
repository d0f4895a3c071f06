/- What the functions reckon, by the machine. -/
import Derived.Test.YtdefghfdccmebaaT
set_option linter.all false
namespace Go.Proofs.Ytdefghfdccmebaa
open Go Go.Avm
theorem Able.valid_cons {a : Able} (h : a.validB = true) : ∃ c0 cs, a.ctx = c0 :: cs := by
  simp only [Able.validB, namesB, Bool.and_eq_true, decide_eq_true_eq] at h
  match hc : a.ctx with
  | [] => rw [hc] at h; simp at h
  | c0 :: cs => exact ⟨c0, cs, rfl⟩
@[simp] theorem pure_enc (a : Able) : a.enc.pure = true := by simp [Able.enc]
def termsOf (a b : Able) : AV := termsC a.ver (a.ctx.headD ⟨#[]⟩) a.els b (b.ctx.headD ⟨#[]⟩)
def ctxOf (a b : Able) : ByteArray := if hasB b.ctx (a.ctx.headD ⟨#[]⟩) then a.ctx.headD ⟨#[]⟩ else b.ctx.headD ⟨#[]⟩
def agreeV (a b : Able) : AV := if (a.validB && b.validB) = true then .tup [termsOf a b, .bool (hasB a.ctx (ctxOf a b)), .int .i64 0] else .tup [.agg [.int .i64 0, .str ⟨#[]⟩, .isl []], .bool false, .int .i64 1]
theorem agree_ok (ws : Nat) (a b : Able) (ha : a.Small) (hb : b.Small) (h : H) : callL cfg ws 5 [a.enc, b.enc] h = some (agreeV a b, h) := by
  refine callL_fn rfl rfl ?_
  have va := fun ws h => valid_ok ws a ha h
  have vb := fun ws h => valid_ok ws b hb h
  simp only [Able.enc] at va vb
  cases h1 : a.validB
  · simp [F5, c5, Able.enc, va, h1, agreeV]
  · cases h2 : b.validB
    · simp [F5, c5, Able.enc, va, vb, h1, h2, agreeV]
    · obtain ⟨c0, cs, hc⟩ := Able.valid_cons h1
      obtain ⟨d0, ds, hd⟩ := Able.valid_cons h2
      obtain ⟨av, ac, ae, an⟩ := a
      obtain ⟨bv, bc, be, bn⟩ := b
      dsimp only at hc hd
      subst hc hd
      have ht := fun h' => terms_ok h.length bv be bn av c0 ae d0 ds h' hb.ctx hb.els ha.els
      have hcn := fun h' s => contains_ok h.length (c0 :: cs) s h' ha.ctx
      simp [Able.enc, termsC] at ht hcn va vb
      simp [F5, c5, Able.enc, va, vb, h1, h2, agreeV, ht, termsOf, termsC, hcn, ctxOf]
theorem ragree_ok (ws : Nat) (a b : Able) (ha : a.Small) (hb : b.Small) (h : H) : callL cfg ws 6 [a.enc, b.enc] h = some (agreeV a b, h) := by
  refine callL_fn rfl rfl ?_
  have va := fun ws h => rvalid_ok ws a ha h
  have vb := fun ws h => rvalid_ok ws b hb h
  simp only [Able.enc] at va vb
  cases h1 : a.validB
  · simp [F6, c6, Able.enc, va, h1, agreeV]
  · cases h2 : b.validB
    · simp [F6, c6, Able.enc, va, vb, h1, h2, agreeV]
    · obtain ⟨c0, cs, hc⟩ := Able.valid_cons h1
      obtain ⟨d0, ds, hd⟩ := Able.valid_cons h2
      obtain ⟨av, ac, ae, an⟩ := a
      obtain ⟨bv, bc, be, bn⟩ := b
      dsimp only at hc hd
      subst hc hd
      have ht := fun h' => rterms_ok h.length bv be bn av c0 ae d0 ds h' hb.ctx hb.els ha.els
      have hcn := fun h' s => has_ok h.length (c0 :: cs) s h' ha.ctx
      simp [Able.enc, termsC] at ht hcn va vb
      simp [F6, c6, Able.enc, va, vb, h1, h2, agreeV, ht, termsOf, termsC, hcn, ctxOf]
theorem to_ok (ws : Nat) (a : Able) (ha : a.Small) (h : H) : callL cfg ws 7 [a.enc] h = some (a.enc, h) := by
  refine callL_fn rfl rfl ?_
  obtain ⟨h1, h2⟩ := ha
  have h1' : a.ctx.length ≤ 4294967296 := by omega
  have h2' : a.els.length ≤ 4294967296 := by omega
  simp [F7, c7, Able.enc, bslP, appended, appI, h1', h2']
theorem strings_ok (ws : Nat) (a b : List ByteArray) (h : H) (hl : a.length ≤ 1048576) : callL cfg ws 24 [.isl (a.map .str), .isl (b.map .str)] h = some (.bool (decide (a.map (·.toList) = b.map (·.toList))), h) := by
  refine callL_fn rfl rfl ?_
  by_cases hn : a.length = b.length
  · have := loop_list (f := evC (callL cfg) roundsL cfg.pol h.length h.length c24L0) (keep := [0, 1, 5]) a (fun i => [(0, .isl (a.map .str)), (1, .isl (b.map .str)), (5, .int .i64 i)]) (fun _ => h)
      (fun i r => if r.map (·.toList) = (b.map (·.toList)).drop i then (.exit 0, [(0, .isl (a.map .str)), (1, .isl (b.map .str)), (5, .int .i64 a.length)], h) else (.ret, [(4, .bool false)], h)) ?_ ?_
    · by_cases he : a.map (·.toList) = b.map (·.toList) <;> simp [he] at this <;> simp [F24, c24, this, hn, he]
    · intro i x r hd hi hx K hK
      have hw := wrap_nat (n := i + 1) (by omega)
      simp at hw
      have hib : i < b.length := by omega
      have hdb : (b.map (·.toList)).drop i = b[i].toList :: (b.map (·.toList)).drop (i + 1) := by rw [List.drop_eq_getElem_cons (by simpa using hib)]; simp
      rw [hdb]
      by_cases hv : x.toList = b[i].toList
      · simp [hv] at hK ⊢
        simp [c24L0, hi, hib, hx, hv, hw, hK]
      · simp [hv]
        simp [c24L0, hi, hib, hx, hv]
    · intro K
      simp [c24L0, hn]
  · have he : ¬ a.map (·.toList) = b.map (·.toList) := fun e => hn (by simpa using congrArg List.length e)
    have hn' : ((a.length : Int) != b.length) = true := by simp; omega
    have hn2 : ¬ (a.length : Int) = b.length := by omega
    simp [F24, c24, hn2, he]
theorem same_ok (ws : Nat) (v : Int) (c : ByteArray) (l : List ByteArray) (h : H) (hl : l.length ≤ 1048576) : callL cfg ws 8 [.agg [.int .i64 v, .str c, .isl (l.map .str)], .agg [.int .i64 v, .str c, .isl (l.map .str)]] h = some (.bool true, h) := by
  refine callL_fn rfl rfl ?_
  simp [F8, c8, strings_ok, hl]
theorem copy_ok (ws : Nat) (v : Int) (c : ByteArray) (l : List ByteArray) (h : H) (hl : l.length ≤ 1048576) : callL cfg ws 9 [.agg [.int .i64 v, .str c, .isl (l.map .str)]] h = some (.agg [.int .i64 v, .str c, .isl (l.map .str)], h) := by
  refine callL_fn rfl rfl ?_
  have h1' : l.length ≤ 4294967296 := by omega
  simp [F9, c9, bslP, appended, appI, h1']
set_option maxRecDepth 100000 in
theorem sane4 (ws : Nat) (A B C D : ABlock) : callN cfg 40 ws 10 [] [A, B, C, D] = some (.bool true, [A, B, C, D]) := by kernel_rfl
theorem sane_ok (ws : Nat) (A B C D : ABlock) : callL cfg ws 10 [] [A, B, C, D] = some (.bool true, [A, B, C, D]) := callN_L 40 _ _ _ _ _ (sane4 ws A B C D)
theorem law_ok (a b : Able) (ha : a.Small) (hb : b.Small) : callL cfg 0 3 [a.enc, b.enc] [] = some (.bool true, []) := by
  refine callL_fn rfl rfl ?_
  have h1 := fun h => agree_ok 0 a b ha hb h
  have h2 := fun h => ragree_ok 0 a b ha hb h
  have h3 := fun h => to_ok 0 a ha h
  have h4 := fun h => to_ok 0 b hb h
  have h5 := fun v c h => copy_ok 0 v c (a.els.filter (hasB b.els)) h (Nat.le_trans (List.length_filter_le _ _) ha.els)
  have h6 := fun v c h => same_ok 0 v c (a.els.filter (hasB b.els)) h (Nat.le_trans (List.length_filter_le _ _) ha.els)
  have h7 := fun v c h => copy_ok 0 v c [] h (by simp)
  have h8 := fun v c h => same_ok 0 v c [] h (by simp)
  simp at h7 h8
  cases hv : (a.validB && b.validB)
  · simp [agreeV, hv, Able.enc] at h1 h2 h3 h4
    simp [F3, c3, Able.enc, h1, h2, h3, h4, h7, h8, sane_ok]
  · simp [agreeV, hv, Able.enc, termsOf, termsC] at h1 h2 h3 h4
    simp [F3, c3, Able.enc, h1, h2, h3, h4, h5, h6, sane_ok]
end Go.Proofs.Ytdefghfdccmebaa
