/- TypesWider: for every input whose reading holds at most so many values and letters, the law answers true, and what it was given reads as it read before. The conditions are the bound and the two tables of package utf8, which the card ties to the program's text. -/
import Derived.Test.YtpjajogdoccdhaaGreatDoorM52
import Derived.Test.YtpjajogdoccdhaaGreatDoorCards
import Derived.Test.YtpjajogdoccdhaaGreatDoorTie
import Derived.Test.YtpjajogdoccdhaaGreatDoorM35
set_option linter.all false
namespace Go.Proofs.YtpjajogdoccdhaaGreatDoor
open Go Go.Avm
theorem wider_2a (m : Md) {nm : ByteArray} {lo hi : Int} {its : List It} {ks : List Ty} (v : Val) {ex : Bool} (e0 : (∀ ws h, callL cfg ws 8 [m.enc, (Ty.mk 2 nm lo hi false false its ks).enc, v.enc] h = some (.tup [.bool false, .int .i64 0], h))) : callL cfg 0 4 [m.enc, (Ty.mk 2 nm lo hi false ex its ks).enc, v.enc] [] = some (.bool true, []) := by
  simp [Md.enc] at e0
  refine callL_fn rfl rfl ?_
  simp [F4, c4, Md.enc, e0, sane3_ok]
theorem wider_2b (m : Md) {nm : ByteArray} {lo hi : Int} {its : List It} {ks : List Ty} (v : Val) {ex : Bool} (e0 : (∀ ws h, callL cfg ws 8 [m.enc, (Ty.mk 2 nm lo hi false false its ks).enc, v.enc] h = some (.tup [.bool true, .int .i64 0], h))) (e1 : (∀ ws h, callL cfg ws 8 [m.enc, (Ty.mk 2 nm lo hi false true its ks).enc, v.enc] h = some (.tup [.bool true, .int .i64 0], h))) (e2 : (∀ ws h, callL cfg ws 8 [m.enc, (Ty.mk 2 nm 0 0 true false its ks).enc, v.enc] h = some (.tup [.bool true, .int .i64 0], h))) : callL cfg 0 4 [m.enc, (Ty.mk 2 nm lo hi false ex its ks).enc, v.enc] [] = some (.bool true, []) := by
  simp [Md.enc] at e0 e1 e2
  refine callL_fn rfl rfl ?_
  simp [F4, c4, Md.enc, e0, e1, e2, sane3_ok]
theorem wider_2c (m : Md) {nm : ByteArray} {lo hi : Int} {its : List It} {ks : List Ty} (v : Val) {ex : Bool} {E : Int} {A : Bool} (e0 : (∀ ws h, callL cfg ws 8 [m.enc, (Ty.mk 2 nm lo hi false false its ks).enc, v.enc] h = some (.tup [.bool A, .int .i64 E], h))) (q1 : ¬ E = 0) : callL cfg 0 4 [m.enc, (Ty.mk 2 nm lo hi false ex its ks).enc, v.enc] [] = some (.bool true, []) := by
  simp [Md.enc] at e0
  refine callL_fn rfl rfl ?_
  simp [F4, c4, Md.enc, e0, q1, sane3_ok]
theorem wider_2d (m : Md) {nm : ByteArray} {lo hi : Int} {its : List It} {ks : List Ty} (v : Val) {ex : Bool} : callL cfg 0 4 [m.enc, (Ty.mk 2 nm lo hi true ex its ks).enc, v.enc] [] = some (.bool true, []) := by
  refine callL_fn rfl rfl ?_
  simp [F4, c4, Md.enc, sane3_ok]
theorem wider_4a (m : Md) {nm : ByteArray} {lo hi : Int} {its : List It} {ks : List Ty} (v : Val) {ex : Bool} (e0 : (∀ ws h, callL cfg ws 8 [m.enc, (Ty.mk 4 nm lo hi false false its ks).enc, v.enc] h = some (.tup [.bool false, .int .i64 0], h))) : callL cfg 0 4 [m.enc, (Ty.mk 4 nm lo hi false ex its ks).enc, v.enc] [] = some (.bool true, []) := by
  simp [Md.enc] at e0
  refine callL_fn rfl rfl ?_
  simp [F4, c4, Md.enc, e0, sane3_ok]
theorem wider_4b (m : Md) {nm : ByteArray} {lo hi : Int} {its : List It} {ks : List Ty} (v : Val) {ex : Bool} (e0 : (∀ ws h, callL cfg ws 8 [m.enc, (Ty.mk 4 nm lo hi false false its ks).enc, v.enc] h = some (.tup [.bool true, .int .i64 0], h))) (e1 : (∀ ws h, callL cfg ws 8 [m.enc, (Ty.mk 4 nm lo hi false true its ks).enc, v.enc] h = some (.tup [.bool true, .int .i64 0], h))) (e2 : (∀ ws h, callL cfg ws 8 [m.enc, (Ty.mk 4 nm 0 0 true false its ks).enc, v.enc] h = some (.tup [.bool true, .int .i64 0], h))) : callL cfg 0 4 [m.enc, (Ty.mk 4 nm lo hi false ex its ks).enc, v.enc] [] = some (.bool true, []) := by
  simp [Md.enc] at e0 e1 e2
  refine callL_fn rfl rfl ?_
  simp [F4, c4, Md.enc, e0, e1, e2, sane3_ok]
theorem wider_4c (m : Md) {nm : ByteArray} {lo hi : Int} {its : List It} {ks : List Ty} (v : Val) {ex : Bool} {E : Int} {A : Bool} (e0 : (∀ ws h, callL cfg ws 8 [m.enc, (Ty.mk 4 nm lo hi false false its ks).enc, v.enc] h = some (.tup [.bool A, .int .i64 E], h))) (q1 : ¬ E = 0) : callL cfg 0 4 [m.enc, (Ty.mk 4 nm lo hi false ex its ks).enc, v.enc] [] = some (.bool true, []) := by
  simp [Md.enc] at e0
  refine callL_fn rfl rfl ?_
  simp [F4, c4, Md.enc, e0, q1, sane3_ok]
theorem wider_4d (m : Md) {nm : ByteArray} {lo hi : Int} {its : List It} {ks : List Ty} (v : Val) {ex : Bool} : callL cfg 0 4 [m.enc, (Ty.mk 4 nm lo hi true ex its ks).enc, v.enc] [] = some (.bool true, []) := by
  refine callL_fn rfl rfl ?_
  simp [F4, c4, Md.enc, sane3_ok]
theorem wider_5a (m : Md) {nm : ByteArray} {lo hi : Int} {its : List It} {ks : List Ty} (v : Val) {ex : Bool} (e0 : (∀ ws h, callL cfg ws 8 [m.enc, (Ty.mk 5 nm lo hi false false its ks).enc, v.enc] h = some (.tup [.bool false, .int .i64 0], h))) : callL cfg 0 4 [m.enc, (Ty.mk 5 nm lo hi false ex its ks).enc, v.enc] [] = some (.bool true, []) := by
  simp [Md.enc] at e0
  refine callL_fn rfl rfl ?_
  simp [F4, c4, Md.enc, e0, sane3_ok]
theorem wider_5b (m : Md) {nm : ByteArray} {lo hi : Int} {its : List It} {ks : List Ty} (v : Val) {ex : Bool} (e0 : (∀ ws h, callL cfg ws 8 [m.enc, (Ty.mk 5 nm lo hi false false its ks).enc, v.enc] h = some (.tup [.bool true, .int .i64 0], h))) (e1 : (∀ ws h, callL cfg ws 8 [m.enc, (Ty.mk 5 nm lo hi false true its ks).enc, v.enc] h = some (.tup [.bool true, .int .i64 0], h))) (e2 : (∀ ws h, callL cfg ws 8 [m.enc, (Ty.mk 5 nm 0 0 true false its ks).enc, v.enc] h = some (.tup [.bool true, .int .i64 0], h))) : callL cfg 0 4 [m.enc, (Ty.mk 5 nm lo hi false ex its ks).enc, v.enc] [] = some (.bool true, []) := by
  simp [Md.enc] at e0 e1 e2
  refine callL_fn rfl rfl ?_
  simp [F4, c4, Md.enc, e0, e1, e2, sane3_ok]
theorem wider_5c (m : Md) {nm : ByteArray} {lo hi : Int} {its : List It} {ks : List Ty} (v : Val) {ex : Bool} {E : Int} {A : Bool} (e0 : (∀ ws h, callL cfg ws 8 [m.enc, (Ty.mk 5 nm lo hi false false its ks).enc, v.enc] h = some (.tup [.bool A, .int .i64 E], h))) (q1 : ¬ E = 0) : callL cfg 0 4 [m.enc, (Ty.mk 5 nm lo hi false ex its ks).enc, v.enc] [] = some (.bool true, []) := by
  simp [Md.enc] at e0
  refine callL_fn rfl rfl ?_
  simp [F4, c4, Md.enc, e0, q1, sane3_ok]
theorem wider_5d (m : Md) {nm : ByteArray} {lo hi : Int} {its : List It} {ks : List Ty} (v : Val) {ex : Bool} : callL cfg 0 4 [m.enc, (Ty.mk 5 nm lo hi true ex its ks).enc, v.enc] [] = some (.bool true, []) := by
  refine callL_fn rfl rfl ?_
  simp [F4, c4, Md.enc, sane3_ok]
theorem wider_7a (m : Md) {nm : ByteArray} {lo hi : Int} {its : List It} {ks : List Ty} (v : Val) {ex : Bool} (e0 : (∀ ws h, callL cfg ws 8 [m.enc, (Ty.mk 7 nm lo hi false false its ks).enc, v.enc] h = some (.tup [.bool false, .int .i64 0], h))) : callL cfg 0 4 [m.enc, (Ty.mk 7 nm lo hi false ex its ks).enc, v.enc] [] = some (.bool true, []) := by
  simp [Md.enc] at e0
  refine callL_fn rfl rfl ?_
  simp [F4, c4, Md.enc, e0, sane3_ok]
theorem wider_7b (m : Md) {nm : ByteArray} {lo hi : Int} {its : List It} {ks : List Ty} (v : Val) {ex : Bool} (e0 : (∀ ws h, callL cfg ws 8 [m.enc, (Ty.mk 7 nm lo hi false false its ks).enc, v.enc] h = some (.tup [.bool true, .int .i64 0], h))) (e1 : (∀ ws h, callL cfg ws 8 [m.enc, (Ty.mk 7 nm lo hi false true its ks).enc, v.enc] h = some (.tup [.bool true, .int .i64 0], h))) (e2 : (∀ ws h, callL cfg ws 8 [m.enc, (Ty.mk 7 nm 0 0 true false its ks).enc, v.enc] h = some (.tup [.bool true, .int .i64 0], h))) : callL cfg 0 4 [m.enc, (Ty.mk 7 nm lo hi false ex its ks).enc, v.enc] [] = some (.bool true, []) := by
  simp [Md.enc] at e0 e1 e2
  refine callL_fn rfl rfl ?_
  simp [F4, c4, Md.enc, e0, e1, e2, sane3_ok]
theorem wider_7c (m : Md) {nm : ByteArray} {lo hi : Int} {its : List It} {ks : List Ty} (v : Val) {ex : Bool} {E : Int} {A : Bool} (e0 : (∀ ws h, callL cfg ws 8 [m.enc, (Ty.mk 7 nm lo hi false false its ks).enc, v.enc] h = some (.tup [.bool A, .int .i64 E], h))) (q1 : ¬ E = 0) : callL cfg 0 4 [m.enc, (Ty.mk 7 nm lo hi false ex its ks).enc, v.enc] [] = some (.bool true, []) := by
  simp [Md.enc] at e0
  refine callL_fn rfl rfl ?_
  simp [F4, c4, Md.enc, e0, q1, sane3_ok]
theorem wider_7d (m : Md) {nm : ByteArray} {lo hi : Int} {its : List It} {ks : List Ty} (v : Val) {ex : Bool} : callL cfg 0 4 [m.enc, (Ty.mk 7 nm lo hi true ex its ks).enc, v.enc] [] = some (.bool true, []) := by
  refine callL_fn rfl rfl ?_
  simp [F4, c4, Md.enc, sane3_ok]
theorem wider_else (m : Md) {nm : ByteArray} {lo hi : Int} {its : List It} {ks : List Ty} (v : Val) {k : Int} {fr ex : Bool} (n2 : ¬ k = 2) (n4 : ¬ k = 4) (n5 : ¬ k = 5) (n7 : ¬ k = 7) : callL cfg 0 4 [m.enc, (Ty.mk k nm lo hi fr ex its ks).enc, v.enc] [] = some (.bool true, []) := by
  refine callL_fn rfl rfl ?_
  simp [F4, c4, Md.enc, n2, n4, n5, n7, sane3_ok]
theorem typesWider_ok (m : Md) (hm : m.ok) (t : Ty) (hs : t.size ≤ 1048576) (v : Val) (hv : v.size ≤ 1048576) : callL cfg 0 4 [m.enc, t.enc, v.enc] [] = some (.bool true, []) := by
  obtain ⟨k, nm, lo, hi, fr, ex, its, ks⟩ := t
  have hs' : ∀ (a b : Int) (f e : Bool), (Ty.mk k nm a b f e its ks).size ≤ 1048576 := fun a b f e => by rw [Ty.size_eq] at hs ⊢; exact hs
  have e0 := fun ws h => pfits_ok m hm (.mk k nm lo hi false false its ks) (hs' _ _ _ _) v hv ws h
  have e1 := fun ws h => pfits_ok m hm (.mk k nm lo hi false true its ks) (hs' _ _ _ _) v hv ws h
  have e2 := fun ws h => pfits_ok m hm (.mk k nm 0 0 true false its ks) (hs' _ _ _ _) v hv ws h
  by_cases hk : k = 2 ∨ k = 4 ∨ k = 5 ∨ k = 7
  · cases fr
    · by_cases q1 : errC m (.mk k nm lo hi false false its ks) = 0
      · cases q2 : ansF m (.mk k nm lo hi false false its ks) v
        · rw [q1, q2] at e0
          rcases hk with rfl | rfl | rfl | rfl
          · exact wider_2a m v e0
          · exact wider_4a m v e0
          · exact wider_5a m v e0
          · exact wider_7a m v e0
        · obtain ⟨⟨a1, a2⟩, a3, a4⟩ := wide m hk v q1 q2
          rw [q1, q2] at e0
          rw [a1, a2] at e1
          rw [a3, a4] at e2
          rcases hk with rfl | rfl | rfl | rfl
          · exact wider_2b m v e0 e1 e2
          · exact wider_4b m v e0 e1 e2
          · exact wider_5b m v e0 e1 e2
          · exact wider_7b m v e0 e1 e2
      · rcases hk with rfl | rfl | rfl | rfl
        · exact wider_2c m v e0 q1
        · exact wider_4c m v e0 q1
        · exact wider_5c m v e0 q1
        · exact wider_7c m v e0 q1
    · rcases hk with rfl | rfl | rfl | rfl
      · exact wider_2d m v
      · exact wider_4d m v
      · exact wider_5d m v
      · exact wider_7d m v
  · exact wider_else m v (fun e => hk (.inl e)) (fun e => hk (.inr (.inl e))) (fun e => hk (.inr (.inr (.inl e)))) (fun e => hk (.inr (.inr (.inr e))))
end Go.Proofs.YtpjajogdoccdhaaGreatDoor
namespace Go.Proofs.YtpjajogdoccdhaaGreatDoor
open Go Go.Avm Go.RowKit Go.ChangeShapes Go.WideShapes Go.ChangeAt
theorem law_ev (xs : List AV) (h : argsTy Tryz.prog Tryz.f4.params.toList xs) (hn : bulkL xs ≤ 1048576) : ∃ h', callL cfg 0 4 xs [] = some (.bool true, h') := by
  have hagM : aggT Tryz.prog 24 = true := by simp [aggT, Tryz.underlying24]
  have hagT : aggT Tryz.prog 28 = true := by simp [aggT, Tryz.underlying28]
  have hagV : aggT Tryz.prog 31 = true := by simp [aggT, Tryz.underlying31]
  rw [Tryz.params4] at h
  obtain ⟨f1, l1, r1, rfl, t1, f2, l2, r2, rfl, t2, f3, l3, r3, rfl, t3, rfl⟩ := h
  rw [hagM, hagT, hagV] at hn ⊢
  simp only [bulkL, ofCells, if_true, AV.bulk] at hn ⊢
  obtain ⟨m, hm, sm⟩ := md_of t1 (by omega)
  obtain ⟨t, ht, st⟩ := ty_of _ _ _ (Nat.le_refl _) t2
  obtain ⟨v, hv, sv⟩ := val_of _ _ _ (Nat.le_refl _) t3
  simp only [AV.bulk] at sv
  rw [hm, hv, ht]
  exact ⟨[], typesWider_ok m sm t (by omega) v (by omega)⟩

set_option maxRecDepth 100000 in
theorem contract (H : Type) (enc : TypeId × Value → H) (W : World) (base : Nat) (args : Array Value) (ds gs : List (DataW H)) (before : List MemPlace)
    (hval : ∀ (j : Nat) t v, Tryz.f4.params[j]? = some t → args[j]? = some v → Value.okWide Tryz.prog W .any base t v)
    (hW : DataW.Whole enc Tryz.prog Tryz.f4.params.toList Rows.typesWiderSpec.vars false W args.toList ds gs before) (hk : Rows.uptoSmall H (ds ++ gs) = true) (hsh : W.ShapedOpen Tryz.prog) :
    Calls Tryz.prog 4 args W fun e W' => ∃ v, e = .returned v ∧ Rows.typesWiderSpec.post enc Tryz.prog Tryz.f4 false true false false W args v W' := by
  have hW' := hW
  obtain ⟨m, hm⟩ := Tryz.layCo.s1_3 W hsh
  obtain ⟨p, q, hA, hV, hps, hfz, hnd⟩ := hW
  obtain ⟨rfl, rfl⟩ := trodVars_none hV
  have hds : ∃ d0 d1 d2, ds = [d0, d1, d2] := by
    have h := hA
    rw [Tryz.params4] at h
    obtain ⟨_, _, d0, _, _, _, _, rfl, _, _, r0⟩ := trodAll_cons h
    obtain ⟨_, _, d1, _, _, _, _, rfl, _, _, r1⟩ := trodAll_cons r0
    obtain ⟨_, _, d2, _, _, _, _, rfl, _, _, r2⟩ := trodAll_cons r1
    obtain ⟨_, rfl, _⟩ := trodAll_nil r2
    exact ⟨d0, d1, d2, rfl⟩
  obtain ⟨d0, d1, d2, rfl⟩ := hds
  obtain ⟨N, hN, hb⟩ : ∃ N, N = 1048576 ∧ Rows.uptoBulkAll [d0, d1, d2] ≤ N := ⟨_, rfl, of_decide_eq_true hk⟩
  refine (law_calls (cfg_ok hm) Tryz.func4 (by decide +kernel) rfl (bulkOk H) (n := N) (fun xs h1 h2 => law_ev xs h1 (hN ▸ h2)) hval hA hb).mono fun e W' ⟨he, hbl⟩ => ?_
  exact ⟨_, he, law_post hW' rfl rfl rfl Tryz.underlying4 (by kernel_rfl) (by kernel_rfl) hbl⟩
theorem laid_met (os : Os) : laidMet Tryz.prog Rows.typesWiderUptoRow.laid ((laidWorld os).forCall (fun _ _ => 0) ⟨#[], #[.agg #[.string ⟨#[]⟩, .slice none 0 0], .agg #[.int .i64 0, .string ⟨#[]⟩, .int .i64 0, .int .i64 0, .bool false, .bool false, .slice none 0 0, .slice none 0 0], .agg #[.int .i64 0, .int .i64 0, .string ⟨#[]⟩, .slice none 0 0]], []⟩).memory :=
  laidMet_of_run' 8 (by kernel_rfl) (by kernel_rfl)
theorem reads (os : Os) {H : Type} (enc : TypeId × Value → H) : ∃ places, DataW.whole enc Tryz.prog ((laidWorld os).forCall (fun _ _ => 0) ⟨#[], #[.agg #[.string ⟨#[]⟩, .slice none 0 0], .agg #[.int .i64 0, .string ⟨#[]⟩, .int .i64 0, .int .i64 0, .bool false, .bool false, .slice none 0 0, .slice none 0 0], .agg #[.int .i64 0, .int .i64 0, .string ⟨#[]⟩, .slice none 0 0]], []⟩).memory Tryz.f4.params.toList Rows.typesWiderSpec.vars false (#[.agg #[.string ⟨#[]⟩, .slice none 0 0], .agg #[.int .i64 0, .string ⟨#[]⟩, .int .i64 0, .int .i64 0, .bool false, .bool false, .slice none 0 0, .slice none 0 0], .agg #[.int .i64 0, .int .i64 0, .string ⟨#[]⟩, .slice none 0 0]] : Array Value).toList 8 = some ([.agg [.lit (.string []), .nil], .agg [.lit (.int .i64 0), .lit (.string []), .lit (.int .i64 0), .lit (.int .i64 0), .lit (.bool false), .lit (.bool false), .nil, .nil], .agg [.lit (.int .i64 0), .lit (.int .i64 0), .lit (.string []), .nil]], [], places) :=
  ⟨[], by kernel_rfl⟩
set_option maxRecDepth 100000 in
theorem liftedUpto (os : Os) (started : os.Started) (H : Type) (enc : TypeId × Value → H) (F : Stop.Interp) :
    ReturnsInHanded {} Tryz.checked os 4 .any ((Rows.OpenSpec.upto Rows.typesWiderSpec).preRow enc Tryz.prog Tryz.f4 Rows.typesWiderUptoRow.domain false Rows.typesWiderUptoRow.laid) (((Rows.OpenSpec.upto Rows.typesWiderSpec).at F).post enc Tryz.prog Tryz.f4 false true false false) := by
  obtain ⟨places, hx⟩ := reads os enc
  refine returnsInHanded_of_row (C := Tryz.checked) (s := Rows.OpenSpec.upto Rows.typesWiderSpec) own started (by kernel_rfl) Tryz.func4
    (witness_row_at (enc := enc) (C := Tryz.checked) false (laidWorld os) #[.agg #[.string ⟨#[]⟩, .slice none 0 0], .agg #[.int .i64 0, .string ⟨#[]⟩, .int .i64 0, .int .i64 0, .bool false, .bool false, .slice none 0 0, .slice none 0 0], .agg #[.int .i64 0, .int .i64 0, .string ⟨#[]⟩, .slice none 0 0]] rfl (by kernel_rfl) (by kernel_rfl) (by kernel_rfl)
      (OpenSpec.preRow_of_cond 8 hx (by kernel_rfl) (fun k hk => by cases hk; kernel_rfl) (by kernel_rfl) (laid_met os))) ?_
  intro W base args ds gs before hval hW _ hcond _ _ hsh _
  exact contract H enc W base args ds gs before hval hW (hcond _ rfl) hsh
theorem saidUpto : Rows.TypesWiderUptoSaid :=
  OpenClaim.holds_of_cond 4 Tryz.f4 rfl rfl rfl rfl rfl rfl rfl ⟨rfl, rfl, rfl, rfl, rfl⟩ rfl rfl rfl rfl rfl (by kernel_rfl) Tryz.func4 (by kernel_rfl)
    (of_decide_eq_true (by kernel_rfl)) (by unfold Func.isWrapper; first | (rw [if_pos (by decide +kernel)]; kernel_rfl) | (rw [if_neg (by decide +kernel)]; exact ⟨rfl, rfl⟩))
    (fun os started H enc _ F => by rw [OpenClaim.pre_eq_preRow]; exact liftedUpto os started H enc F)
theorem plain (f : FuncId) (fn : Func) (hf : Tryz.pinned.checked.prog.funcNamed "heptad/heptadlaw02.TypesWider" = some f) (hfn : Tryz.pinned.checked.prog.funcs[f]? = some fn) :
    false = Tryz.pinned.checked.prog.looks [] ∧ ∀ (j : Nat) t, fn.params[j]? = some t → Tryz.pinned.checked.prog.wantsStandIn t = false := by
  obtain rfl : f = 4 := Option.some.inj ((show Tryz.prog.funcNamed "heptad/heptadlaw02.TypesWider" = some 4 by kernel_rfl).symm.trans hf) |>.symm
  obtain rfl : fn = Tryz.f4 := (Option.some.inj (Tryz.func4.symm.trans hfn)).symm
  refine ⟨by kernel_rfl, fun j t ht => ?_⟩
  rw [Tryz.params4] at ht
  have hall : ∀ t ∈ (#[24, 28, 31] : Array TypeId), Tryz.prog.wantsStandIn t = false := by decide +kernel
  exact hall t (Array.mem_of_getElem? ht)
/-- The card. -/
theorem typesWider_holds : Rows.TypesWiderUptoCardSaid :=
  Claim7.holds_tied_plain_at .later [] _ _ _ _ saidUpto (fun _ h => by cases h) (by kernel_rfl) (fun _ h => by cases h) typesWiderUpto_row_tie rfl ⟨rfl, rfl⟩ (by kernel_rfl) rfl plain (by kernel_rfl)
end Go.Proofs.YtpjajogdoccdhaaGreatDoor
