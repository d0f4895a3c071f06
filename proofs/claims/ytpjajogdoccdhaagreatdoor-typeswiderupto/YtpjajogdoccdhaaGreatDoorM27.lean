/-
  DERIVED: THE SHELF's CONTRACTS AT THIS DUMP, IN PLAIN WORDS (tools/lay-plain.mjs out of 'YtpjajogdoccdhaaGreatDoorShelf.lean', which tools/lay-shelf.mjs wrote): THE SAME DECLARATIONS UNDER THE SAME NAMES: 'import', 'namespace', 'open', 'def', 'theorem' AND NOTHING ELSE: no command of the shelf's: FOR A HAND-IN. Each laying: the table of numbers ('.._ren') and one theorem, a field a fact of the dump's own or the kernel's comparison; each contract: ONE APPLICATION.
-/
import Derived.Test.YtpjajogdoccdhaaGreatDoorM26
import Derived.Carry
import Derived.Test.YtpjajogdoccdhaaGreatDoorM24
import Derived.Test.YtpjajogdoccdhaaGreatDoorProg
import Derived.Test.YtpjajogdoccdhaaGreatDoorM25
import Derived.Lib.IndexMore
import Derived.Ground.GgzProg
import Derived.Ground.SlgmProg
import Derived.Ground.NamesProg
import Derived.Ground.SlgnProg
import Derived.Shelf.SlIter.Sorted
import Derived.Shelf.SortM.Plain
import Derived.Shelf.SortM.SortNone
import Derived.Shelf.Slices.In.CompactS
import Derived.Shelf.SlicesE.Clone
import Derived.Shelf.Strings.Shaped
set_option linter.all false
namespace Go.Avm
open Go.RowKit Go.ChangeShapes

/-- Arguments of such types. -/
def argsTy (P : Program) : List TypeId → List AV → Prop
  | [], xs => xs = []
  | t :: ts, xs => ∃ fuel l r, xs = ofCells (aggT P t) l :: r ∧ hasTy P fuel t l ∧ argsTy P ts r

section
variable {H : Type} {enc : TypeId × Value → H} {P : Program} {w : World} {base : Nat} {spare : Nat → Bool} {held : Bool} {V : View} {β : Beta}

theorem okWide_nonagg {t : TypeId} {v : Value} {b : Nat} (ha : aggT P t = false) (h : Value.okWide P w .any b t v) : v.cells = #[v] := by
  cases v with
  | agg cs =>
    exfalso
    unfold Value.okWide at h
    split at h
    · rename_i hu; simp [aggT, hu] at ha
    · rename_i hu; simp [aggT, hu] at ha
    · unfold Cell.okWide at h
      split at h <;> simp_all [Cell.ok]
  | _ => rfl

theorem read_args {B : DataW H → Nat} {BA : List (DataW H) → Nat} (K : BulkOk B BA) (hV : ∀ c o v, w.cell? ⟨c, o, none⟩ = some v → V.M c o = some v) {b0 : Nat} : ∀ (ts : List TypeId) (vs : List Value) (ds : List (DataW H)) (ps : List MemPlace),
    DataW.TrodAll enc P w base spare held ts vs ds ps → (∀ (j : Nat) (t : TypeId) (v : Value), ts[j]? = some t → vs[j]? = some v → Value.okWide P w .any b0 t v) →
    ∃ xs, argsTy P ts xs ∧ RelL V β xs vs ∧ bulkL xs ≤ BA ds
  | [], vs, ds, ps, h, _ => by
    obtain ⟨rfl, rfl, rfl⟩ := trodAll_nil h
    exact ⟨[], rfl, by unfold RelL; rfl, by simp [bulkL]⟩
  | t :: ts, vs, ds, ps, h, hok => by
    obtain ⟨v, vs', d, ds', p, q, rfl, rfl, rfl, ⟨fuel, h1⟩, h2⟩ := trodAll_cons h
    obtain ⟨xs, k1, k2, k3⟩ := read_args K hV ts vs' ds' q h2 fun j t v ht hv => hok (j + 1) t v (by simpa using ht) (by simpa using hv)
    obtain ⟨ys, m1, m2, m3, m4⟩ := read_of (β := β) K hV fuel t _ _ h1
    have h0 := hok 0 t v rfl rfl
    have hx : Rel V β (ofCells (aggT P t) ys) v ∧ (ofCells (aggT P t) ys).bulk ≤ bulkL ys + (if aggT P t then 1 else 0) := by
      cases hag : aggT P t with
      | true =>
        have hv : ∃ cs, v = .agg cs := by
          unfold Value.okWide at h0
          split at h0
          · obtain ⟨cs, e, _⟩ := h0; exact ⟨cs, e⟩
          · obtain ⟨cs, e, _⟩ := h0; exact ⟨cs, e⟩
          · exfalso
            unfold aggT at hag
            split at hag <;> simp_all
        obtain ⟨cs, rfl⟩ := hv
        refine ⟨?_, by simp [ofCells, AV.bulk]⟩
        simp only [ofCells, if_true]
        unfold Rel
        exact ⟨cs, rfl, m2⟩
      | false =>
        have hc := okWide_nonagg hag h0
        rw [hc] at m2
        match ys, m2, (RelL_iff.1 m2).1 with
        | [y], m2, _ =>
          unfold RelL at m2
          obtain ⟨u, r, e, hr, _⟩ := m2
          have : v = u := by simpa using congrArg List.head? e
          subst this
          exact ⟨by simpa [ofCells] using hr, by simp [ofCells, bulkL]⟩
    refine ⟨ofCells (aggT P t) ys :: xs, ⟨fuel, ys, xs, rfl, m1, k1⟩, ?_, ?_⟩
    · unfold RelL; exact ⟨v, vs', rfl, hx.1, k2⟩
    · simp only [bulkL, K.cons]; have := hx.2; dsimp only at m4; omega
end

theorem sim_start (w : World) : Sim w 0 (fun _ _ => none) [] w where
  below := Below.refl _ _
  dom := by intro _ _ _ h; cases h
  domv := by intro _ _ h; cases h
  inj := by intro _ _ _ _ _ _ _ h; cases h
  arr := by intro b v sz els c h; simp at h
  sit := by intro b s p c h; simp at h
  old := by intros; rfl
  oldd := by intros; rfl
theorem start_reads (w : World) (c o : Nat) (v : Value) (h : w.cell? ⟨c, o, none⟩ = some v) : (view 0 (fun _ _ => none) [] w).M c o = some v :=
  view_M_mk h (live_none (Nat.zero_le _) c)

/-- A call that reads trees alone. -/
theorem callL_calls {P : Program} {cfg : Cfg} {f : FuncId} {fn : Func} {k : Code} {dchk : Nat → DChk} (C : ∀ w0, CfgOk P w0 dchk cfg) (hf : P.funcs[f]? = some fn) (hname : fn.name ≠ "runtime.NumGoroutine") (hb : fn.body = some k)
    {xs : List AV} {r : AV} {h' : Avm.H} (ev : callL cfg 0 f xs [] = some (r, h')) {W : World} {vs : Array Value} (hr : RelL (view 0 (fun _ _ => none) [] W) (fun _ _ => none) xs vs.toList) :
    Calls P f vs W fun e W' => ∃ v V β, e = .returned v ∧ Below W.heap.size W W' ∧ Rel V β r v := by
  rcases callL_ok (C W) 0 f xs [] r h' 0 (fun _ _ => none) W vs ev (Nat.le_refl _) (Nat.le_refl _) (sim_start W) hr with ⟨_, hc⟩ | ⟨v, w', h4, _⟩
  · exact hc.mono fun e W' ⟨v, e1, β', S, _, hr⟩ => ⟨v, _, _, e1, S.below, hr⟩
  · rw [callFunc_run hf hname hb] at h4
    cases h4
/-- A LAW THAT ANSWERS true. -/
theorem law_calls {P : Program} {cfg : Cfg} {f : FuncId} {fn : Func} {k : Code} {dchk : Nat → DChk} {W : World} (C : CfgOk P W dchk cfg) (hf : P.funcs[f]? = some fn) (hname : fn.name ≠ "runtime.NumGoroutine") (hb : fn.body = some k)
    {H : Type} {enc : TypeId × Value → H} {B : DataW H → Nat} {BA : List (DataW H) → Nat} (K : BulkOk B BA) {n : Nat} (ev : ∀ xs, argsTy P fn.params.toList xs → bulkL xs ≤ n → ∃ h', callL cfg 0 f xs [] = some (.bool true, h'))
    {b0 : Nat} {args : Array Value} {ds : List (DataW H)} {ps : List MemPlace} {spare : Nat → Bool} {held : Bool} (hval : ∀ (j : Nat) (t : TypeId) (v : Value), fn.params[j]? = some t → args[j]? = some v → Value.okWide P W .any b0 t v)
    (hA : DataW.TrodAll enc P W 0 spare held fn.params.toList args.toList ds ps) (hn : BA ds ≤ n) :
    Calls P f args W fun e W' => e = .returned (.bool true) ∧ Below W.heap.size W W' := by
  obtain ⟨xs, h1, h2, h3⟩ := read_args (β := fun _ _ => none) K (start_reads W) fn.params.toList args.toList ds ps hA fun j t v ht hv => hval j t v (by simpa using ht) (by simpa using hv)
  obtain ⟨h', he⟩ := ev xs h1 (Nat.le_trans h3 hn)
  have hi := callL_ok C 0 f xs [] (.bool true) h' 0 (fun _ _ => none) W args he (Nat.le_refl _) (Nat.le_refl _) (sim_start W) h2
  rcases hi with ⟨_, hc⟩ | ⟨v, w', h4, _⟩
  · refine hc.mono fun e W' ⟨v, e1, β', S, _, hr⟩ => ?_
    unfold Rel at hr
    subst hr
    exact ⟨e1, S.below⟩
  · rw [callFunc_run hf hname hb] at h4
    cases h4
/-- Each argument reads behind the call as it read before. -/
theorem stays {H : Type} {enc : TypeId × Value → H} {P : Program} (hl : laidOutB P = true) {W W' : World} (hb : Below W.heap.size W W') {sp : Nat → Bool} : ∀ {ts : List TypeId} {vs : List Value} {ds : List (DataW H)} {ps : List MemPlace}, ts.all (fun t => P.readableRec t && decide (t < P.types.size)) = true →
    DataW.TrodAll enc P W 0 (fun _ => true) true ts vs ds ps → (∀ x ∈ ps, x.block < W.heap.size) → (∀ x ∈ ps, sp x.block = true) → DataW.TrodAll enc P W' 0 sp true ts vs ds ps
  | [], _, _, _, _, h, _, _ => by
    obtain ⟨rfl, rfl, rfl⟩ := trodAll_nil h
    simp [DataW.TrodAll]
  | t :: ts, _, _, _, ht, h, hlt, hs => by
    obtain ⟨v, vs', d, ds', p, q, rfl, rfl, rfl, h1, h2⟩ := trodAll_cons h
    simp only [List.all_cons, Bool.and_eq_true, decide_eq_true_eq] at ht
    exact ⟨p, q, WideElems.Trod_stays hl ht.1.1 ht.1.2 h1 (fun x hx => hb.same (hlt x (by simp [hx]))) (fun x hx => hs x (by simp [hx])), stays hl hb ht.2 h2 (fun x hx => hlt x (by simp [hx])) (fun x hx => hs x (by simp [hx])), rfl⟩
theorem law_post {H : Type} {enc : TypeId × Value → H} {P : Program} {f : Func} {s : ChangeSpec} {apart fresh handsOn again : Bool} {W W' : World} {args : Array Value} {ds gs : List (DataW H)} {before : List MemPlace} {tb : TypeId}
    (hW : DataW.Whole enc P f.params.toList s.vars apart W args.toList ds gs before) (hv0 : s.vars = []) (hfn : s.fn H (ds ++ gs) = { results := [.lit (.bool true)], args := ds }) (hrt : f.resultTypes = #[tb]) (htb : P.underlying tb = some .bool)
    (hl : laidOutB P = true) (hts : f.params.toList.all (fun t => P.readableRec t && decide (t < P.types.size)) = true) (hb : Below W.heap.size W W') : s.post enc P f apart fresh handsOn again W args (.bool true) W' := by
  have hW2 := hW
  obtain ⟨pa, q, hA, hV, hps, hz, hn⟩ := hW
  rw [hv0] at hV
  obtain ⟨rfl, rfl⟩ := trodVars_none hV
  have hpa : before = pa := by simpa using hps
  subst hpa
  have hlt : ∀ x ∈ before, x.block < W.heap.size := fun x hx => hW2.lt x hx
  have hargs : ∀ sp : Nat → Bool, (∀ p ∈ before, sp p.block = true) → DataW.TrodAll enc P W' 0 sp true f.params.toList args.toList (s.fn H (ds ++ [])).args before := fun sp hs => by
    rw [hfn]; exact stays hl hb hts hA hlt hs
  have hres : ∀ (b : Nat) (sp : Nat → Bool) (hd : Bool), DataW.TrodAll enc P W' b sp hd f.resultTypes.toList ((Value.bool true).resultList f.resultTypes.size) (s.fn H (ds ++ [])).results [] := fun b sp hd => by
    rw [hfn, hrt]; exact trodAll_mk1 (shut_bool htb true)
  have hvars : ∀ sp : Nat → Bool, DataW.TrodVars enc P W' sp s.vars (s.fn H (ds ++ [])).vars [] := fun sp => by rw [hfn, hv0]; rfl
  have hold : ∀ p ∈ before, (fun b => decide (b < W.heap.size)) p.block = true := fun p hp => by simpa using hlt p hp
  refine ⟨ds, [], before, [], before, [], hW2, hres _ _ _, hargs _ hold, hvars _, World.keptBut_mono (fun p hp => ⟨hp, ?_⟩) (hb.frame (· ∈ before)), fun _ => ?_⟩
  · simpa using hp
  · refine ⟨ok_one hrt rfl (okWide_bool_mk htb _), _, _, ([] ++ before) ++ [], ⟨[] ++ before, [], trodAll_append (hargs _ (fun _ _ => rfl)) (hres _ _ _), hvars _, rfl, ?_, ?_⟩, ?_⟩
    · intro b off hp
      have hp : MemPlace.cell b off ∈ before := by simpa using hp
      have h1 := hlt _ hp
      exact (hb.frozen (p := ⟨b, off, none⟩) h1).trans (hz b off (by simpa using hp))
    · intro ha
      simpa using hn ha
    · intro p hp _
      simpa using hp

section
variable {P : Program}
theorem hasTy_int {f : Nat} {t : TypeId} {k : IntKind} {xs : List AV} (hu : P.underlying t = some (.int k)) (h : hasTy P f t xs) : ∃ n, xs = [.int k n] ∧ (Lit.int k n).wf = true := by
  cases f with
  | zero => cases h
  | succ f => simpa only [hasTy, hu] using h
theorem hasTy_bool {f : Nat} {t : TypeId} {xs : List AV} (hu : P.underlying t = some .bool) (h : hasTy P f t xs) : ∃ b, xs = [.bool b] := by
  cases f with
  | zero => cases h
  | succ f => simpa only [hasTy, hu] using h
theorem hasTy_str {f : Nat} {t : TypeId} {xs : List AV} (hu : P.underlying t = some .string) (h : hasTy P f t xs) : ∃ s : ByteArray, xs = [.str s] := by
  cases f with
  | zero => cases h
  | succ f =>
    simp only [hasTy, hu] at h
    obtain ⟨s, h1, _⟩ := h
    exact ⟨s, h1⟩
theorem hasTy_slice {f : Nat} {t e : TypeId} {xs : List AV} (hu : P.underlying t = some (.slice e)) (hc : P.cellsOf e ≠ 0) (h : hasTy P f t xs) : ∃ els, xs = [.isl els] ∧ ∀ x ∈ els, ∃ l, x = ofCells (aggT P e) l ∧ hasTy P (f - 1) e l := by
  cases f with
  | zero => cases h
  | succ f =>
    simp only [hasTy, hu] at h
    obtain ⟨els, h1, _, h2⟩ := h hc
    exact ⟨els, h1, fun x hx => by
      obtain ⟨l, k1, _, k2⟩ := h2 x hx
      exact ⟨l, k1, k2⟩⟩
theorem hasTy_struct {f : Nat} {t : TypeId} {fs : Array Field} {xs : List AV} (hu : P.underlying t = some (.struct fs)) (ht : tiled P 0 (P.cellsOf t) fs.toList = true) (h : hasTy P f t xs) : partsTy (hasTy P (f - 1)) fs.toList xs := by
  cases f with
  | zero => cases h
  | succ f =>
    simp only [hasTy, hu] at h
    exact h ht
theorem list_of {α : Type} {p : AV → Prop} {g : α → AV} (h : ∀ x, p x → ∃ a, x = g a) : ∀ (l : List AV), (∀ x ∈ l, p x) → ∃ r : List α, l = r.map g
  | [], _ => ⟨[], rfl⟩
  | x :: l, hp => by
    obtain ⟨a, ha⟩ := h x (hp x (by simp))
    obtain ⟨r, hr⟩ := list_of h l fun y hy => hp y (by simp [hy])
    exact ⟨a :: r, by rw [List.map_cons, ← ha, ← hr]⟩
theorem hasTy_strs {f : Nat} {t e : TypeId} {xs : List AV} (hu : P.underlying t = some (.slice e)) (he : P.underlying e = some .string) (hc : P.cellsOf e ≠ 0) (h : hasTy P f t xs) : ∃ l : List ByteArray, xs = [.isl (l.map .str)] := by
  obtain ⟨els, h1, h2⟩ := hasTy_slice hu hc h
  obtain ⟨l, hl⟩ := list_of (p := fun x => ∃ s : ByteArray, x = .str s) (g := AV.str) (fun x hx => hx) els fun x hx => by
    obtain ⟨l, rfl, hl⟩ := h2 x hx
    obtain ⟨s, rfl⟩ := hasTy_str he hl
    exact ⟨s, by simp [aggT, he, ofCells]⟩
  exact ⟨l, by rw [h1, hl]⟩
theorem bulkL_ge {α : Type} {g : α → AV} (hg : ∀ a, 1 ≤ (g a).bulk) : ∀ (l : List α), l.length ≤ bulkL (l.map g)
  | [] => by simp
  | x :: l => by
    have := hg x
    have := bulkL_ge hg l
    simp only [List.map_cons, bulkL, List.length_cons]; omega
end
end Go.Avm
namespace Go.Proofs.YtpjajogdoccdhaaGreatDoor
open Go Go.Avm Go.RowKit
def strs : List AV → Option (List ByteArray)
  | [] => some []
  | .str s :: l => match strs l with | some r => some (s :: r) | none => none
  | _ => none
def distinct : List ByteArray → Bool
  | [] => true
  | x :: l => (l.all fun y => !(x.toList == y.toList)) && distinct l
def twiceX : List AV → Avm.H → Option (AV × Avm.H)
  | [v], h => match elsOf h v with
    | some els => (match strs els with
      | some l => if l.length ≤ 1048576 then some (.bool (!distinct l), h) else none
      | none => none)
    | none => none
  | _, _ => none
def containsX : List AV → Avm.H → Option (AV × Avm.H)
  | [.str s, .str t], h => if s.size < 4294967281 then some (.bool (Lib.contains s.data.toList t.data.toList), h) else none
  | _, _ => none
def fnOf : List (Nat × F) → FuncId → Option F
  | [], _ => none
  | (k, F) :: l, f => if f = k then some F else fnOf l f
theorem fnOf_mem : ∀ {l : List (Nat × F)} {f : FuncId} {F : F}, fnOf l f = some F → (f, F) ∈ l
  | [], _, _, h => by cases h
  | (k, G) :: l, f, F, h => by
    rw [fnOf] at h
    split at h
    · rename_i e; cases h; subst e; simp
    · exact List.mem_cons_of_mem _ (fnOf_mem h)
def lim : Nat := 536870912
def extOf (f : FuncId) : Option (List AV → Avm.H → Option (AV × Avm.H)) :=
  if f = 79 then some twiceX else if f = 98 then some containsX
  else if f = 66 then some (cloneX 4 lim) else if f = 73 then some (cloneX 8 lim)
  else if f = 74 then some (cloneX 12 lim) else none
def cfg : Cfg := ⟨fnOf fnl, extOf⟩
def pf (f : FuncId) : Bool := match cfg.pol f with | some .snap => true | some (.pur _) => true | _ => false
set_option maxRecDepth 100000 in
theorem checked : fnl.all (fun p => fOkB Tryz.prog pf p.1 p.2) = true := by kernel_rfl
theorem follows : Tryz.prog.follows .mixedOrders = true := by kernel_rfl
set_option maxRecDepth 100000 in
theorem sane0 : callN cfg 100 0 10 [] [] = some (.bool true, []) := by kernel_rfl
end Go.Proofs.YtpjajogdoccdhaaGreatDoor
namespace Go.Proofs
open Go.Shelf
def Tryz.layS_ren : Go.Shelf.Ren := ⟨fun | 6 => 127 | 8 => 154 | 9 => 155 | 11 => 162 | 13 => 164 | 12 => 163 | 23 => 180 | 24 => 181 | 14 => 171 | 15 => 172 | 16 => 173 | 17 => 174 | 18 => 175 | 19 => 176 | 20 => 177 | 21 => 178 | 22 => 179 | 25 => 184 | 26 => 185 | 27 => 186 | 28 => 187 | 29 => 188 | 30 => 189 | 31 => 190 | n => n, fun | 26 => 9 | 28 => 132 | 24 => 66 | 0 => 0 | 3 => 3 | 37 => 156 | 48 => 172 | 50 => 174 | 4 => 4 | 40 => 165 | 39 => 164 | 45 => 169 | 5 => 5 | 9 => 9 | 51 => 177 | 55 => 64 | 57 => 182 | 58 => 86 | 33 => 98 | n => n, fun | n => n⟩
theorem Tryz.layS : Go.Proofs.SlLaysZ.n6 Tryz.prog Tryz.layS_ren := {
  mixed := by kernel_rfl
  f6 := ⟨Tryz.f127.name, by decide, Tryz.func127.trans (congrArg some (by kernel_rfl))⟩
  f8 := ⟨Tryz.f154.name, by decide, Tryz.func154.trans (congrArg some (by kernel_rfl))⟩
  f11 := ⟨Tryz.f162.name, by decide, Tryz.func162.trans (congrArg some (by kernel_rfl))⟩
  t0 := Tryz.underlying0
  a0 := Tryz.isAgg0
  z0 := Tryz.sizeOf0
  v0 := Tryz.zeroValue0
  t24 := Tryz.underlying66
  a24 := Tryz.isAgg66
  z24 := Tryz.sizeOf66
  v24 := Tryz.zeroValue66
  t26 := Tryz.underlying9
  a26 := Tryz.isAgg9
  z26 := Tryz.sizeOf9
  v26 := Tryz.zeroValue9
  t28 := Tryz.underlying132
  a28 := Tryz.isAgg132
  z28 := Tryz.sizeOf132
  v28 := Tryz.zeroValue132
  i26 := by kernel_rfl }
def Tryz.layT_ren : Go.Shelf.Ren := ⟨fun | 6 => 155 | 8 => 164 | 9 => 163 | 19 => 180 | 20 => 181 | 21 => 171 | 22 => 172 | 23 => 173 | 24 => 174 | 25 => 175 | 26 => 176 | 27 => 177 | 28 => 178 | 29 => 179 | 36 => 184 | 31 => 185 | 32 => 186 | 37 => 187 | 38 => 188 | 39 => 189 | 41 => 190 | n => n, fun | 27 => 66 | 29 => 9 | 3 => 3 | 32 => 156 | 26 => 66 | 0 => 0 | 44 => 172 | 46 => 174 | 4 => 4 | 36 => 165 | 35 => 164 | 41 => 169 | 5 => 5 | 9 => 9 | 53 => 177 | 57 => 64 | 63 => 182 | 64 => 86 | n => n, fun | n => n⟩
theorem Tryz.layT : Go.Proofs.SlLaysM.n6 Tryz.prog Tryz.layT_ren := {
  mixed := by kernel_rfl
  f6 := ⟨Tryz.f155.name, by decide, Tryz.func155.trans (congrArg some (by kernel_rfl))⟩
  f8 := Tryz.func164.trans (congrArg some (by kernel_rfl))
  f9 := ⟨Tryz.f163.name, by decide, Tryz.func163.trans (congrArg some (by kernel_rfl))⟩
  f19 := Tryz.func180.trans (congrArg some (by kernel_rfl))
  f20 := Tryz.func181.trans (congrArg some (by kernel_rfl))
  f21 := ⟨Tryz.f171.name, by decide, Tryz.func171.trans (congrArg some (by kernel_rfl))⟩
  f22 := ⟨Tryz.f172.name, by decide, Tryz.func172.trans (congrArg some (by kernel_rfl))⟩
  f23 := ⟨Tryz.f173.name, by decide, Tryz.func173.trans (congrArg some (by kernel_rfl))⟩
  f24 := ⟨Tryz.f174.name, by decide, Tryz.func174.trans (congrArg some (by kernel_rfl))⟩
  f25 := ⟨Tryz.f175.name, by decide, Tryz.func175.trans (congrArg some (by kernel_rfl))⟩
  f26 := ⟨Tryz.f176.name, by decide, Tryz.func176.trans (congrArg some (by kernel_rfl))⟩
  f27 := ⟨Tryz.f177.name, by decide, Tryz.func177.trans (congrArg some (by kernel_rfl))⟩
  f28 := ⟨Tryz.f178.name, by decide, Tryz.func178.trans (congrArg some (by kernel_rfl))⟩
  f29 := ⟨Tryz.f179.name, by decide, Tryz.func179.trans (congrArg some (by kernel_rfl))⟩
  f31 := Tryz.func185.trans (congrArg some (by kernel_rfl))
  f32 := Tryz.func186.trans (congrArg some (by kernel_rfl))
  f36 := ⟨Tryz.f184.name, by decide, Tryz.func184.trans (congrArg some (by kernel_rfl))⟩
  f37 := ⟨Tryz.f187.name, by decide, Tryz.func187.trans (congrArg some (by kernel_rfl))⟩
  f38 := ⟨Tryz.f188.name, by decide, Tryz.func188.trans (congrArg some (by kernel_rfl))⟩
  f39 := ⟨Tryz.f189.name, by decide, Tryz.func189.trans (congrArg some (by kernel_rfl))⟩
  f41 := ⟨Tryz.f190.name, by decide, Tryz.func190.trans (congrArg some (by kernel_rfl))⟩
  t0 := Tryz.underlying0
  a0 := Tryz.isAgg0
  z0 := Tryz.sizeOf0
  v0 := Tryz.zeroValue0
  t3 := Tryz.underlying3
  a3 := Tryz.isAgg3
  z3 := Tryz.sizeOf3
  v3 := Tryz.zeroValue3
  t4 := Tryz.underlying4
  a4 := Tryz.isAgg4
  z4 := Tryz.sizeOf4
  v4 := Tryz.zeroValue4
  t5 := Tryz.underlying5
  a5 := Tryz.isAgg5
  z5 := Tryz.sizeOf5
  v5 := Tryz.zeroValue5
  t9 := Tryz.underlying9
  a9 := Tryz.isAgg9
  z9 := Tryz.sizeOf9
  v9 := Tryz.zeroValue9
  t26 := Tryz.underlying66
  a26 := Tryz.isAgg66
  z26 := Tryz.sizeOf66
  v26 := Tryz.zeroValue66
  t27 := Tryz.underlying66
  a27 := Tryz.isAgg66
  z27 := Tryz.sizeOf66
  v27 := Tryz.zeroValue66
  t29 := Tryz.underlying9
  a29 := Tryz.isAgg9
  z29 := Tryz.sizeOf9
  v29 := Tryz.zeroValue9
  t32 := Tryz.underlying156
  a32 := Tryz.isAgg156
  z32 := Tryz.sizeOf156
  v32 := Tryz.zeroValue156
  t35 := Tryz.underlying164
  a35 := Tryz.isAgg164
  z35 := Tryz.sizeOf164
  v35 := Tryz.zeroValue164
  t36 := Tryz.underlying165
  a36 := Tryz.isAgg165
  z36 := Tryz.sizeOf165
  v36 := Tryz.zeroValue165
  t41 := Tryz.underlying169
  a41 := Tryz.isAgg169
  z41 := Tryz.sizeOf169
  v41 := Tryz.zeroValue169
  t44 := Tryz.underlying172
  a44 := Tryz.isAgg172
  z44 := Tryz.sizeOf172
  v44 := Tryz.zeroValue172
  t46 := Tryz.underlying174
  a46 := Tryz.isAgg174
  z46 := Tryz.sizeOf174
  v46 := Tryz.zeroValue174
  t53 := Tryz.underlying177
  a53 := Tryz.isAgg177
  z53 := Tryz.sizeOf177
  v53 := Tryz.zeroValue177
  t57 := Tryz.underlying64
  a57 := Tryz.isAgg64
  z57 := Tryz.sizeOf64
  v57 := Tryz.zeroValue64
  t63 := Tryz.underlying182
  a63 := Tryz.isAgg182
  z63 := Tryz.sizeOf182
  v63 := Tryz.zeroValue182
  t64 := Tryz.underlying86
  a64 := Tryz.isAgg86
  z64 := Tryz.sizeOf86
  v64 := Tryz.zeroValue86 }
def Tryz.layC_ren : Go.Shelf.Ren := ⟨fun | 194 => 129 | n => n, fun | 31 => 66 | 9 => 9 | 3 => 3 | 4 => 4 | 0 => 0 | n => n, fun | n => n⟩
theorem Tryz.layC : Go.Proofs.Lays.n194 Tryz.prog Tryz.layC_ren := {
  mixed := by kernel_rfl
  f194 := Tryz.func129.trans (congrArg some (by kernel_rfl))
  t0 := Tryz.underlying0
  a0 := Tryz.isAgg0
  z0 := Tryz.sizeOf0
  v0 := Tryz.zeroValue0
  t3 := Tryz.underlying3
  a3 := Tryz.isAgg3
  z3 := Tryz.sizeOf3
  v3 := Tryz.zeroValue3
  t4 := Tryz.underlying4
  a4 := Tryz.isAgg4
  z4 := Tryz.sizeOf4
  v4 := Tryz.zeroValue4
  t9 := Tryz.underlying9
  a9 := Tryz.isAgg9
  z9 := Tryz.sizeOf9
  v9 := Tryz.zeroValue9
  t31 := Tryz.underlying66
  a31 := Tryz.isAgg66
  z31 := Tryz.sizeOf66
  v31 := Tryz.zeroValue66 }
def Tryz.layCs_ren : Go.Shelf.Ren := ⟨fun | 41 => 130 | n => n, fun | 22 => 66 | 23 => 9 | 4 => 4 | n => n, fun | n => n⟩
theorem Tryz.layCs : Go.Proofs.SlLaysE0.n41 Tryz.prog Tryz.layCs_ren := {
  mixed := by kernel_rfl
  f41 := ⟨Tryz.f130.name, by decide, Tryz.func130.trans (congrArg some (by kernel_rfl))⟩
  t4 := Tryz.underlying4
  a4 := Tryz.isAgg4
  z4 := Tryz.sizeOf4
  v4 := Tryz.zeroValue4
  t22 := Tryz.underlying66
  a22 := Tryz.isAgg66
  z22 := Tryz.sizeOf66
  v22 := Tryz.zeroValue66 }
def Tryz.layCv_ren : Go.Shelf.Ren := ⟨fun | 41 => 66 | n => n, fun | 22 => 29 | 23 => 31 | 4 => 4 | n => n, fun | n => n⟩
theorem Tryz.layCv : Go.Proofs.SlLaysE0.n41 Tryz.prog Tryz.layCv_ren := {
  mixed := by kernel_rfl
  f41 := ⟨Tryz.f66.name, by decide, Tryz.func66.trans (congrArg some (by kernel_rfl))⟩
  t4 := Tryz.underlying4
  a4 := Tryz.isAgg4
  z4 := Tryz.sizeOf4
  v4 := Tryz.zeroValue4
  t22 := Tryz.underlying29
  a22 := Tryz.isAgg29
  z22 := Tryz.sizeOf29
  v22 := Tryz.zeroValue29 }
def Tryz.layCt_ren : Go.Shelf.Ren := ⟨fun | 41 => 73 | n => n, fun | 22 => 26 | 23 => 28 | 4 => 4 | n => n, fun | n => n⟩
theorem Tryz.layCt : Go.Proofs.SlLaysE0.n41 Tryz.prog Tryz.layCt_ren := {
  mixed := by kernel_rfl
  f41 := ⟨Tryz.f73.name, by decide, Tryz.func73.trans (congrArg some (by kernel_rfl))⟩
  t4 := Tryz.underlying4
  a4 := Tryz.isAgg4
  z4 := Tryz.sizeOf4
  v4 := Tryz.zeroValue4
  t22 := Tryz.underlying26
  a22 := Tryz.isAgg26
  z22 := Tryz.sizeOf26
  v22 := Tryz.zeroValue26 }
def Tryz.layCi_ren : Go.Shelf.Ren := ⟨fun | 41 => 74 | n => n, fun | 22 => 25 | 23 => 46 | 4 => 4 | n => n, fun | n => n⟩
theorem Tryz.layCi : Go.Proofs.SlLaysE0.n41 Tryz.prog Tryz.layCi_ren := {
  mixed := by kernel_rfl
  f41 := ⟨Tryz.f74.name, by decide, Tryz.func74.trans (congrArg some (by kernel_rfl))⟩
  t4 := Tryz.underlying4
  a4 := Tryz.isAgg4
  z4 := Tryz.sizeOf4
  v4 := Tryz.zeroValue4
  t22 := Tryz.underlying25
  a22 := Tryz.isAgg25
  z22 := Tryz.sizeOf25
  v22 := Tryz.zeroValue25 }
def Tryz.layCo_ren : Go.Shelf.Ren := ⟨fun | 144 => 98 | 143 => 137 | 219 => 158 | 217 => 165 | 225 => 166 | 224 => 167 | 267 => 168 | 266 => 182 | 314 => 183 | n => n, fun | 9 => 9 | 4 => 4 | 3 => 3 | 5 => 5 | 46 => 156 | 146 => 175 | 51 => 172 | n => n, fun | 1 => 0 | n => n⟩
theorem Tryz.layCo : Go.Proofs.LaysM.n144 Tryz.prog Tryz.layCo_ren := {
  mixed := by kernel_rfl
  f143 := Tryz.func137.trans (congrArg some (by kernel_rfl))
  f144 := Tryz.func98.trans (congrArg some (by kernel_rfl))
  f217 := Tryz.func165.trans (congrArg some (by kernel_rfl))
  f219 := Tryz.func158.trans (congrArg some (by kernel_rfl))
  f224 := Tryz.func167.trans (congrArg some (by kernel_rfl))
  f225 := Tryz.func166.trans (congrArg some (by kernel_rfl))
  f266 := Tryz.func182.trans (congrArg some (by kernel_rfl))
  f267 := Tryz.func168.trans (congrArg some (by kernel_rfl))
  f314 := Tryz.func183.trans (congrArg some (by kernel_rfl))
  t3 := Tryz.underlying3
  a3 := Tryz.isAgg3
  z3 := Tryz.sizeOf3
  v3 := Tryz.zeroValue3
  t4 := Tryz.underlying4
  a4 := Tryz.isAgg4
  z4 := Tryz.sizeOf4
  v4 := Tryz.zeroValue4
  t5 := Tryz.underlying5
  a5 := Tryz.isAgg5
  z5 := Tryz.sizeOf5
  v5 := Tryz.zeroValue5
  t9 := Tryz.underlying9
  a9 := Tryz.isAgg9
  z9 := Tryz.sizeOf9
  v9 := Tryz.zeroValue9
  t46 := Tryz.underlying156
  a46 := Tryz.isAgg156
  z46 := Tryz.sizeOf156
  v46 := Tryz.zeroValue156
  t51 := Tryz.underlying172
  a51 := Tryz.isAgg172
  z51 := Tryz.sizeOf172
  v51 := Tryz.zeroValue172
  t146 := Tryz.underlying175
  a146 := Tryz.isAgg175
  z146 := Tryz.sizeOf175
  v146 := Tryz.zeroValue175
  g1 := by kernel_rfl
  i3 := by kernel_rfl
  i4 := by kernel_rfl
  i5 := by kernel_rfl
  i9 := by kernel_rfl
  i46 := by kernel_rfl
  i51 := by kernel_rfl
  i146 := by kernel_rfl
  m1 := by kernel_rfl
  s1_3 := fun w h => Go.Proofs.cell_of_shapedOpen_int (zero := #[.int .i64 0]) (t := 3) h (of_decide_eq_true (by kernel_rfl)) (by kernel_rfl) rfl (by kernel_rfl) (by kernel_rfl) Tryz.underlying3 }
end Go.Proofs
