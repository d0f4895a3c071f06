/- Fields of kinds: both ways are one. -/
import Derived.Test.YtflbneepngjglaaGreatDoorR34
set_option linter.all false
namespace Go.Proofs.YtflbneepngjglaaGreatDoor
open Go Go.Avm
def Ty.zero : Ty:=.mk 0 ⟨#[]⟩ 0 0 false false [] []
def Ty.n0 (t : Ty) : Bool:=eqS t.name ⟨#[]⟩
def Ty.l0 (t : Ty) : Bool:=decide (t.lo=0)
def Ty.h0 (t : Ty) : Bool:=decide (t.hi=0)
def Ty.i0 (t : Ty) : Bool:=t.items.isEmpty
def Ty.k0 (t : Ty) : Bool:=t.kids.isEmpty
theorem eqL_nil {α : Type} (p : α→α→Bool) (l : List α) : eqL p l []=l.isEmpty:=by cases l <;> simp [eqL]
theorem same_bare (t : Ty) (k : Int) (hk : t.kind=k) : t.same (.mk k ⟨#[]⟩ 0 0 false false [] [])=(t.n0 && (t.l0 && (t.h0 && (!t.free && (!t.ext && (t.i0 && t.k0)))))):=by
 rw [Ty.same_eq]
 simp only [Ty.kind_mk,Ty.name_mk,Ty.lo_mk,Ty.hi_mk,Ty.free_mk,Ty.ext_mk,Ty.items_mk,Ty.kids_mk,eqL_nil,hk,decide_true,Bool.true_and]
 unfold Ty.n0 Ty.l0 Ty.h0 Ty.i0 Ty.k0
 cases t.free <;> cases t.ext <;> rfl
theorem only_78 (S : ByteArray) (p : Nat) (hp : p < S.size) (hd : Utf8.decode S p=(78,1)) (h : Avm.H) (a0 a1 a2 a3 a4 a5 a6 a7 : AV) (r : Ex × Env × Avm.H)
    (ev : roundsL (evC (callL cfg) roundsL cfg.pol h.length h.length c159L0) [2,8] [(2,.ptr h.length 0 8 0 0),(8,.ptr (h.length + 1) 0 0 0 0)] (h++[.arr 0 8 [.agg [a0,.str ⟨#[]⟩,a2,a3,a4,a5,a6,a7]],.sit S (p + 1)])=some r) : roundsL (evC (callL cfg) roundsL cfg.pol h.length h.length c159L0) [2,8] [(2,.ptr h.length 0 8 0 0),(8,.ptr (h.length + 1) 0 0 0 0)] (h++[.arr 0 8 [.agg [a0,a1,a2,a3,a4,a5,a6,a7]],.sit S p])=some r:=by
 refine roundsL_k fun K hK=>?_
 simp [c159L0,hp,hd]
 rw [hK,ev]
theorem only_76 (S : ByteArray) (p : Nat) (hp : p < S.size) (hd : Utf8.decode S p=(76,1)) (h : Avm.H) (a0 a1 a2 a3 a4 a5 a6 a7 : AV) (r : Ex × Env × Avm.H)
    (ev : roundsL (evC (callL cfg) roundsL cfg.pol h.length h.length c159L0) [2,8] [(2,.ptr h.length 0 8 0 0),(8,.ptr (h.length + 1) 0 0 0 0)] (h++[.arr 0 8 [.agg [a0,a1,.int .i64 0,.int .i64 0,a4,a5,a6,a7]],.sit S (p + 1)])=some r) : roundsL (evC (callL cfg) roundsL cfg.pol h.length h.length c159L0) [2,8] [(2,.ptr h.length 0 8 0 0),(8,.ptr (h.length + 1) 0 0 0 0)] (h++[.arr 0 8 [.agg [a0,a1,a2,a3,a4,a5,a6,a7]],.sit S p])=some r:=by
 refine roundsL_k fun K hK=>?_
 simp [c159L0,hp,hd]
 rw [hK,ev]
theorem only_70 (S : ByteArray) (p : Nat) (hp : p < S.size) (hd : Utf8.decode S p=(70,1)) (h : Avm.H) (a0 a1 a2 a3 a4 a5 a6 a7 : AV) (r : Ex × Env × Avm.H)
    (ev : roundsL (evC (callL cfg) roundsL cfg.pol h.length h.length c159L0) [2,8] [(2,.ptr h.length 0 8 0 0),(8,.ptr (h.length + 1) 0 0 0 0)] (h++[.arr 0 8 [.agg [a0,a1,a2,a3,.bool false,a5,a6,a7]],.sit S (p + 1)])=some r) : roundsL (evC (callL cfg) roundsL cfg.pol h.length h.length c159L0) [2,8] [(2,.ptr h.length 0 8 0 0),(8,.ptr (h.length + 1) 0 0 0 0)] (h++[.arr 0 8 [.agg [a0,a1,a2,a3,a4,a5,a6,a7]],.sit S p])=some r:=by
 refine roundsL_k fun K hK=>?_
 simp [c159L0,hp,hd]
 rw [hK,ev]
theorem only_69 (S : ByteArray) (p : Nat) (hp : p < S.size) (hd : Utf8.decode S p=(69,1)) (h : Avm.H) (a0 a1 a2 a3 a4 a5 a6 a7 : AV) (r : Ex × Env × Avm.H)
    (ev : roundsL (evC (callL cfg) roundsL cfg.pol h.length h.length c159L0) [2,8] [(2,.ptr h.length 0 8 0 0),(8,.ptr (h.length + 1) 0 0 0 0)] (h++[.arr 0 8 [.agg [a0,a1,a2,a3,a4,.bool false,a6,a7]],.sit S (p + 1)])=some r) : roundsL (evC (callL cfg) roundsL cfg.pol h.length h.length c159L0) [2,8] [(2,.ptr h.length 0 8 0 0),(8,.ptr (h.length + 1) 0 0 0 0)] (h++[.arr 0 8 [.agg [a0,a1,a2,a3,a4,a5,a6,a7]],.sit S p])=some r:=by
 refine roundsL_k fun K hK=>?_
 simp [c159L0,hp,hd]
 rw [hK,ev]
theorem only_73 (S : ByteArray) (p : Nat) (hp : p < S.size) (hd : Utf8.decode S p=(73,1)) (h : Avm.H) (a0 a1 a2 a3 a4 a5 a6 a7 : AV) (r : Ex × Env × Avm.H)
    (ev : roundsL (evC (callL cfg) roundsL cfg.pol h.length h.length c159L0) [2,8] [(2,.ptr h.length 0 8 0 0),(8,.ptr (h.length + 1) 0 0 0 0)] (h++[.arr 0 8 [.agg [a0,a1,a2,a3,a4,a5,.isl [],a7]],.sit S (p + 1)])=some r) : roundsL (evC (callL cfg) roundsL cfg.pol h.length h.length c159L0) [2,8] [(2,.ptr h.length 0 8 0 0),(8,.ptr (h.length + 1) 0 0 0 0)] (h++[.arr 0 8 [.agg [a0,a1,a2,a3,a4,a5,a6,a7]],.sit S p])=some r:=by
 refine roundsL_k fun K hK=>?_
 simp [c159L0,hp,hd]
 rw [hK,ev]
theorem only_75 (S : ByteArray) (p : Nat) (hp : p < S.size) (hd : Utf8.decode S p=(75,1)) (h : Avm.H) (a0 a1 a2 a3 a4 a5 a6 a7 : AV) (r : Ex × Env × Avm.H)
    (ev : roundsL (evC (callL cfg) roundsL cfg.pol h.length h.length c159L0) [2,8] [(2,.ptr h.length 0 8 0 0),(8,.ptr (h.length + 1) 0 0 0 0)] (h++[.arr 0 8 [.agg [a0,a1,a2,a3,a4,a5,a6,.isl []]],.sit S (p + 1)])=some r) : roundsL (evC (callL cfg) roundsL cfg.pol h.length h.length c159L0) [2,8] [(2,.ptr h.length 0 8 0 0),(8,.ptr (h.length + 1) 0 0 0 0)] (h++[.arr 0 8 [.agg [a0,a1,a2,a3,a4,a5,a6,a7]],.sit S p])=some r:=by
 refine roundsL_k fun K hK=>?_
 simp [c159L0,hp,hd]
 rw [hK,ev]
theorem only_end (S : ByteArray) (p : Nat) (hp : ¬ p < S.size) (h : Avm.H) (a : AV) : roundsL (evC (callL cfg) roundsL cfg.pol h.length h.length c159L0) [2,8] [(2,.ptr h.length 0 8 0 0),(8,.ptr (h.length + 1) 0 0 0 0)] (h++[.arr 0 8 [a],.sit S p])=some (.exit 0,[(2,.ptr h.length 0 8 0 0),(8,.ptr (h.length + 1) 0 0 0 0)],h++[.arr 0 8 [a],.sit S p]):=by
 refine roundsL_k fun K hK=>?_
 simp [c159L0,hp]
def Ty.onone (t : Ty) : Bool:=t.n0 && (t.l0 && (t.h0 && (!t.free && (!t.ext && (t.i0 && (t.k0))))))
theorem onlynone_ok (t : Ty) (ht : t.wid≤67108864) (ws : Nat) (h : Avm.H) : callL cfg ws 159 [t.enc,.str ⟨#[]⟩] h=some (.bool t.onone,h):=by
 have hl : roundsL (evC (callL cfg) roundsL cfg.pol h.length h.length c159L0) [2,8] [(2,.ptr h.length 0 8 0 0),(8,.ptr (h.length + 1) 0 0 0 0)] (h++[.arr 0 8 [.agg [.int .i64 t.kind,.str t.name,.int .i64 t.lo,.int .i64 t.hi,.bool t.free,.bool t.ext,.isl (t.items.map It.enc),.isl (t.kids.map Ty.enc)]],.sit ⟨#[]⟩ 0])=some (.exit 0,[(2,.ptr h.length 0 8 0 0),(8,.ptr (h.length + 1) 0 0 0 0)],h++[.arr 0 8 [.agg [.int .i64 t.kind,.str t.name,.int .i64 t.lo,.int .i64 t.hi,.bool t.free,.bool t.ext,.isl (t.items.map It.enc),.isl (t.kids.map Ty.enc)]],.sit ⟨#[]⟩ 0]):=only_end _ _ (by decide) _ _
 have hs:=fun ws h=>sameType_ok (.mk t.kind t.name t.lo t.hi t.free t.ext t.items t.kids) (.mk t.kind ⟨#[]⟩ 0 0 false false [] []) (by have h1:=ht; have hz : (⟨#[]⟩ : ByteArray).size=0:=rfl; rw [Ty.wid_eq] at h1 ⊢; simp [It.widL,Ty.widL,hz]; omega) ws h
 have hsb:=same_bare (.mk t.kind t.name t.lo t.hi t.free t.ext t.items t.kids) t.kind rfl
 simp only [hsb] at hs
 refine callL_fn rfl rfl ?_
 simp [Ty.n0,Ty.l0,Ty.h0,Ty.i0,Ty.k0,eqS] at hs
 simp [F159,c159,hl,hs,Ty.onone,Ty.n0,Ty.l0,Ty.h0,Ty.i0,Ty.k0,eqS]
 first | done | rfl | (congr <;> exact Subsingleton.elim _ _)
def Ty.oLFE (t : Ty) : Bool:=t.n0 && (t.i0 && (t.k0))
theorem onlyLFE_ok (t : Ty) (ht : t.wid≤67108864) (ws : Nat) (h : Avm.H) : callL cfg ws 159 [t.enc,.str ⟨#[76,70,69]⟩] h=some (.bool t.oLFE,h):=by
 have hl : roundsL (evC (callL cfg) roundsL cfg.pol h.length h.length c159L0) [2,8] [(2,.ptr h.length 0 8 0 0),(8,.ptr (h.length + 1) 0 0 0 0)] (h++[.arr 0 8 [.agg [.int .i64 t.kind,.str t.name,.int .i64 t.lo,.int .i64 t.hi,.bool t.free,.bool t.ext,.isl (t.items.map It.enc),.isl (t.kids.map Ty.enc)]],.sit ⟨#[76,70,69]⟩ 0])=some (.exit 0,[(2,.ptr h.length 0 8 0 0),(8,.ptr (h.length + 1) 0 0 0 0)],h++[.arr 0 8 [.agg [.int .i64 t.kind,.str t.name,.int .i64 0,.int .i64 0,.bool false,.bool false,.isl (t.items.map It.enc),.isl (t.kids.map Ty.enc)]],.sit ⟨#[76,70,69]⟩ 3]):=only_76 ⟨#[76,70,69]⟩ 0 (by decide) (by decide +kernel) h _ _ _ _ _ _ _ _ _ (only_70 ⟨#[76,70,69]⟩ 1 (by decide) (by decide +kernel) h _ _ _ _ _ _ _ _ _ (only_69 ⟨#[76,70,69]⟩ 2 (by decide) (by decide +kernel) h _ _ _ _ _ _ _ _ _ (only_end _ _ (by decide) _ _)))
 have hs:=fun ws h=>sameType_ok (.mk t.kind t.name 0 0 false false t.items t.kids) (.mk t.kind ⟨#[]⟩ 0 0 false false [] []) (by have h1:=ht; have hz : (⟨#[]⟩ : ByteArray).size=0:=rfl; rw [Ty.wid_eq] at h1 ⊢; simp [It.widL,Ty.widL,hz]; omega) ws h
 have hsb:=same_bare (.mk t.kind t.name 0 0 false false t.items t.kids) t.kind rfl
 simp only [hsb] at hs
 refine callL_fn rfl rfl ?_
 simp [Ty.n0,Ty.l0,Ty.h0,Ty.i0,Ty.k0,eqS] at hs
 simp [F159,c159,hl,hs,Ty.oLFE,Ty.n0,Ty.l0,Ty.h0,Ty.i0,Ty.k0,eqS]
 first | done | rfl | (congr <;> exact Subsingleton.elim _ _)
def Ty.oEI (t : Ty) : Bool:=t.n0 && (t.l0 && (t.h0 && (!t.free && (t.k0))))
theorem onlyEI_ok (t : Ty) (ht : t.wid≤67108864) (ws : Nat) (h : Avm.H) : callL cfg ws 159 [t.enc,.str ⟨#[69,73]⟩] h=some (.bool t.oEI,h):=by
 have hl : roundsL (evC (callL cfg) roundsL cfg.pol h.length h.length c159L0) [2,8] [(2,.ptr h.length 0 8 0 0),(8,.ptr (h.length + 1) 0 0 0 0)] (h++[.arr 0 8 [.agg [.int .i64 t.kind,.str t.name,.int .i64 t.lo,.int .i64 t.hi,.bool t.free,.bool t.ext,.isl (t.items.map It.enc),.isl (t.kids.map Ty.enc)]],.sit ⟨#[69,73]⟩ 0])=some (.exit 0,[(2,.ptr h.length 0 8 0 0),(8,.ptr (h.length + 1) 0 0 0 0)],h++[.arr 0 8 [.agg [.int .i64 t.kind,.str t.name,.int .i64 t.lo,.int .i64 t.hi,.bool t.free,.bool false,.isl [],.isl (t.kids.map Ty.enc)]],.sit ⟨#[69,73]⟩ 2]):=only_69 ⟨#[69,73]⟩ 0 (by decide) (by decide +kernel) h _ _ _ _ _ _ _ _ _ (only_73 ⟨#[69,73]⟩ 1 (by decide) (by decide +kernel) h _ _ _ _ _ _ _ _ _ (only_end _ _ (by decide) _ _))
 have hs:=fun ws h=>sameType_ok (.mk t.kind t.name t.lo t.hi t.free false [] t.kids) (.mk t.kind ⟨#[]⟩ 0 0 false false [] []) (by have h1:=ht; have hz : (⟨#[]⟩ : ByteArray).size=0:=rfl; rw [Ty.wid_eq] at h1 ⊢; simp [It.widL,Ty.widL,hz]; omega) ws h
 have hsb:=same_bare (.mk t.kind t.name t.lo t.hi t.free false [] t.kids) t.kind rfl
 simp only [hsb] at hs
 refine callL_fn rfl rfl ?_
 simp [Ty.n0,Ty.l0,Ty.h0,Ty.i0,Ty.k0,eqS] at hs
 simp [F159,c159,hl,hs,Ty.oEI,Ty.n0,Ty.l0,Ty.h0,Ty.i0,Ty.k0,eqS]
 first | done | rfl | (congr <;> exact Subsingleton.elim _ _)
def Ty.oLFEK (t : Ty) : Bool:=t.n0 && (t.i0)
theorem onlyLFEK_ok (t : Ty) (ht : t.wid≤67108864) (ws : Nat) (h : Avm.H) : callL cfg ws 159 [t.enc,.str ⟨#[76,70,69,75]⟩] h=some (.bool t.oLFEK,h):=by
 have hl : roundsL (evC (callL cfg) roundsL cfg.pol h.length h.length c159L0) [2,8] [(2,.ptr h.length 0 8 0 0),(8,.ptr (h.length + 1) 0 0 0 0)] (h++[.arr 0 8 [.agg [.int .i64 t.kind,.str t.name,.int .i64 t.lo,.int .i64 t.hi,.bool t.free,.bool t.ext,.isl (t.items.map It.enc),.isl (t.kids.map Ty.enc)]],.sit ⟨#[76,70,69,75]⟩ 0])=some (.exit 0,[(2,.ptr h.length 0 8 0 0),(8,.ptr (h.length + 1) 0 0 0 0)],h++[.arr 0 8 [.agg [.int .i64 t.kind,.str t.name,.int .i64 0,.int .i64 0,.bool false,.bool false,.isl (t.items.map It.enc),.isl []]],.sit ⟨#[76,70,69,75]⟩ 4]):=only_76 ⟨#[76,70,69,75]⟩ 0 (by decide) (by decide +kernel) h _ _ _ _ _ _ _ _ _ (only_70 ⟨#[76,70,69,75]⟩ 1 (by decide) (by decide +kernel) h _ _ _ _ _ _ _ _ _ (only_69 ⟨#[76,70,69,75]⟩ 2 (by decide) (by decide +kernel) h _ _ _ _ _ _ _ _ _ (only_75 ⟨#[76,70,69,75]⟩ 3 (by decide) (by decide +kernel) h _ _ _ _ _ _ _ _ _ (only_end _ _ (by decide) _ _))))
 have hs:=fun ws h=>sameType_ok (.mk t.kind t.name 0 0 false false t.items []) (.mk t.kind ⟨#[]⟩ 0 0 false false [] []) (by have h1:=ht; have hz : (⟨#[]⟩ : ByteArray).size=0:=rfl; rw [Ty.wid_eq] at h1 ⊢; simp [It.widL,Ty.widL,hz]; omega) ws h
 have hsb:=same_bare (.mk t.kind t.name 0 0 false false t.items []) t.kind rfl
 simp only [hsb] at hs
 refine callL_fn rfl rfl ?_
 simp [Ty.n0,Ty.l0,Ty.h0,Ty.i0,Ty.k0,eqS] at hs
 simp [F159,c159,hl,hs,Ty.oLFEK,Ty.n0,Ty.l0,Ty.h0,Ty.i0,Ty.k0,eqS]
 first | done | rfl | (congr <;> exact Subsingleton.elim _ _)
def Ty.oNK (t : Ty) : Bool:=t.l0 && (t.h0 && (!t.free && (!t.ext && (t.i0))))
theorem onlyNK_ok (t : Ty) (ht : t.wid≤67108864) (ws : Nat) (h : Avm.H) : callL cfg ws 159 [t.enc,.str ⟨#[78,75]⟩] h=some (.bool t.oNK,h):=by
 have hl : roundsL (evC (callL cfg) roundsL cfg.pol h.length h.length c159L0) [2,8] [(2,.ptr h.length 0 8 0 0),(8,.ptr (h.length + 1) 0 0 0 0)] (h++[.arr 0 8 [.agg [.int .i64 t.kind,.str t.name,.int .i64 t.lo,.int .i64 t.hi,.bool t.free,.bool t.ext,.isl (t.items.map It.enc),.isl (t.kids.map Ty.enc)]],.sit ⟨#[78,75]⟩ 0])=some (.exit 0,[(2,.ptr h.length 0 8 0 0),(8,.ptr (h.length + 1) 0 0 0 0)],h++[.arr 0 8 [.agg [.int .i64 t.kind,.str ⟨#[]⟩,.int .i64 t.lo,.int .i64 t.hi,.bool t.free,.bool t.ext,.isl (t.items.map It.enc),.isl []]],.sit ⟨#[78,75]⟩ 2]):=only_78 ⟨#[78,75]⟩ 0 (by decide) (by decide +kernel) h _ _ _ _ _ _ _ _ _ (only_75 ⟨#[78,75]⟩ 1 (by decide) (by decide +kernel) h _ _ _ _ _ _ _ _ _ (only_end _ _ (by decide) _ _))
 have hs:=fun ws h=>sameType_ok (.mk t.kind ⟨#[]⟩ t.lo t.hi t.free t.ext t.items []) (.mk t.kind ⟨#[]⟩ 0 0 false false [] []) (by have h1:=ht; have hz : (⟨#[]⟩ : ByteArray).size=0:=rfl; rw [Ty.wid_eq] at h1 ⊢; simp [It.widL,Ty.widL,hz]; omega) ws h
 have hsb:=same_bare (.mk t.kind ⟨#[]⟩ t.lo t.hi t.free t.ext t.items []) t.kind rfl
 simp only [hsb] at hs
 refine callL_fn rfl rfl ?_
 simp [Ty.n0,Ty.l0,Ty.h0,Ty.i0,Ty.k0,eqS] at hs
 simp [F159,c159,hl,hs,Ty.oNK,Ty.n0,Ty.l0,Ty.h0,Ty.i0,Ty.k0,eqS]
 first | done | rfl | (congr <;> exact Subsingleton.elim _ _)
def rngP (t : Ty) (a b : Int) : Bool:=if t.free then decide (t.lo=0) && (decide (t.hi=0) && !t.ext) else decide (a≤t.lo) && (decide (t.lo≤t.hi) && decide (t.hi≤b))
theorem ranged_ok (t : Ty) (a b : Int) (ws : Nat) (h : Avm.H) : callL cfg ws 160 [t.enc,.int .i64 a,.int .i64 b] h=some (.bool (rngP t a b),h):=by
 refine callL_fn rfl rfl ?_
 cases hf : t.free <;> simp [F160,c160,hf,rngP,Bool.and_assoc]
theorem indexI_ok {g : FuncId} {p : It→Bool} (l : List It) (hl : l.length≤67108864) (hs : Still cfg g) (hp : ∀ x ∈ l,∀ ws h',callL cfg ws g [x.enc] h'=some (.bool (p x),h')) (ws : Nat) (h : Avm.H) :
    callL cfg ws 211 [.isl (l.map It.enc),.clos g 0 []] h=some (.int .i64 (idxOf p l),h):=
 indexFunc_gen (sz:=12) (ag:=true) rfl rfl hl (by simp) (It.henc l) hs rfl (by simpa using hp) ws
theorem containsI_ok {g : FuncId} {k : Nat} {p : It→Bool} {cap cap' : List AV} (l : List It) (hl : l.length≤67108864) (hs : Still cfg g) (h : Avm.H) (hcap : snapL (snap h 7) cap=some cap') (hcp : pureL cap'=true) (hp : ∀ x ∈ l,∀ ws h',callL cfg ws g (cap'.take k++([x.enc]++cap'.drop k)) h'=some (.bool (p x),h')) (ws : Nat) :
    callL cfg ws 131 [.isl (l.map It.enc),.clos g k cap] h=some (.bool (l.any p),h):=
 containsFunc_gen (K:=211) (sz:=12) (ag:=true) rfl rfl rfl rfl hl (by simp) (It.henc l) hs hcap hcp hp ws
theorem items1_ok (x : It) (ws : Nat) (h : Avm.H) : callL cfg ws 232 [x.enc] h=some (.bool x.extra,h):=by
 refine callL_fn rfl rfl ?_
 simp [F232,c232]
theorem items2_ok (x : It) (ws : Nat) (h : Avm.H) : callL cfg ws 233 [x.enc] h=some (.bool (!x.extra),h):=by
 refine callL_fn rfl rfl ?_
 simp [F233,c233]
def itP (t : Ty) (least : Int) : Bool:=match t.items.findIdx? It.extra with
 | none=>decide (least≤t.items.length)
 | some j=>t.ext && (decide (least≤(j : Int)) && (t.items.drop j).all It.extra)
theorem items_ok (t : Ty) (ht : t.wid≤67108864) (least : Int) (ws : Nat) (h : Avm.H) : callL cfg ws 161 [t.enc,.int .i64 least] h=some (.bool (itP t least),h):=by
 have hwi:=t.wid_items
 have h1:=fun ws h=>indexI_ok (g:=232) t.items (by omega) (.inl rfl) (fun x _ ws h=>items1_ok x ws h) ws h
 have h2:=fun j ws h=>containsI_ok (g:=233) (k:=0) (cap:=[]) (t.items.drop j) (by simp; omega) (.inl rfl) h rfl rfl (fun x _ ws h=>items2_ok x ws h) ws
 refine callL_fn rfl rfl ?_
 unfold itP
 unfold idxOf at h1
 cases hq : t.items.findIdx? It.extra with
 | none=>
  rw [hq] at h1
  simp [F161,c161,h1]
 | some j=>
  rw [hq] at h1
  have hj : j≤t.items.length:=by
   rw [List.findIdx?_eq_some_iff_getElem] at hq
   obtain ⟨hj,_⟩:=hq
   omega
  simp only [List.map_drop,any_not] at h2
  have hso : szOk 12 (t.items.map It.enc)=true:=by simp [szOk]
  have hjz : ¬ (j : Int) < 0:=by omega
  simp [F161,c161,h1,slcI,hso,hj,h2]
  first | done | rw [Bool.and_assoc]
end Go.Proofs.YtflbneepngjglaaGreatDoor
namespace Go.Proofs.YtflbneepngjglaaGreatDoor
open Go Go.Avm
def bareI (i : It) : Bool:=i.of.same Ty.zero && (!i.opt && i.dflt.isEmpty)
def plainI (i : It) : Bool:=!i.opt && i.dflt.isEmpty
theorem pos_len {α : Type} (l : List α) : decide (0 < l.length) = !l.isEmpty:=by cases l <;> simp
theorem bare1_ok (i : It) (hi : i.wid≤67108864) (ws : Nat) (h : Avm.H) : callL cfg ws 234 [i.enc] h=some (.bool (!bareI i),h):=by
 have hs:=sameType_ok i.of Ty.zero (Nat.le_trans i.wid_of hi)
 simp [Ty.zero] at hs
 refine callL_fn rfl rfl ?_
 unfold bareI
 cases q1 : i.of.same Ty.zero <;> simp [Ty.zero] at q1 <;> simp [q1] at hs <;> cases q2 : i.opt <;> simp [F234,c234,hs,q2,pos_len]
theorem bare_ok (l : List It) (hl : l.length≤67108864) (hw : ∀ x ∈ l,x.wid≤67108864) (ws : Nat) (h : Avm.H) : callL cfg ws 162 [.isl (l.map It.enc)] h=some (.bool (l.all bareI),h):=by
 have h1:=fun ws h=>containsI_ok (g:=234) (k:=0) (cap:=[]) l hl (.inl rfl) h rfl rfl (fun x hx ws h=>bare1_ok x (hw x hx) ws h) ws
 simp only [any_not] at h1
 refine callL_fn rfl rfl ?_
 simp [F162,c162,h1]
theorem right1_ok (i : It) (ws : Nat) (h : Avm.H) : callL cfg ws 163 [i.enc] h=some (.bool (!plainI i),h):=by
 refine callL_fn rfl rfl ?_
 unfold plainI
 cases q2 : i.opt <;> simp [F163,c163,q2,pos_len]
def rightP (t : Ty) : Bool:=
 if t.kind=0 then t.onone else if t.kind=1 then t.onone else if t.kind=6 then t.onone else if t.kind=11 then t.onone
 else if t.kind=2 then t.oLFE && rngP t (-1000000000000000) 1000000000000000
 else if t.kind=3 then t.oEI && (itP t 1 && t.items.all bareI)
 else if t.kind=4 then t.oLFE && rngP t 0 4000
 else if t.kind=5 then t.oLFE && rngP t 0 32000
 else if t.kind=7 then t.oLFEK && (rngP t 0 200 && decide (t.kids.length=1))
 else if t.kind=8 then t.oEI && itP t 0
 else if t.kind=9 then t.oEI && (itP t 1 && t.items.all plainI)
 else decide (t.kind=10) && t.oNK
theorem right_0 (t : Ty) (ht : t.wid≤67108864) (q : t.kind=0) (ws : Nat) (h : Avm.H) : callL cfg ws 83 [t.enc] h=some (.bool t.onone,h):=by
 have hwi:=t.wid_items
 have beq1 : (((t.kids.length : Nat) : Int) == 1)=decide (t.kids.length=1):=beq_nat _ 1
 have e0:=onlynone_ok t ht
 simp [q] at e0
 refine callL_fn rfl rfl ?_
 simp [F83,c83,q,e0]
theorem right_1 (t : Ty) (ht : t.wid≤67108864) (q : t.kind=1) (ws : Nat) (h : Avm.H) : callL cfg ws 83 [t.enc] h=some (.bool t.onone,h):=by
 have hwi:=t.wid_items
 have beq1 : (((t.kids.length : Nat) : Int) == 1)=decide (t.kids.length=1):=beq_nat _ 1
 have e0:=onlynone_ok t ht
 simp [q] at e0
 refine callL_fn rfl rfl ?_
 simp [F83,c83,q,e0]
theorem right_6 (t : Ty) (ht : t.wid≤67108864) (q : t.kind=6) (ws : Nat) (h : Avm.H) : callL cfg ws 83 [t.enc] h=some (.bool t.onone,h):=by
 have hwi:=t.wid_items
 have beq1 : (((t.kids.length : Nat) : Int) == 1)=decide (t.kids.length=1):=beq_nat _ 1
 have e0:=onlynone_ok t ht
 simp [q] at e0
 refine callL_fn rfl rfl ?_
 simp [F83,c83,q,e0]
theorem right_11 (t : Ty) (ht : t.wid≤67108864) (q : t.kind=11) (ws : Nat) (h : Avm.H) : callL cfg ws 83 [t.enc] h=some (.bool t.onone,h):=by
 have hwi:=t.wid_items
 have beq1 : (((t.kids.length : Nat) : Int) == 1)=decide (t.kids.length=1):=beq_nat _ 1
 have e0:=onlynone_ok t ht
 simp [q] at e0
 refine callL_fn rfl rfl ?_
 simp [F83,c83,q,e0]
theorem right_2 (t : Ty) (ht : t.wid≤67108864) (q : t.kind=2) (ws : Nat) (h : Avm.H) : callL cfg ws 83 [t.enc] h=some (.bool (t.oLFE && rngP t (-1000000000000000) 1000000000000000),h):=by
 have hwi:=t.wid_items
 have beq1 : (((t.kids.length : Nat) : Int) == 1)=decide (t.kids.length=1):=beq_nat _ 1
 have e0:=onlyLFE_ok t ht
 have e1:=ranged_ok t (-1000000000000000) 1000000000000000
 simp [q] at e0 e1
 refine callL_fn rfl rfl ?_
 simp [F83,c83,q,e0,e1]
theorem right_3 (t : Ty) (ht : t.wid≤67108864) (q : t.kind=3) (ws : Nat) (h : Avm.H) : callL cfg ws 83 [t.enc] h=some (.bool (t.oEI && (itP t 1 && t.items.all bareI)),h):=by
 have hwi:=t.wid_items
 have beq1 : (((t.kids.length : Nat) : Int) == 1)=decide (t.kids.length=1):=beq_nat _ 1
 have e0:=onlyEI_ok t ht
 have e1:=items_ok t ht 1
 have e2:=bare_ok t.items (by omega) fun x hx=>Nat.le_trans (Ty.wid_item hx) ht
 simp [q] at e0 e1 e2
 refine callL_fn rfl rfl ?_
 simp [F83,c83,q,e0,e1,e2]
 first | done | rw [Bool.and_assoc]
theorem right_4 (t : Ty) (ht : t.wid≤67108864) (q : t.kind=4) (ws : Nat) (h : Avm.H) : callL cfg ws 83 [t.enc] h=some (.bool (t.oLFE && rngP t 0 4000),h):=by
 have hwi:=t.wid_items
 have beq1 : (((t.kids.length : Nat) : Int) == 1)=decide (t.kids.length=1):=beq_nat _ 1
 have e0:=onlyLFE_ok t ht
 have e1:=ranged_ok t 0 4000
 simp [q] at e0 e1
 refine callL_fn rfl rfl ?_
 simp [F83,c83,q,e0,e1]
theorem right_5 (t : Ty) (ht : t.wid≤67108864) (q : t.kind=5) (ws : Nat) (h : Avm.H) : callL cfg ws 83 [t.enc] h=some (.bool (t.oLFE && rngP t 0 32000),h):=by
 have hwi:=t.wid_items
 have beq1 : (((t.kids.length : Nat) : Int) == 1)=decide (t.kids.length=1):=beq_nat _ 1
 have e0:=onlyLFE_ok t ht
 have e1:=ranged_ok t 0 32000
 simp [q] at e0 e1
 refine callL_fn rfl rfl ?_
 simp [F83,c83,q,e0,e1]
theorem right_7 (t : Ty) (ht : t.wid≤67108864) (q : t.kind=7) (ws : Nat) (h : Avm.H) : callL cfg ws 83 [t.enc] h=some (.bool (t.oLFEK && (rngP t 0 200 && decide (t.kids.length=1))),h):=by
 have hwi:=t.wid_items
 have beq1 : (((t.kids.length : Nat) : Int) == 1)=decide (t.kids.length=1):=beq_nat _ 1
 have e0:=onlyLFEK_ok t ht
 have e1:=ranged_ok t 0 200
 simp [q] at e0 e1
 refine callL_fn rfl rfl ?_
 simp [F83,c83,q,e0,e1,beq1]
 first | done | rw [Bool.and_assoc]
theorem right_8 (t : Ty) (ht : t.wid≤67108864) (q : t.kind=8) (ws : Nat) (h : Avm.H) : callL cfg ws 83 [t.enc] h=some (.bool (t.oEI && itP t 0),h):=by
 have hwi:=t.wid_items
 have beq1 : (((t.kids.length : Nat) : Int) == 1)=decide (t.kids.length=1):=beq_nat _ 1
 have e0:=onlyEI_ok t ht
 have e1:=items_ok t ht 0
 simp [q] at e0 e1
 refine callL_fn rfl rfl ?_
 simp [F83,c83,q,e0,e1]
theorem right_9 (t : Ty) (ht : t.wid≤67108864) (q : t.kind=9) (ws : Nat) (h : Avm.H) : callL cfg ws 83 [t.enc] h=some (.bool (t.oEI && (itP t 1 && t.items.all plainI)),h):=by
 have hwi:=t.wid_items
 have beq1 : (((t.kids.length : Nat) : Int) == 1)=decide (t.kids.length=1):=beq_nat _ 1
 have e0:=onlyEI_ok t ht
 have e1:=items_ok t ht 1
 have e2:=fun ws h=>containsI_ok (g:=163) (k:=0) (cap:=[]) (p:=fun i=>!plainI i) t.items (by omega) (.inl rfl) h rfl rfl (fun x hx ws h=>right1_ok x ws h) ws
 simp [q] at e0 e1 e2
 refine callL_fn rfl rfl ?_
 simp [F83,c83,q,e0,e1,e2,any_not]
 first | done | rw [Bool.and_assoc]
theorem right_10 (t : Ty) (ht : t.wid≤67108864) (q : t.kind=10) (ws : Nat) (h : Avm.H) : callL cfg ws 83 [t.enc] h=some (.bool t.oNK,h):=by
 have hwi:=t.wid_items
 have beq1 : (((t.kids.length : Nat) : Int) == 1)=decide (t.kids.length=1):=beq_nat _ 1
 have e0:=onlyNK_ok t ht
 simp [q] at e0
 refine callL_fn rfl rfl ?_
 simp [F83,c83,q,e0]
theorem right_ok (t : Ty) (ht : t.wid≤67108864) (ws : Nat) (h : Avm.H) : callL cfg ws 83 [t.enc] h=some (.bool (rightP t),h):=by
 unfold rightP
 split
 ·rename_i q; exact right_0 t ht q ws h
 split
 ·rename_i q; exact right_1 t ht q ws h
 split
 ·rename_i q; exact right_6 t ht q ws h
 split
 ·rename_i q; exact right_11 t ht q ws h
 split
 ·rename_i q; exact right_2 t ht q ws h
 split
 ·rename_i q; exact right_3 t ht q ws h
 split
 ·rename_i q; exact right_4 t ht q ws h
 split
 ·rename_i q; exact right_5 t ht q ws h
 split
 ·rename_i q; exact right_7 t ht q ws h
 split
 ·rename_i q; exact right_8 t ht q ws h
 split
 ·rename_i q; exact right_9 t ht q ws h
 rename_i q0 q1 q6 q11 q2 q3 q4 q5 q7 q8 q9
 by_cases q : t.kind=10
 ·rw [decide_eq_true q,Bool.true_and]; exact right_10 t ht q ws h
 ·refine callL_fn rfl rfl ?_
  simp [F83,c83,q,q0,q1,q6,q11,q2,q3,q4,q5,q7,q8,q9]
end Go.Proofs.YtflbneepngjglaaGreatDoor
namespace Go.Proofs.YtflbneepngjglaaGreatDoor
open Go Go.Avm
def longest (k : Int) : Int:=if k=5 then 32000 else if k=7 then 200 else 4000
theorem same_zero (t : Ty) : t.same Ty.zero=(decide (t.kind=0) && (t.n0 && (t.l0 && (t.h0 && (!t.free && (!t.ext && (t.i0 && t.k0))))))):=by
 by_cases q : t.kind=0
 ·rw [decide_eq_true q,Bool.true_and]; exact same_bare t 0 q
 ·rw [Ty.same_eq]; simp [Ty.zero,q]
theorem decE {α : Type} (l : List α) [Decidable (l=[])] : decide (l=[])=l.isEmpty:=by cases l <;> simp
theorem len0 {α : Type} (l : List α) : ((l.length : Int) == 0)=l.isEmpty:=by rw [beq_zero]; cases l <;> simp
def mono : Bool→List It→Bool
 | _,[]=>true
 | e,x :: r=>!(e && !x.extra) && mono x.extra r
end Go.Proofs.YtflbneepngjglaaGreatDoor
namespace Go.Proofs.YtflbneepngjglaaGreatDoor
open Go Go.Avm
end Go.Proofs.YtflbneepngjglaaGreatDoor
