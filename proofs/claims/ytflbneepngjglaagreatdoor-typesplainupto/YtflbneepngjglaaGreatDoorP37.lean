/- Fields that a kind has: the program's way. -/
import Derived.Test.YtflbneepngjglaaGreatDoorP36
set_option linter.all false
namespace Go.Proofs.YtflbneepngjglaaGreatDoor
open Go Go.Avm
def difP (x : Ty) : Bool:=distinct (x.itemsOf.map It.name)
theorem strs_map (l : List ByteArray) : strs (l.map .str)=some l:=by
 induction l with
 | nil=>rfl
 | cons x l ih=>simp [strs,ih]
theorem twice_ok (v : AV) (l : List ByteArray) (hl : l.length≤67108864) (ws : Nat) (h : Avm.H) (he : elsOf h v=some (l.map .str)) : callL cfg ws 148 [v] h=some (.bool (!distinct l),h):=by
 refine callL_ext rfl ?_
 simp only [twiceX,he,strs_map,hl,if_true]
theorem differ_loop (t : Ty) (ht : t.wid≤67108864) (h : Avm.H) : ∃ v g,SlcIn h.length 1 1 g (([]++(t.itemsOf).map It.name).map AV.str) v∧roundsL (evC (callL cfg) roundsL cfg.pol h.length h.length c155L0) [3,7,8,9] [(3,.osl (h.length + 1) 0 1 0 0),(7,.isl (t.itemsOf.map It.enc)),(8,.int .i64 t.itemsOf.length),(9,.int .i64 (0 : Nat))] (h++([.arr 0 8 [t.enc]]++[.arr 0 1 []]))=some (.exit 0,[(3,v),(7,.isl (t.itemsOf.map It.enc)),(8,.int .i64 t.itemsOf.length),(9,.int .i64 (t.itemsOf).length)],h++([.arr 0 8 [t.enc]]++g)):=by
 have hl : (t.itemsOf).length≤67108864:=(by have:=itemsOf_len t; have:=t.wid_items; omega)
 have hlp:=loop_post (γ:=AV × Avm.H) (f:=evC (callL cfg) roundsL cfg.pol h.length h.length c155L0) (keep:=[3,7,8,9]) (t.itemsOf)
     (fun i c=>SlcIn h.length 1 1 c.2 (([]++((t.itemsOf).take i).map It.name).map AV.str) c.1)
     (fun i c=>[(3,c.1),(7,.isl (t.itemsOf.map It.enc)),(8,.int .i64 t.itemsOf.length),(9,.int .i64 i)]) (fun _ g=>h++([.arr 0 8 [t.enc]]++g.2))
     (fun _ _ o=>∃ v g,SlcIn h.length 1 1 g (([]++(t.itemsOf).map It.name).map AV.str) v∧o=(.exit 0,[(3,v),(7,.isl (t.itemsOf.map It.enc)),(8,.int .i64 t.itemsOf.length),(9,.int .i64 (t.itemsOf).length)],h++([.arr 0 8 [t.enc]]++g))) ?_ ?_ (.osl (h.length + 1) 0 1 0 0,[.arr 0 1 []]) (.inr ⟨0,0,by simp,by simp⟩)
 ·obtain ⟨o,hl,v,g,hI,ho⟩:=hlp
  exact ⟨v,g,hI,ho ▸ hl⟩
 ·intro i x r c hd hi hx hI K hK
  have hw:=wrap_nat (n:=i + 1) (by omega)
  simp at hw
  have hm : x ∈ (t.itemsOf):=by rw [← hx]; exact List.getElem_mem hi
  have htk : (t.itemsOf).take (i + 1)=(t.itemsOf).take i++[x]:=by rw [List.take_succ_eq_append_getElem hi,hx]
  rw [htk] at hK
  obtain ⟨v,g⟩:=c
  dsimp only at hI
  simp [-Prod.exists,c155L0,hi,hx,hw,bslP,appended,]
  generalize hA : appI _ _ _ _ _ _ _=r
  obtain ⟨v',g',rfl,h2⟩:=SlcIn.use (pre:=[_]) hI hA (by simp; omega) (by simp)
  obtain ⟨o,h4,h5⟩:=hK (v',g') (by simpa using h2)
  refine ⟨o,?_,by simpa using h5⟩
  simp at h4
  simp [h4,hw]
 ·intro c K hI
  refine ⟨_,?_,c.1,c.2,by simpa using hI,rfl⟩
  simp [c155L0]
theorem differf_ok (t : Ty) (ht : t.wid≤67108864) (ws : Nat) (h : Avm.H) : callL cfg ws 155 [t.enc] h=some (.bool (difP t),h):=by
 have h1:=itemsOf_ok t
 have hlen:=itemsOf_len t
 have hwi:=t.wid_items
 obtain ⟨v,g,hI,hl⟩:=differ_loop t ht h
 simp only [List.nil_append] at hI
 have h2:=fun ws=>twice_ok v (t.itemsOf.map It.name) (by simp; omega) ws _ (SlcIn.els (pre:=[.arr 0 8 [t.enc]]) hI)
 refine callL_fn rfl rfl ?_
 simp at h1 hl h2
 simp [F155,c155,h1,hl,h2,difP]
theorem differ_ok (t : Ty) (hw0 : t.wid≤67108864) (hb : t.nodes≤67108864) (ws : Nat) (h : Avm.H) : callL cfg ws 81 [t.enc] h=some (.bool (t.allP difP),h):=by
 have h2:=fun ws h=>within_ok (cap':=[]) (k:=0) (.inl rfl) rfl _ t (Nat.le_refl _) hw0 hb (fun x _ hx _ ws h'=>by simpa using differf_ok x (Nat.le_trans hx hw0) ws h') ws h [] rfl
 refine callL_fn rfl rfl ?_
 simp at h2
 simp [F81,c81,h2]
end Go.Proofs.YtflbneepngjglaaGreatDoor
namespace Go.Proofs.YtflbneepngjglaaGreatDoor
open Go Go.Avm
def Ty.zero : Ty:=.mk 0 ⟨#[]⟩ 0 0 false false [] []
def Ty.n0 (t : Ty) : Bool:=eqS t.name ⟨#[]⟩
def Ty.l0 (t : Ty) : Bool:=decide (t.lo=0)
def Ty.h0 (t : Ty) : Bool:=decide (t.hi=0)
def Ty.i0 (t : Ty) : Bool:=t.items.isEmpty
def Ty.k0 (t : Ty) : Bool:=t.kids.isEmpty
theorem eqL_nil {α : Type} (p : α→α→Bool) (l : List α) : eqL p l []=l.isEmpty:=by cases l <;> simp [eqL]
theorem same_bare (t : Ty) (k : Int) (hk : t.kind=k) : t.same (.mk k ⟨#[]⟩ 0 0 false false [] [])=(t.n0 && (t.l0 && (t.h0 && (!t.free && (!t.ext && (t.i0 && t.k0)))))):=by
 rw [Ty.same_eq]
 simp only [Ty.kind_mk,Ty.name_mk,Ty.lo_mk,Ty.hi_mk,Ty.free_mk,Ty.ext_mk,Ty.items_mk,Ty.kids_mk,eqL_nil,hk,decide_true,Bool.true_and]
 unfold Ty.n0 Ty.l0 Ty.h0 Ty.i0 Ty.k0
 cases t.free <;> cases t.ext <;> rfl
theorem only_78 (S : ByteArray) (p : Nat) (hp : p < S.size) (hd : Utf8.decode S p=(78,1)) (h : Avm.H) (a0 a1 a2 a3 a4 a5 a6 a7 : AV) (r : Ex × Env × Avm.H)
    (ev : roundsL (evC (callL cfg) roundsL cfg.pol h.length h.length c159L0) [2,8] [(2,.ptr h.length 0 8 0 0),(8,.ptr (h.length + 1) 0 0 0 0)] (h++[.arr 0 8 [.agg [a0,.str ⟨#[]⟩,a2,a3,a4,a5,a6,a7]],.sit S (p + 1)])=some r) : roundsL (evC (callL cfg) roundsL cfg.pol h.length h.length c159L0) [2,8] [(2,.ptr h.length 0 8 0 0),(8,.ptr (h.length + 1) 0 0 0 0)] (h++[.arr 0 8 [.agg [a0,a1,a2,a3,a4,a5,a6,a7]],.sit S p])=some r:=by
 refine roundsL_k fun K hK=>?_
 simp [c159L0,hp,hd]
 rw [hK,ev]
theorem only_76 (S : ByteArray) (p : Nat) (hp : p < S.size) (hd : Utf8.decode S p=(76,1)) (h : Avm.H) (a0 a1 a2 a3 a4 a5 a6 a7 : AV) (r : Ex × Env × Avm.H)
    (ev : roundsL (evC (callL cfg) roundsL cfg.pol h.length h.length c159L0) [2,8] [(2,.ptr h.length 0 8 0 0),(8,.ptr (h.length + 1) 0 0 0 0)] (h++[.arr 0 8 [.agg [a0,a1,.int .i64 0,.int .i64 0,a4,a5,a6,a7]],.sit S (p + 1)])=some r) : roundsL (evC (callL cfg) roundsL cfg.pol h.length h.length c159L0) [2,8] [(2,.ptr h.length 0 8 0 0),(8,.ptr (h.length + 1) 0 0 0 0)] (h++[.arr 0 8 [.agg [a0,a1,a2,a3,a4,a5,a6,a7]],.sit S p])=some r:=by
 refine roundsL_k fun K hK=>?_
 simp [c159L0,hp,hd]
 rw [hK,ev]
theorem only_70 (S : ByteArray) (p : Nat) (hp : p < S.size) (hd : Utf8.decode S p=(70,1)) (h : Avm.H) (a0 a1 a2 a3 a4 a5 a6 a7 : AV) (r : Ex × Env × Avm.H)
    (ev : roundsL (evC (callL cfg) roundsL cfg.pol h.length h.length c159L0) [2,8] [(2,.ptr h.length 0 8 0 0),(8,.ptr (h.length + 1) 0 0 0 0)] (h++[.arr 0 8 [.agg [a0,a1,a2,a3,.bool false,a5,a6,a7]],.sit S (p + 1)])=some r) : roundsL (evC (callL cfg) roundsL cfg.pol h.length h.length c159L0) [2,8] [(2,.ptr h.length 0 8 0 0),(8,.ptr (h.length + 1) 0 0 0 0)] (h++[.arr 0 8 [.agg [a0,a1,a2,a3,a4,a5,a6,a7]],.sit S p])=some r:=by
 refine roundsL_k fun K hK=>?_
 simp [c159L0,hp,hd]
 rw [hK,ev]
theorem only_69 (S : ByteArray) (p : Nat) (hp : p < S.size) (hd : Utf8.decode S p=(69,1)) (h : Avm.H) (a0 a1 a2 a3 a4 a5 a6 a7 : AV) (r : Ex × Env × Avm.H)
    (ev : roundsL (evC (callL cfg) roundsL cfg.pol h.length h.length c159L0) [2,8] [(2,.ptr h.length 0 8 0 0),(8,.ptr (h.length + 1) 0 0 0 0)] (h++[.arr 0 8 [.agg [a0,a1,a2,a3,a4,.bool false,a6,a7]],.sit S (p + 1)])=some r) : roundsL (evC (callL cfg) roundsL cfg.pol h.length h.length c159L0) [2,8] [(2,.ptr h.length 0 8 0 0),(8,.ptr (h.length + 1) 0 0 0 0)] (h++[.arr 0 8 [.agg [a0,a1,a2,a3,a4,a5,a6,a7]],.sit S p])=some r:=by
 refine roundsL_k fun K hK=>?_
 simp [c159L0,hp,hd]
 rw [hK,ev]
theorem only_73 (S : ByteArray) (p : Nat) (hp : p < S.size) (hd : Utf8.decode S p=(73,1)) (h : Avm.H) (a0 a1 a2 a3 a4 a5 a6 a7 : AV) (r : Ex × Env × Avm.H)
    (ev : roundsL (evC (callL cfg) roundsL cfg.pol h.length h.length c159L0) [2,8] [(2,.ptr h.length 0 8 0 0),(8,.ptr (h.length + 1) 0 0 0 0)] (h++[.arr 0 8 [.agg [a0,a1,a2,a3,a4,a5,.isl [],a7]],.sit S (p + 1)])=some r) : roundsL (evC (callL cfg) roundsL cfg.pol h.length h.length c159L0) [2,8] [(2,.ptr h.length 0 8 0 0),(8,.ptr (h.length + 1) 0 0 0 0)] (h++[.arr 0 8 [.agg [a0,a1,a2,a3,a4,a5,a6,a7]],.sit S p])=some r:=by
 refine roundsL_k fun K hK=>?_
 simp [c159L0,hp,hd]
 rw [hK,ev]
theorem only_75 (S : ByteArray) (p : Nat) (hp : p < S.size) (hd : Utf8.decode S p=(75,1)) (h : Avm.H) (a0 a1 a2 a3 a4 a5 a6 a7 : AV) (r : Ex × Env × Avm.H)
    (ev : roundsL (evC (callL cfg) roundsL cfg.pol h.length h.length c159L0) [2,8] [(2,.ptr h.length 0 8 0 0),(8,.ptr (h.length + 1) 0 0 0 0)] (h++[.arr 0 8 [.agg [a0,a1,a2,a3,a4,a5,a6,.isl []]],.sit S (p + 1)])=some r) : roundsL (evC (callL cfg) roundsL cfg.pol h.length h.length c159L0) [2,8] [(2,.ptr h.length 0 8 0 0),(8,.ptr (h.length + 1) 0 0 0 0)] (h++[.arr 0 8 [.agg [a0,a1,a2,a3,a4,a5,a6,a7]],.sit S p])=some r:=by
 refine roundsL_k fun K hK=>?_
 simp [c159L0,hp,hd]
 rw [hK,ev]
theorem only_end (S : ByteArray) (p : Nat) (hp : ¬ p < S.size) (h : Avm.H) (a : AV) : roundsL (evC (callL cfg) roundsL cfg.pol h.length h.length c159L0) [2,8] [(2,.ptr h.length 0 8 0 0),(8,.ptr (h.length + 1) 0 0 0 0)] (h++[.arr 0 8 [a],.sit S p])=some (.exit 0,[(2,.ptr h.length 0 8 0 0),(8,.ptr (h.length + 1) 0 0 0 0)],h++[.arr 0 8 [a],.sit S p]):=by
 refine roundsL_k fun K hK=>?_
 simp [c159L0,hp]
def Ty.onone (t : Ty) : Bool:=t.n0 && (t.l0 && (t.h0 && (!t.free && (!t.ext && (t.i0 && (t.k0))))))
theorem onlynone_ok (t : Ty) (ht : t.wid≤67108864) (ws : Nat) (h : Avm.H) : callL cfg ws 159 [t.enc,.str ⟨#[]⟩] h=some (.bool t.onone,h):=by
 have hl : roundsL (evC (callL cfg) roundsL cfg.pol h.length h.length c159L0) [2,8] [(2,.ptr h.length 0 8 0 0),(8,.ptr (h.length + 1) 0 0 0 0)] (h++[.arr 0 8 [.agg [.int .i64 t.kind,.str t.name,.int .i64 t.lo,.int .i64 t.hi,.bool t.free,.bool t.ext,.isl (t.items.map It.enc),.isl (t.kids.map Ty.enc)]],.sit ⟨#[]⟩ 0])=some (.exit 0,[(2,.ptr h.length 0 8 0 0),(8,.ptr (h.length + 1) 0 0 0 0)],h++[.arr 0 8 [.agg [.int .i64 t.kind,.str t.name,.int .i64 t.lo,.int .i64 t.hi,.bool t.free,.bool t.ext,.isl (t.items.map It.enc),.isl (t.kids.map Ty.enc)]],.sit ⟨#[]⟩ 0]):=only_end _ _ (by decide) _ _
 have hs:=fun ws h=>sameType_ok (.mk t.kind t.name t.lo t.hi t.free t.ext t.items t.kids) (.mk t.kind ⟨#[]⟩ 0 0 false false [] []) (by have h1:=ht; have hz : (⟨#[]⟩ : ByteArray).size=0:=rfl; rw [Ty.wid_eq] at h1 ⊢; simp [It.widL,Ty.widL,hz]; omega) ws h
 have hsb:=same_bare (.mk t.kind t.name t.lo t.hi t.free t.ext t.items t.kids) t.kind rfl
 simp only [hsb] at hs
 refine callL_fn rfl rfl ?_
 simp [Ty.n0,Ty.l0,Ty.h0,Ty.i0,Ty.k0,eqS] at hs
 simp [F159,c159,hl,hs,Ty.onone,Ty.n0,Ty.l0,Ty.h0,Ty.i0,Ty.k0,eqS]
 first | done | rfl | (congr <;> exact Subsingleton.elim _ _)
def Ty.oLFE (t : Ty) : Bool:=t.n0 && (t.i0 && (t.k0))
theorem onlyLFE_ok (t : Ty) (ht : t.wid≤67108864) (ws : Nat) (h : Avm.H) : callL cfg ws 159 [t.enc,.str ⟨#[76,70,69]⟩] h=some (.bool t.oLFE,h):=by
 have hl : roundsL (evC (callL cfg) roundsL cfg.pol h.length h.length c159L0) [2,8] [(2,.ptr h.length 0 8 0 0),(8,.ptr (h.length + 1) 0 0 0 0)] (h++[.arr 0 8 [.agg [.int .i64 t.kind,.str t.name,.int .i64 t.lo,.int .i64 t.hi,.bool t.free,.bool t.ext,.isl (t.items.map It.enc),.isl (t.kids.map Ty.enc)]],.sit ⟨#[76,70,69]⟩ 0])=some (.exit 0,[(2,.ptr h.length 0 8 0 0),(8,.ptr (h.length + 1) 0 0 0 0)],h++[.arr 0 8 [.agg [.int .i64 t.kind,.str t.name,.int .i64 0,.int .i64 0,.bool false,.bool false,.isl (t.items.map It.enc),.isl (t.kids.map Ty.enc)]],.sit ⟨#[76,70,69]⟩ 3]):=only_76 ⟨#[76,70,69]⟩ 0 (by decide) (by decide +kernel) h _ _ _ _ _ _ _ _ _ (only_70 ⟨#[76,70,69]⟩ 1 (by decide) (by decide +kernel) h _ _ _ _ _ _ _ _ _ (only_69 ⟨#[76,70,69]⟩ 2 (by decide) (by decide +kernel) h _ _ _ _ _ _ _ _ _ (only_end _ _ (by decide) _ _)))
 have hs:=fun ws h=>sameType_ok (.mk t.kind t.name 0 0 false false t.items t.kids) (.mk t.kind ⟨#[]⟩ 0 0 false false [] []) (by have h1:=ht; have hz : (⟨#[]⟩ : ByteArray).size=0:=rfl; rw [Ty.wid_eq] at h1 ⊢; simp [It.widL,Ty.widL,hz]; omega) ws h
 have hsb:=same_bare (.mk t.kind t.name 0 0 false false t.items t.kids) t.kind rfl
 simp only [hsb] at hs
 refine callL_fn rfl rfl ?_
 simp [Ty.n0,Ty.l0,Ty.h0,Ty.i0,Ty.k0,eqS] at hs
 simp [F159,c159,hl,hs,Ty.oLFE,Ty.n0,Ty.l0,Ty.h0,Ty.i0,Ty.k0,eqS]
 first | done | rfl | (congr <;> exact Subsingleton.elim _ _)
def Ty.oEI (t : Ty) : Bool:=t.n0 && (t.l0 && (t.h0 && (!t.free && (t.k0))))
theorem onlyEI_ok (t : Ty) (ht : t.wid≤67108864) (ws : Nat) (h : Avm.H) : callL cfg ws 159 [t.enc,.str ⟨#[69,73]⟩] h=some (.bool t.oEI,h):=by
 have hl : roundsL (evC (callL cfg) roundsL cfg.pol h.length h.length c159L0) [2,8] [(2,.ptr h.length 0 8 0 0),(8,.ptr (h.length + 1) 0 0 0 0)] (h++[.arr 0 8 [.agg [.int .i64 t.kind,.str t.name,.int .i64 t.lo,.int .i64 t.hi,.bool t.free,.bool t.ext,.isl (t.items.map It.enc),.isl (t.kids.map Ty.enc)]],.sit ⟨#[69,73]⟩ 0])=some (.exit 0,[(2,.ptr h.length 0 8 0 0),(8,.ptr (h.length + 1) 0 0 0 0)],h++[.arr 0 8 [.agg [.int .i64 t.kind,.str t.name,.int .i64 t.lo,.int .i64 t.hi,.bool t.free,.bool false,.isl [],.isl (t.kids.map Ty.enc)]],.sit ⟨#[69,73]⟩ 2]):=only_69 ⟨#[69,73]⟩ 0 (by decide) (by decide +kernel) h _ _ _ _ _ _ _ _ _ (only_73 ⟨#[69,73]⟩ 1 (by decide) (by decide +kernel) h _ _ _ _ _ _ _ _ _ (only_end _ _ (by decide) _ _))
 have hs:=fun ws h=>sameType_ok (.mk t.kind t.name t.lo t.hi t.free false [] t.kids) (.mk t.kind ⟨#[]⟩ 0 0 false false [] []) (by have h1:=ht; have hz : (⟨#[]⟩ : ByteArray).size=0:=rfl; rw [Ty.wid_eq] at h1 ⊢; simp [It.widL,Ty.widL,hz]; omega) ws h
 have hsb:=same_bare (.mk t.kind t.name t.lo t.hi t.free false [] t.kids) t.kind rfl
 simp only [hsb] at hs
 refine callL_fn rfl rfl ?_
 simp [Ty.n0,Ty.l0,Ty.h0,Ty.i0,Ty.k0,eqS] at hs
 simp [F159,c159,hl,hs,Ty.oEI,Ty.n0,Ty.l0,Ty.h0,Ty.i0,Ty.k0,eqS]
 first | done | rfl | (congr <;> exact Subsingleton.elim _ _)
def Ty.oLFEK (t : Ty) : Bool:=t.n0 && (t.i0)
theorem onlyLFEK_ok (t : Ty) (ht : t.wid≤67108864) (ws : Nat) (h : Avm.H) : callL cfg ws 159 [t.enc,.str ⟨#[76,70,69,75]⟩] h=some (.bool t.oLFEK,h):=by
 have hl : roundsL (evC (callL cfg) roundsL cfg.pol h.length h.length c159L0) [2,8] [(2,.ptr h.length 0 8 0 0),(8,.ptr (h.length + 1) 0 0 0 0)] (h++[.arr 0 8 [.agg [.int .i64 t.kind,.str t.name,.int .i64 t.lo,.int .i64 t.hi,.bool t.free,.bool t.ext,.isl (t.items.map It.enc),.isl (t.kids.map Ty.enc)]],.sit ⟨#[76,70,69,75]⟩ 0])=some (.exit 0,[(2,.ptr h.length 0 8 0 0),(8,.ptr (h.length + 1) 0 0 0 0)],h++[.arr 0 8 [.agg [.int .i64 t.kind,.str t.name,.int .i64 0,.int .i64 0,.bool false,.bool false,.isl (t.items.map It.enc),.isl []]],.sit ⟨#[76,70,69,75]⟩ 4]):=only_76 ⟨#[76,70,69,75]⟩ 0 (by decide) (by decide +kernel) h _ _ _ _ _ _ _ _ _ (only_70 ⟨#[76,70,69,75]⟩ 1 (by decide) (by decide +kernel) h _ _ _ _ _ _ _ _ _ (only_69 ⟨#[76,70,69,75]⟩ 2 (by decide) (by decide +kernel) h _ _ _ _ _ _ _ _ _ (only_75 ⟨#[76,70,69,75]⟩ 3 (by decide) (by decide +kernel) h _ _ _ _ _ _ _ _ _ (only_end _ _ (by decide) _ _))))
 have hs:=fun ws h=>sameType_ok (.mk t.kind t.name 0 0 false false t.items []) (.mk t.kind ⟨#[]⟩ 0 0 false false [] []) (by have h1:=ht; have hz : (⟨#[]⟩ : ByteArray).size=0:=rfl; rw [Ty.wid_eq] at h1 ⊢; simp [It.widL,Ty.widL,hz]; omega) ws h
 have hsb:=same_bare (.mk t.kind t.name 0 0 false false t.items []) t.kind rfl
 simp only [hsb] at hs
 refine callL_fn rfl rfl ?_
 simp [Ty.n0,Ty.l0,Ty.h0,Ty.i0,Ty.k0,eqS] at hs
 simp [F159,c159,hl,hs,Ty.oLFEK,Ty.n0,Ty.l0,Ty.h0,Ty.i0,Ty.k0,eqS]
 first | done | rfl | (congr <;> exact Subsingleton.elim _ _)
def Ty.oNK (t : Ty) : Bool:=t.l0 && (t.h0 && (!t.free && (!t.ext && (t.i0))))
theorem onlyNK_ok (t : Ty) (ht : t.wid≤67108864) (ws : Nat) (h : Avm.H) : callL cfg ws 159 [t.enc,.str ⟨#[78,75]⟩] h=some (.bool t.oNK,h):=by
 have hl : roundsL (evC (callL cfg) roundsL cfg.pol h.length h.length c159L0) [2,8] [(2,.ptr h.length 0 8 0 0),(8,.ptr (h.length + 1) 0 0 0 0)] (h++[.arr 0 8 [.agg [.int .i64 t.kind,.str t.name,.int .i64 t.lo,.int .i64 t.hi,.bool t.free,.bool t.ext,.isl (t.items.map It.enc),.isl (t.kids.map Ty.enc)]],.sit ⟨#[78,75]⟩ 0])=some (.exit 0,[(2,.ptr h.length 0 8 0 0),(8,.ptr (h.length + 1) 0 0 0 0)],h++[.arr 0 8 [.agg [.int .i64 t.kind,.str ⟨#[]⟩,.int .i64 t.lo,.int .i64 t.hi,.bool t.free,.bool t.ext,.isl (t.items.map It.enc),.isl []]],.sit ⟨#[78,75]⟩ 2]):=only_78 ⟨#[78,75]⟩ 0 (by decide) (by decide +kernel) h _ _ _ _ _ _ _ _ _ (only_75 ⟨#[78,75]⟩ 1 (by decide) (by decide +kernel) h _ _ _ _ _ _ _ _ _ (only_end _ _ (by decide) _ _))
 have hs:=fun ws h=>sameType_ok (.mk t.kind ⟨#[]⟩ t.lo t.hi t.free t.ext t.items []) (.mk t.kind ⟨#[]⟩ 0 0 false false [] []) (by have h1:=ht; have hz : (⟨#[]⟩ : ByteArray).size=0:=rfl; rw [Ty.wid_eq] at h1 ⊢; simp [It.widL,Ty.widL,hz]; omega) ws h
 have hsb:=same_bare (.mk t.kind ⟨#[]⟩ t.lo t.hi t.free t.ext t.items []) t.kind rfl
 simp only [hsb] at hs
 refine callL_fn rfl rfl ?_
 simp [Ty.n0,Ty.l0,Ty.h0,Ty.i0,Ty.k0,eqS] at hs
 simp [F159,c159,hl,hs,Ty.oNK,Ty.n0,Ty.l0,Ty.h0,Ty.i0,Ty.k0,eqS]
 first | done | rfl | (congr <;> exact Subsingleton.elim _ _)
def rngP (t : Ty) (a b : Int) : Bool:=if t.free then decide (t.lo=0) && (decide (t.hi=0) && !t.ext) else decide (a≤t.lo) && (decide (t.lo≤t.hi) && decide (t.hi≤b))
theorem ranged_ok (t : Ty) (a b : Int) (ws : Nat) (h : Avm.H) : callL cfg ws 160 [t.enc,.int .i64 a,.int .i64 b] h=some (.bool (rngP t a b),h):=by
 refine callL_fn rfl rfl ?_
 cases hf : t.free <;> simp [F160,c160,hf,rngP,Bool.and_assoc]
theorem indexI_ok {g : FuncId} {p : It→Bool} (l : List It) (hl : l.length≤67108864) (hs : Still cfg g) (hp : ∀ x ∈ l,∀ ws h',callL cfg ws g [x.enc] h'=some (.bool (p x),h')) (ws : Nat) (h : Avm.H) :
    callL cfg ws 211 [.isl (l.map It.enc),.clos g 0 []] h=some (.int .i64 (idxOf p l),h):=
 indexFunc_gen (sz:=12) (ag:=true) rfl rfl hl (by simp) (It.henc l) hs rfl (by simpa using hp) ws
theorem containsI_ok {g : FuncId} {k : Nat} {p : It→Bool} {cap cap' : List AV} (l : List It) (hl : l.length≤67108864) (hs : Still cfg g) (h : Avm.H) (hcap : snapL (snap h 7) cap=some cap') (hcp : pureL cap'=true) (hp : ∀ x ∈ l,∀ ws h',callL cfg ws g (cap'.take k++([x.enc]++cap'.drop k)) h'=some (.bool (p x),h')) (ws : Nat) :
    callL cfg ws 131 [.isl (l.map It.enc),.clos g k cap] h=some (.bool (l.any p),h):=
 containsFunc_gen (K:=211) (sz:=12) (ag:=true) rfl rfl rfl rfl hl (by simp) (It.henc l) hs hcap hcp hp ws
theorem items1_ok (x : It) (ws : Nat) (h : Avm.H) : callL cfg ws 232 [x.enc] h=some (.bool x.extra,h):=by
 refine callL_fn rfl rfl ?_
 simp [F232,c232]
theorem items2_ok (x : It) (ws : Nat) (h : Avm.H) : callL cfg ws 233 [x.enc] h=some (.bool (!x.extra),h):=by
 refine callL_fn rfl rfl ?_
 simp [F233,c233]
def itP (t : Ty) (least : Int) : Bool:=match t.items.findIdx? It.extra with
 | none=>decide (least≤t.items.length)
 | some j=>t.ext && (decide (least≤(j : Int)) && (t.items.drop j).all It.extra)
theorem items_ok (t : Ty) (ht : t.wid≤67108864) (least : Int) (ws : Nat) (h : Avm.H) : callL cfg ws 161 [t.enc,.int .i64 least] h=some (.bool (itP t least),h):=by
 have hwi:=t.wid_items
 have h1:=fun ws h=>indexI_ok (g:=232) t.items (by omega) (.inl rfl) (fun x _ ws h=>items1_ok x ws h) ws h
 have h2:=fun j ws h=>containsI_ok (g:=233) (k:=0) (cap:=[]) (t.items.drop j) (by simp; omega) (.inl rfl) h rfl rfl (fun x _ ws h=>items2_ok x ws h) ws
 refine callL_fn rfl rfl ?_
 unfold itP
 unfold idxOf at h1
 cases hq : t.items.findIdx? It.extra with
 | none=>
  rw [hq] at h1
  simp [F161,c161,h1]
 | some j=>
  rw [hq] at h1
  have hj : j≤t.items.length:=by
   rw [List.findIdx?_eq_some_iff_getElem] at hq
   obtain ⟨hj,_⟩:=hq
   omega
  simp only [List.map_drop,any_not] at h2
  have hso : szOk 12 (t.items.map It.enc)=true:=by simp [szOk]
  have hjz : ¬ (j : Int) < 0:=by omega
  simp [F161,c161,h1,slcI,hso,hj,h2]
  first | done | rw [Bool.and_assoc]
end Go.Proofs.YtflbneepngjglaaGreatDoor
