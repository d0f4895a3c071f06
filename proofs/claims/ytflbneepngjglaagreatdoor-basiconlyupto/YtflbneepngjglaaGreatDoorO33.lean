/- Types with the fields of their kinds: the program's way. -/
import Derived.Test.YtflbneepngjglaaGreatDoorO32
set_option linter.all false
namespace Go.Proofs.YtflbneepngjglaaGreatDoor
open Go Go.Avm
def Ty.zero:Ty:=.mk 0 ⟨#[]⟩ 0 0 false false [] []
def Ty.n0(t:Ty):Bool:=eqS t.name ⟨#[]⟩
def Ty.l0(t:Ty):Bool:=decide (t.lo=0)
def Ty.h0(t:Ty):Bool:=decide (t.hi=0)
def Ty.i0(t:Ty):Bool:=t.items.isEmpty
def Ty.k0(t:Ty):Bool:=t.kids.isEmpty
theorem tl0 :(⟨#[]⟩:ByteArray).toList=[]:=by rw[ByteArray.toList_eq]
theorem Qxy {α:Type}(p:α->α->Bool)(l:List α):eqL p l []=l.isEmpty:=by cases l<;>simp[eqL]
theorem YI (t:Ty)(k:Int)(hk:t.kind=k):t.same (.mk k ⟨#[]⟩ 0 0 false false [] [])=(t.n0&&(t.l0&&(t.h0&&(!t.free&&(!t.ext&&(t.i0&&t.k0)))))):=by
 rw[Ty.Xu];simp only[Ty.QaI,Ty.Zq,Ty.QcK,Ty.QcN,Ty.Ye,Ty.We,Ty.Xl,Ty.ZC,Qxy,hk,decide_true,Bool.true_and];unfold Ty.n0 Ty.l0 Ty.h0 Ty.i0 Ty.k0;cases t.free<;>cases t.ext<;>rfl
theorem QwV (S:ByteArray)(p:Nat)(hp:p<S.size)(hd:Utf8.decode S p=(78,1))(h:Avm.H)(a0 a1 a2 a3 a4 a5 a6 a7:AV)(r:Ex×Env×Avm.H)
    (ev:Qa (evC (Qb cfg) Qa cfg.pol h.length h.length Xy) [2,8] [(2,.ptr h.length 0 8 0 0),(8,.ptr (h.length+1) 0 0 0 0)] (h++ [.arr 0 8 [.agg [a0,.str ⟨#[]⟩,a2,a3,a4,a5,a6,a7]],.sit S (p+1)])=some r):Qa (evC (Qb cfg) Qa cfg.pol h.length h.length Xy) [2,8] [(2,.ptr h.length 0 8 0 0),(8,.ptr (h.length+1) 0 0 0 0)] (h++ [.arr 0 8 [.agg [a0,a1,a2,a3,a4,a5,a6,a7]],.sit S p])=some r:=by
 refine QG fun K hK=>?_
 simp[Xy,hp,hd];rw[hK,ev]
theorem QqI (S:ByteArray)(p:Nat)(hp:p<S.size)(hd:Utf8.decode S p=(76,1))(h:Avm.H)(a0 a1 a2 a3 a4 a5 a6 a7:AV)(r:Ex×Env×Avm.H)
    (ev:Qa (evC (Qb cfg) Qa cfg.pol h.length h.length Xy) [2,8] [(2,.ptr h.length 0 8 0 0),(8,.ptr (h.length+1) 0 0 0 0)] (h++ [.arr 0 8 [.agg [a0,a1,.int .i64 0,.int .i64 0,a4,a5,a6,a7]],.sit S (p+1)])=some r):Qa (evC (Qb cfg) Qa cfg.pol h.length h.length Xy) [2,8] [(2,.ptr h.length 0 8 0 0),(8,.ptr (h.length+1) 0 0 0 0)] (h++ [.arr 0 8 [.agg [a0,a1,a2,a3,a4,a5,a6,a7]],.sit S p])=some r:=by
 refine QG fun K hK=>?_
 simp[Xy,hp,hd];rw[hK,ev]
theorem QqK (S:ByteArray)(p:Nat)(hp:p<S.size)(hd:Utf8.decode S p=(70,1))(h:Avm.H)(a0 a1 a2 a3 a4 a5 a6 a7:AV)(r:Ex×Env×Avm.H)
    (ev:Qa (evC (Qb cfg) Qa cfg.pol h.length h.length Xy) [2,8] [(2,.ptr h.length 0 8 0 0),(8,.ptr (h.length+1) 0 0 0 0)] (h++ [.arr 0 8 [.agg [a0,a1,a2,a3,.bool false,a5,a6,a7]],.sit S (p+1)])=some r):Qa (evC (Qb cfg) Qa cfg.pol h.length h.length Xy) [2,8] [(2,.ptr h.length 0 8 0 0),(8,.ptr (h.length+1) 0 0 0 0)] (h++ [.arr 0 8 [.agg [a0,a1,a2,a3,a4,a5,a6,a7]],.sit S p])=some r:=by
 refine QG fun K hK=>?_
 simp[Xy,hp,hd];rw[hK,ev]
theorem Qlv (S:ByteArray)(p:Nat)(hp:p<S.size)(hd:Utf8.decode S p=(69,1))(h:Avm.H)(a0 a1 a2 a3 a4 a5 a6 a7:AV)(r:Ex×Env×Avm.H)
    (ev:Qa (evC (Qb cfg) Qa cfg.pol h.length h.length Xy) [2,8] [(2,.ptr h.length 0 8 0 0),(8,.ptr (h.length+1) 0 0 0 0)] (h++ [.arr 0 8 [.agg [a0,a1,a2,a3,a4,.bool false,a6,a7]],.sit S (p+1)])=some r):Qa (evC (Qb cfg) Qa cfg.pol h.length h.length Xy) [2,8] [(2,.ptr h.length 0 8 0 0),(8,.ptr (h.length+1) 0 0 0 0)] (h++ [.arr 0 8 [.agg [a0,a1,a2,a3,a4,a5,a6,a7]],.sit S p])=some r:=by
 refine QG fun K hK=>?_
 simp[Xy,hp,hd];rw[hK,ev]
theorem QwW (S:ByteArray)(p:Nat)(hp:p<S.size)(hd:Utf8.decode S p=(73,1))(h:Avm.H)(a0 a1 a2 a3 a4 a5 a6 a7:AV)(r:Ex×Env×Avm.H)
    (ev:Qa (evC (Qb cfg) Qa cfg.pol h.length h.length Xy) [2,8] [(2,.ptr h.length 0 8 0 0),(8,.ptr (h.length+1) 0 0 0 0)] (h++ [.arr 0 8 [.agg [a0,a1,a2,a3,a4,a5,.isl [],a7]],.sit S (p+1)])=some r):Qa (evC (Qb cfg) Qa cfg.pol h.length h.length Xy) [2,8] [(2,.ptr h.length 0 8 0 0),(8,.ptr (h.length+1) 0 0 0 0)] (h++ [.arr 0 8 [.agg [a0,a1,a2,a3,a4,a5,a6,a7]],.sit S p])=some r:=by
 refine QG fun K hK=>?_
 simp[Xy,hp,hd];rw[hK,ev]
theorem QqJ (S:ByteArray)(p:Nat)(hp:p<S.size)(hd:Utf8.decode S p=(75,1))(h:Avm.H)(a0 a1 a2 a3 a4 a5 a6 a7:AV)(r:Ex×Env×Avm.H)
    (ev:Qa (evC (Qb cfg) Qa cfg.pol h.length h.length Xy) [2,8] [(2,.ptr h.length 0 8 0 0),(8,.ptr (h.length+1) 0 0 0 0)] (h++ [.arr 0 8 [.agg [a0,a1,a2,a3,a4,a5,a6,.isl []]],.sit S (p+1)])=some r):Qa (evC (Qb cfg) Qa cfg.pol h.length h.length Xy) [2,8] [(2,.ptr h.length 0 8 0 0),(8,.ptr (h.length+1) 0 0 0 0)] (h++ [.arr 0 8 [.agg [a0,a1,a2,a3,a4,a5,a6,a7]],.sit S p])=some r:=by
 refine QG fun K hK=>?_
 simp[Xy,hp,hd];rw[hK,ev]
theorem Qbx (S:ByteArray)(p:Nat)(hp: ¬p<S.size)(h:Avm.H)(a:AV):Qa (evC (Qb cfg) Qa cfg.pol h.length h.length Xy) [2,8] [(2,.ptr h.length 0 8 0 0),(8,.ptr (h.length+1) 0 0 0 0)] (h++ [.arr 0 8 [a],.sit S p])=some (.exit 0,[(2,.ptr h.length 0 8 0 0),(8,.ptr (h.length+1) 0 0 0 0)],h++ [.arr 0 8 [a],.sit S p]):=by
 refine QG fun K hK=>?_
 simp[Xy,hp]
def Ty.Jy(t:Ty):Bool:=t.n0&&(t.l0&&(t.h0&&(!t.free&&(!t.ext&&(t.i0&&(t.k0))))))
theorem Ws (t:Ty)(ht:t.wid<=67108864)(ws:Nat)(h:Avm.H):Qb cfg ws 159 [t.enc,.str ⟨#[]⟩] h=some (.bool t.Jy,h):=by
 have hl:Qa (evC (Qb cfg) Qa cfg.pol h.length h.length Xy) [2,8] [(2,.ptr h.length 0 8 0 0),(8,.ptr (h.length+1) 0 0 0 0)] (h++ [.arr 0 8 [.agg [.int .i64 t.kind,.str t.name,.int .i64 t.lo,.int .i64 t.hi,.bool t.free,.bool t.ext,.isl (t.items.map It.enc),.isl (t.kids.map Ty.enc)]],.sit ⟨#[]⟩ 0])=some (.exit 0,[(2,.ptr h.length 0 8 0 0),(8,.ptr (h.length+1) 0 0 0 0)],h++ [.arr 0 8 [.agg [.int .i64 t.kind,.str t.name,.int .i64 t.lo,.int .i64 t.hi,.bool t.free,.bool t.ext,.isl (t.items.map It.enc),.isl (t.kids.map Ty.enc)]],.sit ⟨#[]⟩ 0]):=Qbx _ _ (by decide) _ _
 have hs:=fun ws h=>ZK (.mk t.kind t.name t.lo t.hi t.free t.ext t.items t.kids) (.mk t.kind ⟨#[]⟩ 0 0 false false [] []) (by have h1:=ht; have hz:(⟨#[]⟩:ByteArray).size=0:=rfl; rw[Ty.Xp]at h1 ⊢; simp[It.XV,Ty.XV,hz]; omega) ws h
 have hsb:=YI (.mk t.kind t.name t.lo t.hi t.free t.ext t.items t.kids) t.kind rfl;simp only[hsb]at hs;refine Qc rfl rfl ?_
 simp[Ty.n0,Ty.l0,Ty.h0,Ty.i0,Ty.k0,eqS]at hs;simp[Qtu,Qtl,hl,hs,Ty.Jy,Ty.n0,Ty.l0,Ty.h0,Ty.i0,Ty.k0,eqS]
 first | done | rfl | (congr<;>exact Subsingleton.elim _ _)
def Ty.Qby(t:Ty):Bool:=t.n0&&(t.i0&&(t.k0))
theorem Qdd (t:Ty)(ht:t.wid<=67108864)(ws:Nat)(h:Avm.H):Qb cfg ws 159 [t.enc,.str ⟨#[76,70,69]⟩] h=some (.bool t.Qby,h):=by
 have hl:Qa (evC (Qb cfg) Qa cfg.pol h.length h.length Xy) [2,8] [(2,.ptr h.length 0 8 0 0),(8,.ptr (h.length+1) 0 0 0 0)] (h++ [.arr 0 8 [.agg [.int .i64 t.kind,.str t.name,.int .i64 t.lo,.int .i64 t.hi,.bool t.free,.bool t.ext,.isl (t.items.map It.enc),.isl (t.kids.map Ty.enc)]],.sit ⟨#[76,70,69]⟩ 0])=some (.exit 0,[(2,.ptr h.length 0 8 0 0),(8,.ptr (h.length+1) 0 0 0 0)],h++ [.arr 0 8 [.agg [.int .i64 t.kind,.str t.name,.int .i64 0,.int .i64 0,.bool false,.bool false,.isl (t.items.map It.enc),.isl (t.kids.map Ty.enc)]],.sit ⟨#[76,70,69]⟩ 3]):=QqI ⟨#[76,70,69]⟩ 0 (by decide) (by decide+kernel) h _ _ _ _ _ _ _ _ _ (QqK ⟨#[76,70,69]⟩ 1 (by decide) (by decide+kernel) h _ _ _ _ _ _ _ _ _ (Qlv ⟨#[76,70,69]⟩ 2 (by decide) (by decide+kernel) h _ _ _ _ _ _ _ _ _ (Qbx _ _ (by decide) _ _)))
 have hs:=fun ws h=>ZK (.mk t.kind t.name 0 0 false false t.items t.kids) (.mk t.kind ⟨#[]⟩ 0 0 false false [] []) (by have h1:=ht; have hz:(⟨#[]⟩:ByteArray).size=0:=rfl; rw[Ty.Xp]at h1 ⊢; simp[It.XV,Ty.XV,hz]; omega) ws h
 have hsb:=YI (.mk t.kind t.name 0 0 false false t.items t.kids) t.kind rfl;simp only[hsb]at hs;refine Qc rfl rfl ?_
 simp[Ty.n0,Ty.l0,Ty.h0,Ty.i0,Ty.k0,eqS]at hs;simp[Qtu,Qtl,hl,hs,Ty.Qby,Ty.n0,Ty.l0,Ty.h0,Ty.i0,Ty.k0,eqS]
 first | done | rfl | (congr<;>exact Subsingleton.elim _ _)
def Ty.oEI(t:Ty):Bool:=t.n0&&(t.l0&&(t.h0&&(!t.free&&(t.k0))))
theorem QeO (t:Ty)(ht:t.wid<=67108864)(ws:Nat)(h:Avm.H):Qb cfg ws 159 [t.enc,.str ⟨#[69,73]⟩] h=some (.bool t.oEI,h):=by
 have hl:Qa (evC (Qb cfg) Qa cfg.pol h.length h.length Xy) [2,8] [(2,.ptr h.length 0 8 0 0),(8,.ptr (h.length+1) 0 0 0 0)] (h++ [.arr 0 8 [.agg [.int .i64 t.kind,.str t.name,.int .i64 t.lo,.int .i64 t.hi,.bool t.free,.bool t.ext,.isl (t.items.map It.enc),.isl (t.kids.map Ty.enc)]],.sit ⟨#[69,73]⟩ 0])=some (.exit 0,[(2,.ptr h.length 0 8 0 0),(8,.ptr (h.length+1) 0 0 0 0)],h++ [.arr 0 8 [.agg [.int .i64 t.kind,.str t.name,.int .i64 t.lo,.int .i64 t.hi,.bool t.free,.bool false,.isl [],.isl (t.kids.map Ty.enc)]],.sit ⟨#[69,73]⟩ 2]):=Qlv ⟨#[69,73]⟩ 0 (by decide) (by decide+kernel) h _ _ _ _ _ _ _ _ _ (QwW ⟨#[69,73]⟩ 1 (by decide) (by decide+kernel) h _ _ _ _ _ _ _ _ _ (Qbx _ _ (by decide) _ _))
 have hs:=fun ws h=>ZK (.mk t.kind t.name t.lo t.hi t.free false [] t.kids) (.mk t.kind ⟨#[]⟩ 0 0 false false [] []) (by have h1:=ht; have hz:(⟨#[]⟩:ByteArray).size=0:=rfl; rw[Ty.Xp]at h1 ⊢; simp[It.XV,Ty.XV,hz]; omega) ws h
 have hsb:=YI (.mk t.kind t.name t.lo t.hi t.free false [] t.kids) t.kind rfl;simp only[hsb]at hs;refine Qc rfl rfl ?_
 simp[Ty.n0,Ty.l0,Ty.h0,Ty.i0,Ty.k0,eqS]at hs;simp[Qtu,Qtl,hl,hs,Ty.oEI,Ty.n0,Ty.l0,Ty.h0,Ty.i0,Ty.k0,eqS]
 first | done | rfl | (congr<;>exact Subsingleton.elim _ _)
def Ty.Qec(t:Ty):Bool:=t.n0&&(t.i0)
theorem Qng (t:Ty)(ht:t.wid<=67108864)(ws:Nat)(h:Avm.H):Qb cfg ws 159 [t.enc,.str ⟨#[76,70,69,75]⟩] h=some (.bool t.Qec,h):=by
 have hl:Qa (evC (Qb cfg) Qa cfg.pol h.length h.length Xy) [2,8] [(2,.ptr h.length 0 8 0 0),(8,.ptr (h.length+1) 0 0 0 0)] (h++ [.arr 0 8 [.agg [.int .i64 t.kind,.str t.name,.int .i64 t.lo,.int .i64 t.hi,.bool t.free,.bool t.ext,.isl (t.items.map It.enc),.isl (t.kids.map Ty.enc)]],.sit ⟨#[76,70,69,75]⟩ 0])=some (.exit 0,[(2,.ptr h.length 0 8 0 0),(8,.ptr (h.length+1) 0 0 0 0)],h++ [.arr 0 8 [.agg [.int .i64 t.kind,.str t.name,.int .i64 0,.int .i64 0,.bool false,.bool false,.isl (t.items.map It.enc),.isl []]],.sit ⟨#[76,70,69,75]⟩ 4]):=QqI ⟨#[76,70,69,75]⟩ 0 (by decide) (by decide+kernel) h _ _ _ _ _ _ _ _ _ (QqK ⟨#[76,70,69,75]⟩ 1 (by decide) (by decide+kernel) h _ _ _ _ _ _ _ _ _ (Qlv ⟨#[76,70,69,75]⟩ 2 (by decide) (by decide+kernel) h _ _ _ _ _ _ _ _ _ (QqJ ⟨#[76,70,69,75]⟩ 3 (by decide) (by decide+kernel) h _ _ _ _ _ _ _ _ _ (Qbx _ _ (by decide) _ _))))
 have hs:=fun ws h=>ZK (.mk t.kind t.name 0 0 false false t.items []) (.mk t.kind ⟨#[]⟩ 0 0 false false [] []) (by have h1:=ht; have hz:(⟨#[]⟩:ByteArray).size=0:=rfl; rw[Ty.Xp]at h1 ⊢; simp[It.XV,Ty.XV,hz]; omega) ws h
 have hsb:=YI (.mk t.kind t.name 0 0 false false t.items []) t.kind rfl;simp only[hsb]at hs;refine Qc rfl rfl ?_
 simp[Ty.n0,Ty.l0,Ty.h0,Ty.i0,Ty.k0,eqS]at hs;simp[Qtu,Qtl,hl,hs,Ty.Qec,Ty.n0,Ty.l0,Ty.h0,Ty.i0,Ty.k0,eqS]
 first | done | rfl | (congr<;>exact Subsingleton.elim _ _)
def Ty.oNK(t:Ty):Bool:=t.l0&&(t.h0&&(!t.free&&(!t.ext&&(t.i0))))
theorem Qsj (t:Ty)(ht:t.wid<=67108864)(ws:Nat)(h:Avm.H):Qb cfg ws 159 [t.enc,.str ⟨#[78,75]⟩] h=some (.bool t.oNK,h):=by
 have hl:Qa (evC (Qb cfg) Qa cfg.pol h.length h.length Xy) [2,8] [(2,.ptr h.length 0 8 0 0),(8,.ptr (h.length+1) 0 0 0 0)] (h++ [.arr 0 8 [.agg [.int .i64 t.kind,.str t.name,.int .i64 t.lo,.int .i64 t.hi,.bool t.free,.bool t.ext,.isl (t.items.map It.enc),.isl (t.kids.map Ty.enc)]],.sit ⟨#[78,75]⟩ 0])=some (.exit 0,[(2,.ptr h.length 0 8 0 0),(8,.ptr (h.length+1) 0 0 0 0)],h++ [.arr 0 8 [.agg [.int .i64 t.kind,.str ⟨#[]⟩,.int .i64 t.lo,.int .i64 t.hi,.bool t.free,.bool t.ext,.isl (t.items.map It.enc),.isl []]],.sit ⟨#[78,75]⟩ 2]):=QwV ⟨#[78,75]⟩ 0 (by decide) (by decide+kernel) h _ _ _ _ _ _ _ _ _ (QqJ ⟨#[78,75]⟩ 1 (by decide) (by decide+kernel) h _ _ _ _ _ _ _ _ _ (Qbx _ _ (by decide) _ _))
 have hs:=fun ws h=>ZK (.mk t.kind ⟨#[]⟩ t.lo t.hi t.free t.ext t.items []) (.mk t.kind ⟨#[]⟩ 0 0 false false [] []) (by have h1:=ht; have hz:(⟨#[]⟩:ByteArray).size=0:=rfl; rw[Ty.Xp]at h1 ⊢; simp[It.XV,Ty.XV,hz]; omega) ws h
 have hsb:=YI (.mk t.kind ⟨#[]⟩ t.lo t.hi t.free t.ext t.items []) t.kind rfl;simp only[hsb]at hs;refine Qc rfl rfl ?_
 simp[Ty.n0,Ty.l0,Ty.h0,Ty.i0,Ty.k0,eqS]at hs;simp[Qtu,Qtl,hl,hs,Ty.oNK,Ty.n0,Ty.l0,Ty.h0,Ty.i0,Ty.k0,eqS]
 first | done | rfl | (congr<;>exact Subsingleton.elim _ _)
def XI (t:Ty)(a b:Int):Bool:=if t.free then decide (t.lo=0)&&(decide (t.hi=0)&& !t.ext)else decide (a<=t.lo)&&(decide (t.lo<=t.hi)&&decide (t.hi<=b))
theorem Qcf (t:Ty)(a b:Int)(ws:Nat)(h:Avm.H):Qb cfg ws 160 [t.enc,.int .i64 a,.int .i64 b] h=some (.bool (XI t a b),h):=by
 refine Qc rfl rfl ?_
 cases hf:t.free<;>simp[QDs,QCA,hf,XI,Bool.and_assoc]
theorem QsG {g:FuncId}{p:It->Bool}(l:List It)(hl:l.length<=67108864)(hs:Still cfg g)(hp: ∀x∈l,∀ws h',Qb cfg ws g [x.enc] h'=some (.bool (p x),h'))(ws:Nat)(h:Avm.H):
    Qb cfg ws 211 [.isl (l.map It.enc),.QI g 0 []] h=some (.int .i64 (idxOf p l),h):=
 QcM (sz:=12) (ag:=true) rfl rfl hl (by simp) (It.Qja l) hs rfl (by simpa using hp) ws
theorem JK {g:FuncId}{k:Nat}{p:It->Bool}{cap cap':List AV}(l:List It)(hl:l.length<=67108864)(hs:Still cfg g)(h:Avm.H)(hcap:QH (snap h 7) cap=some cap')(hcp:Qv cap'=true)(hp: ∀x∈l,∀ws h',Qb cfg ws g (cap'.take k++([x.enc]++cap'.drop k)) h'=some (.bool (p x),h'))(ws:Nat):
    Qb cfg ws 131 [.isl (l.map It.enc),.QI g k cap] h=some (.bool (l.any p),h):=
 ZZ (K:=211) (sz:=12) (ag:=true) rfl rfl rfl rfl hl (by simp) (It.Qja l) hs hcap hcp hp ws
theorem QsF (x:It)(ws:Nat)(h:Avm.H):Qb cfg ws 232 [x.enc] h=some (.bool x.extra,h):=by
 refine Qc rfl rfl ?_
 simp[QDc,QCk]
theorem QsE (x:It)(ws:Nat)(h:Avm.H):Qb cfg ws 233 [x.enc] h=some (.bool (!x.extra),h):=by
 refine Qc rfl rfl ?_
 simp[QDb,QCj]
def itP (t:Ty)(least:Int):Bool:=match t.items.findIdx? It.extra with
 | none=>decide (least<=t.items.length)
 | some j=>t.ext&&(decide (least<=(j:Int))&&(t.items.drop j).all It.extra)
theorem QhP (t:Ty)(ht:t.wid<=67108864)(least:Int)(ws:Nat)(h:Avm.H):Qb cfg ws 161 [t.enc,.int .i64 least] h=some (.bool (itP t least),h):=by
 have hwi:=t.Qe;have h1:=fun ws h=>QsG (g:=232) t.items (by omega) (.inl rfl) (fun x _ ws h=>QsF x ws h) ws h
 have h2:=fun j ws h=>JK (g:=233) (k:=0) (cap:=[]) (t.items.drop j) (by simp; omega) (.inl rfl) h rfl rfl (fun x _ ws h=>QsE x ws h) ws
 refine Qc rfl rfl ?_
 unfold itP;unfold idxOf at h1;cases hq:t.items.findIdx? It.extra with
 | none=>
  rw[hq]at h1;simp[QAy,QAc,h1]
 | some j=>
  rw[hq]at h1
  have hj:j<=t.items.length:=by
   rw[List.findIdx?_eq_some_iff_getElem]at hq
   obtain⟨hj,_⟩:=hq;omega
  simp only[List.map_drop,WA]at h2;have hso:QkW 12 (t.items.map It.enc)=true:=by simp[QkW]
  have hjz: ¬(j:Int)<0:=by omega
  simp[QAy,QAc,h1,QdL,hso,hj,h2]
  first | done | rw[Bool.and_assoc]
end Go.Proofs.YtflbneepngjglaaGreatDoor
namespace Go.Proofs.YtflbneepngjglaaGreatDoor
open Go Go.Avm
def JQ (i:It):Bool:=i.of.same Ty.zero&&(!i.opt&&i.QA.isEmpty)
def XM (i:It):Bool:=!i.opt&&i.QA.isEmpty
theorem QP {α:Type}(l:List α):decide (0<l.length)= !l.isEmpty:=by cases l<;>simp
theorem Qwc (i:It)(hi:i.wid<=67108864)(ws:Nat)(h:Avm.H):Qb cfg ws 234 [i.enc] h=some (.bool (!JQ i),h):=by
 have hs:=ZK i.of Ty.zero (Nat.le_trans i.QoJ hi);simp[Ty.zero]at hs;refine Qc rfl rfl ?_
 unfold JQ;cases q1:i.of.same Ty.zero<;>simp[Ty.zero]at q1<;>simp[q1]at hs<;>cases q2:i.opt<;>simp[QDa,QCi,hs,q2,QP]
theorem QxR (l:List It)(hl:l.length<=67108864)(hw: ∀x∈l,x.wid<=67108864)(ws:Nat)(h:Avm.H):Qb cfg ws 162 [.isl (l.map It.enc)] h=some (.bool (l.all JQ),h):=by
 have h1:=fun ws h=>JK (g:=234) (k:=0) (cap:=[]) l hl (.inl rfl) h rfl rfl (fun x hx ws h=>Qwc x (hw x hx) ws h) ws
 simp only[WA]at h1;refine Qc rfl rfl ?_
 simp[QDr,QCz,h1]
theorem QrT (i:It)(ws:Nat)(h:Avm.H):Qb cfg ws 163 [i.enc] h=some (.bool (!XM i),h):=by
 refine Qc rfl rfl ?_
 unfold XM;cases q2:i.opt<;>simp[QDq,QCy,q2,QP]
def Qk (t:Ty):Bool:=
 if t.kind=0 then t.Jy else if t.kind=1 then t.Jy else if t.kind=6 then t.Jy else if t.kind=11 then t.Jy
 else if t.kind=2 then t.Qby&&XI t (-1000000000000000) 1000000000000000
 else if t.kind=3 then t.oEI&&(itP t 1&&t.items.all JQ)
 else if t.kind=4 then t.Qby&&XI t 0 4000
 else if t.kind=5 then t.Qby&&XI t 0 32000
 else if t.kind=7 then t.Qec&&(XI t 0 200&&decide (t.kids.length=1))
 else if t.kind=8 then t.oEI&&itP t 0
 else if t.kind=9 then t.oEI&&(itP t 1&&t.items.all XM)
 else decide (t.kind=10)&&t.oNK
theorem QwE (t:Ty)(ht:t.wid<=67108864)(q:t.kind=0)(ws:Nat)(h:Avm.H):Qb cfg ws 83 [t.enc] h=some (.bool t.Jy,h):=by
 have hwi:=t.Qe;have beq1:(((t.kids.length:Nat):Int) == 1)=decide (t.kids.length=1):=Xb _ 1;have e0:=Ws t ht;simp[q]at e0;refine Qc rfl rfl ?_
 simp[F83,c83,q,e0]
theorem QwD (t:Ty)(ht:t.wid<=67108864)(q:t.kind=1)(ws:Nat)(h:Avm.H):Qb cfg ws 83 [t.enc] h=some (.bool t.Jy,h):=by
 have hwi:=t.Qe;have beq1:(((t.kids.length:Nat):Int) == 1)=decide (t.kids.length=1):=Xb _ 1;have e0:=Ws t ht;simp[q]at e0;refine Qc rfl rfl ?_
 simp[F83,c83,q,e0]
theorem Qwy (t:Ty)(ht:t.wid<=67108864)(q:t.kind=6)(ws:Nat)(h:Avm.H):Qb cfg ws 83 [t.enc] h=some (.bool t.Jy,h):=by
 have hwi:=t.Qe;have beq1:(((t.kids.length:Nat):Int) == 1)=decide (t.kids.length=1):=Xb _ 1;have e0:=Ws t ht;simp[q]at e0;refine Qc rfl rfl ?_
 simp[F83,c83,q,e0]
theorem Qui (t:Ty)(ht:t.wid<=67108864)(q:t.kind=11)(ws:Nat)(h:Avm.H):Qb cfg ws 83 [t.enc] h=some (.bool t.Jy,h):=by
 have hwi:=t.Qe;have beq1:(((t.kids.length:Nat):Int) == 1)=decide (t.kids.length=1):=Xb _ 1;have e0:=Ws t ht;simp[q]at e0;refine Qc rfl rfl ?_
 simp[F83,c83,q,e0]
theorem QwC (t:Ty)(ht:t.wid<=67108864)(q:t.kind=2)(ws:Nat)(h:Avm.H):Qb cfg ws 83 [t.enc] h=some (.bool (t.Qby&&XI t (-1000000000000000) 1000000000000000),h):=by
 have hwi:=t.Qe;have beq1:(((t.kids.length:Nat):Int) == 1)=decide (t.kids.length=1):=Xb _ 1;have e0:=Qdd t ht;have e1:=Qcf t (-1000000000000000) 1000000000000000;simp[q]at e0 e1;refine Qc rfl rfl ?_
 simp[F83,c83,q,e0,e1]
theorem QwB (t:Ty)(ht:t.wid<=67108864)(q:t.kind=3)(ws:Nat)(h:Avm.H):Qb cfg ws 83 [t.enc] h=some (.bool (t.oEI&&(itP t 1&&t.items.all JQ)),h):=by
 have hwi:=t.Qe;have beq1:(((t.kids.length:Nat):Int) == 1)=decide (t.kids.length=1):=Xb _ 1;have e0:=QeO t ht;have e1:=QhP t ht 1;have e2:=QxR t.items (by omega) fun x hx=>Nat.le_trans (Ty.Jf hx) ht
 simp[q]at e0 e1 e2;refine Qc rfl rfl ?_
 simp[F83,c83,q,e0,e1,e2]
 first | done | rw[Bool.and_assoc]
theorem QwA (t:Ty)(ht:t.wid<=67108864)(q:t.kind=4)(ws:Nat)(h:Avm.H):Qb cfg ws 83 [t.enc] h=some (.bool (t.Qby&&XI t 0 4000),h):=by
 have hwi:=t.Qe;have beq1:(((t.kids.length:Nat):Int) == 1)=decide (t.kids.length=1):=Xb _ 1;have e0:=Qdd t ht;have e1:=Qcf t 0 4000;simp[q]at e0 e1;refine Qc rfl rfl ?_
 simp[F83,c83,q,e0,e1]
theorem Qwz (t:Ty)(ht:t.wid<=67108864)(q:t.kind=5)(ws:Nat)(h:Avm.H):Qb cfg ws 83 [t.enc] h=some (.bool (t.Qby&&XI t 0 32000),h):=by
 have hwi:=t.Qe;have beq1:(((t.kids.length:Nat):Int) == 1)=decide (t.kids.length=1):=Xb _ 1;have e0:=Qdd t ht;have e1:=Qcf t 0 32000;simp[q]at e0 e1;refine Qc rfl rfl ?_
 simp[F83,c83,q,e0,e1]
theorem Qwx (t:Ty)(ht:t.wid<=67108864)(q:t.kind=7)(ws:Nat)(h:Avm.H):Qb cfg ws 83 [t.enc] h=some (.bool (t.Qec&&(XI t 0 200&&decide (t.kids.length=1))),h):=by
 have hwi:=t.Qe;have beq1:(((t.kids.length:Nat):Int) == 1)=decide (t.kids.length=1):=Xb _ 1;have e0:=Qng t ht;have e1:=Qcf t 0 200;simp[q]at e0 e1;refine Qc rfl rfl ?_
 simp[F83,c83,q,e0,e1,beq1]
 first | done | rw[Bool.and_assoc]
theorem Qww (t:Ty)(ht:t.wid<=67108864)(q:t.kind=8)(ws:Nat)(h:Avm.H):Qb cfg ws 83 [t.enc] h=some (.bool (t.oEI&&itP t 0),h):=by
 have hwi:=t.Qe;have beq1:(((t.kids.length:Nat):Int) == 1)=decide (t.kids.length=1):=Xb _ 1;have e0:=QeO t ht;have e1:=QhP t ht 0;simp[q]at e0 e1;refine Qc rfl rfl ?_
 simp[F83,c83,q,e0,e1]
theorem Qwv (t:Ty)(ht:t.wid<=67108864)(q:t.kind=9)(ws:Nat)(h:Avm.H):Qb cfg ws 83 [t.enc] h=some (.bool (t.oEI&&(itP t 1&&t.items.all XM)),h):=by
 have hwi:=t.Qe;have beq1:(((t.kids.length:Nat):Int) == 1)=decide (t.kids.length=1):=Xb _ 1;have e0:=QeO t ht;have e1:=QhP t ht 1;have e2:=fun ws h=>JK (g:=163) (k:=0) (cap:=[]) (p:=fun i=>!XM i) t.items (by omega) (.inl rfl) h rfl rfl (fun x hx ws h=>QrT x ws h) ws
 simp[q]at e0 e1 e2;refine Qc rfl rfl ?_
 simp[F83,c83,q,e0,e1,e2,WA]
 first | done | rw[Bool.and_assoc]
theorem Quj (t:Ty)(ht:t.wid<=67108864)(q:t.kind=10)(ws:Nat)(h:Avm.H):Qb cfg ws 83 [t.enc] h=some (.bool t.oNK,h):=by
 have hwi:=t.Qe;have beq1:(((t.kids.length:Nat):Int) == 1)=decide (t.kids.length=1):=Xb _ 1;have e0:=Qsj t ht;simp[q]at e0;refine Qc rfl rfl ?_
 simp[F83,c83,q,e0]
theorem Quh (t:Ty)(ht:t.wid<=67108864)(ws:Nat)(h:Avm.H):Qb cfg ws 83 [t.enc] h=some (.bool (Qk t),h):=by
 unfold Qk;split
 ·rename_i q; exact QwE t ht q ws h
 split
 ·rename_i q; exact QwD t ht q ws h
 split
 ·rename_i q; exact Qwy t ht q ws h
 split
 ·rename_i q; exact Qui t ht q ws h
 split
 ·rename_i q; exact QwC t ht q ws h
 split
 ·rename_i q; exact QwB t ht q ws h
 split
 ·rename_i q; exact QwA t ht q ws h
 split
 ·rename_i q; exact Qwz t ht q ws h
 split
 ·rename_i q; exact Qwx t ht q ws h
 split
 ·rename_i q; exact Qww t ht q ws h
 split
 ·rename_i q; exact Qwv t ht q ws h
 rename_i q0 q1 q6 q11 q2 q3 q4 q5 q7 q8 q9;by_cases q:t.kind=10
 ·rw[decide_eq_true q,Bool.true_and]; exact Quj t ht q ws h
 ·refine Qc rfl rfl ?_
  simp[F83,c83,q,q0,q1,q6,q11,q2,q3,q4,q5,q7,q8,q9]
end Go.Proofs.YtflbneepngjglaaGreatDoor
