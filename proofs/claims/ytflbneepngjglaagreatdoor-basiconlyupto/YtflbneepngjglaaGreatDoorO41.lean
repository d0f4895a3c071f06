/- Whether a value fits a type: the document, the branches. -/
import Derived.Test.YtflbneepngjglaaGreatDoorO39
import Derived.Test.YtflbneepngjglaaGreatDoorO40
set_option linter.all false
namespace Go.Proofs.YtflbneepngjglaaGreatDoor
open Go Go.Avm
theorem YT (m:Md)(hm:m.ok)(hl:m.lim)(hf:m.fm)(t:Ty)(ht:t.wid<=67108864)(hn:t.nodes<=600)(ws:Nat)(h:Avm.H):Qb cfg ws 77 [m.enc,t.enc] h=some (.tup [((beh m 21 t).getD Ty.zero).enc,.bool (beh m 21 t).isSome],h):=by
 rw[QqD m hm hl t ht hn ws h,Qwb m hl hf 20 t]
theorem QkL (m:Md)(hl:m.lim){t b:Ty}(ht:t.nodes<=600)(h:beh m 21 t=some b):b.nodes<=600:=by
 have h1:=Qer m (fun t=>t.nodes<=600) (fun t u hp hs=>by
  unfold Ja at hs;split at hs
  ·cases hs
  ·rename_i d hd;have hdm:=List.mem_of_find?_eq_some hd
   split at hs
   ·cases hs
   ·split at hs
    ·cases hs; exact hl d hdm
    ·split at hs
     ·rename_i q; cases hs; exact q
     ·cases hs) 21 t b ht h
 exact h1.1
theorem QwT (m:Md)(b:Ty)(v:Val)(h:Avm.H)(o:Ex×Env×Avm.H)(hk:b.kind=1)(hT:evC (Qb cfg) Qa cfg.pol h.length h.length QaS [(3,.ptr h.length 0 2 0 0),(4,.ptr (h.length+1) 0 8 0 0),(5,.ptr (h.length+2) 0 4 0 0),(31,.int .i64 b.kind),(36,.bool true)] (h++ [.arr 0 2 [m.enc],.arr 0 8 [b.enc],.arr 0 4 [v.enc]])=some o):evC (Qb cfg) Qa cfg.pol h.length h.length QaU [(3,.ptr h.length 0 2 0 0),(4,.ptr (h.length+1) 0 8 0 0),(5,.ptr (h.length+2) 0 4 0 0),(31,.int .i64 b.kind),(32,.bool false)] (h++ [.arr 0 2 [m.enc],.arr 0 8 [b.enc],.arr 0 4 [v.enc]])=some o:=by
 simp only[hk]at hT ⊢;simp[QaU]at hT ⊢;exact hT
theorem YC (m:Md)(b:Ty)(v:Val)(h:Avm.H)(o:Ex×Env×Avm.H)(hk: ¬b.kind=1)(hT:evC (Qb cfg) Qa cfg.pol h.length h.length QcA [(3,.ptr h.length 0 2 0 0),(4,.ptr (h.length+1) 0 8 0 0),(5,.ptr (h.length+2) 0 4 0 0),(31,.int .i64 b.kind),(36,.bool false)] (h++ [.arr 0 2 [m.enc],.arr 0 8 [b.enc],.arr 0 4 [v.enc]])=some o):evC (Qb cfg) Qa cfg.pol h.length h.length QaU [(3,.ptr h.length 0 2 0 0),(4,.ptr (h.length+1) 0 8 0 0),(5,.ptr (h.length+2) 0 4 0 0),(31,.int .i64 b.kind),(32,.bool false)] (h++ [.arr 0 2 [m.enc],.arr 0 8 [b.enc],.arr 0 4 [v.enc]])=some o:=by
 have hkb:(b.kind == 1)=false:=by simpa using hk
 simp[hk]at hT;simp[QaU,hk,hkb];exact hT
theorem QwS (m:Md)(b:Ty)(v:Val)(h:Avm.H)(o:Ex×Env×Avm.H)(hk:b.kind=2)(hT:evC (Qb cfg) Qa cfg.pol h.length h.length XC [(3,.ptr h.length 0 2 0 0),(4,.ptr (h.length+1) 0 8 0 0),(5,.ptr (h.length+2) 0 4 0 0),(31,.int .i64 b.kind),(50,.bool true)] (h++ [.arr 0 2 [m.enc],.arr 0 8 [b.enc],.arr 0 4 [v.enc]])=some o):evC (Qb cfg) Qa cfg.pol h.length h.length QcA [(3,.ptr h.length 0 2 0 0),(4,.ptr (h.length+1) 0 8 0 0),(5,.ptr (h.length+2) 0 4 0 0),(31,.int .i64 b.kind),(36,.bool false)] (h++ [.arr 0 2 [m.enc],.arr 0 8 [b.enc],.arr 0 4 [v.enc]])=some o:=by
 simp only[hk]at hT ⊢;simp[QcA]at hT ⊢;exact hT
theorem Wr (m:Md)(b:Ty)(v:Val)(h:Avm.H)(o:Ex×Env×Avm.H)(hk: ¬b.kind=2)(hT:evC (Qb cfg) Qa cfg.pol h.length h.length Qcz [(3,.ptr h.length 0 2 0 0),(4,.ptr (h.length+1) 0 8 0 0),(5,.ptr (h.length+2) 0 4 0 0),(31,.int .i64 b.kind),(50,.bool false)] (h++ [.arr 0 2 [m.enc],.arr 0 8 [b.enc],.arr 0 4 [v.enc]])=some o):evC (Qb cfg) Qa cfg.pol h.length h.length QcA [(3,.ptr h.length 0 2 0 0),(4,.ptr (h.length+1) 0 8 0 0),(5,.ptr (h.length+2) 0 4 0 0),(31,.int .i64 b.kind),(36,.bool false)] (h++ [.arr 0 2 [m.enc],.arr 0 8 [b.enc],.arr 0 4 [v.enc]])=some o:=by
 have hkb:(b.kind == 2)=false:=by simpa using hk
 simp[hk]at hT;simp[QcA,hk,hkb];exact hT
theorem QwR (m:Md)(b:Ty)(v:Val)(h:Avm.H)(o:Ex×Env×Avm.H)(hk:b.kind=3)(hT:evC (Qb cfg) Qa cfg.pol h.length h.length QaR [(3,.ptr h.length 0 2 0 0),(4,.ptr (h.length+1) 0 8 0 0),(5,.ptr (h.length+2) 0 4 0 0),(31,.int .i64 b.kind),(87,.bool true)] (h++ [.arr 0 2 [m.enc],.arr 0 8 [b.enc],.arr 0 4 [v.enc]])=some o):evC (Qb cfg) Qa cfg.pol h.length h.length Qcz [(3,.ptr h.length 0 2 0 0),(4,.ptr (h.length+1) 0 8 0 0),(5,.ptr (h.length+2) 0 4 0 0),(31,.int .i64 b.kind),(50,.bool false)] (h++ [.arr 0 2 [m.enc],.arr 0 8 [b.enc],.arr 0 4 [v.enc]])=some o:=by
 simp only[hk]at hT ⊢;simp[Qcz]at hT ⊢;exact hT
theorem QaC (m:Md)(b:Ty)(v:Val)(h:Avm.H)(o:Ex×Env×Avm.H)(hk: ¬b.kind=3)(hT:evC (Qb cfg) Qa cfg.pol h.length h.length Qcy [(3,.ptr h.length 0 2 0 0),(4,.ptr (h.length+1) 0 8 0 0),(5,.ptr (h.length+2) 0 4 0 0),(31,.int .i64 b.kind),(87,.bool false)] (h++ [.arr 0 2 [m.enc],.arr 0 8 [b.enc],.arr 0 4 [v.enc]])=some o):evC (Qb cfg) Qa cfg.pol h.length h.length Qcz [(3,.ptr h.length 0 2 0 0),(4,.ptr (h.length+1) 0 8 0 0),(5,.ptr (h.length+2) 0 4 0 0),(31,.int .i64 b.kind),(50,.bool false)] (h++ [.arr 0 2 [m.enc],.arr 0 8 [b.enc],.arr 0 4 [v.enc]])=some o:=by
 have hkb:(b.kind == 3)=false:=by simpa using hk
 simp[hk]at hT;simp[Qcz,hk,hkb];exact hT
theorem QuB (m:Md)(b:Ty)(v:Val)(h:Avm.H)(o:Ex×Env×Avm.H)(hk:b.kind=4)(hT:evC (Qb cfg) Qa cfg.pol h.length h.length QbR [(3,.ptr h.length 0 2 0 0),(4,.ptr (h.length+1) 0 8 0 0),(5,.ptr (h.length+2) 0 4 0 0),(31,.int .i64 b.kind),(104,.bool true)] (h++ [.arr 0 2 [m.enc],.arr 0 8 [b.enc],.arr 0 4 [v.enc]])=some o):evC (Qb cfg) Qa cfg.pol h.length h.length Qcy [(3,.ptr h.length 0 2 0 0),(4,.ptr (h.length+1) 0 8 0 0),(5,.ptr (h.length+2) 0 4 0 0),(31,.int .i64 b.kind),(87,.bool false)] (h++ [.arr 0 2 [m.enc],.arr 0 8 [b.enc],.arr 0 4 [v.enc]])=some o:=by
 simp only[hk]at hT ⊢;simp[Qcy]at hT ⊢;exact hT
theorem WW (m:Md)(b:Ty)(v:Val)(h:Avm.H)(o:Ex×Env×Avm.H)(hk: ¬b.kind=4)(hT:evC (Qb cfg) Qa cfg.pol h.length h.length Qaq [(3,.ptr h.length 0 2 0 0),(4,.ptr (h.length+1) 0 8 0 0),(5,.ptr (h.length+2) 0 4 0 0),(31,.int .i64 b.kind),(104,.bool false)] (h++ [.arr 0 2 [m.enc],.arr 0 8 [b.enc],.arr 0 4 [v.enc]])=some o):evC (Qb cfg) Qa cfg.pol h.length h.length Qcy [(3,.ptr h.length 0 2 0 0),(4,.ptr (h.length+1) 0 8 0 0),(5,.ptr (h.length+2) 0 4 0 0),(31,.int .i64 b.kind),(87,.bool false)] (h++ [.arr 0 2 [m.enc],.arr 0 8 [b.enc],.arr 0 4 [v.enc]])=some o:=by
 have hkb:(b.kind == 4)=false:=by simpa using hk
 simp[hk]at hT;simp[Qcy,hk,hkb];exact hT
theorem QuA (m:Md)(b:Ty)(v:Val)(h:Avm.H)(o:Ex×Env×Avm.H)(hk:b.kind=5)(hT:evC (Qb cfg) Qa cfg.pol h.length h.length Qal [(3,.ptr h.length 0 2 0 0),(4,.ptr (h.length+1) 0 8 0 0),(5,.ptr (h.length+2) 0 4 0 0),(31,.int .i64 b.kind),(115,.bool true)] (h++ [.arr 0 2 [m.enc],.arr 0 8 [b.enc],.arr 0 4 [v.enc]])=some o):evC (Qb cfg) Qa cfg.pol h.length h.length Qaq [(3,.ptr h.length 0 2 0 0),(4,.ptr (h.length+1) 0 8 0 0),(5,.ptr (h.length+2) 0 4 0 0),(31,.int .i64 b.kind),(104,.bool false)] (h++ [.arr 0 2 [m.enc],.arr 0 8 [b.enc],.arr 0 4 [v.enc]])=some o:=by
 simp only[hk]at hT ⊢;simp[Qaq]at hT ⊢;exact hT
theorem Qbt (m:Md)(b:Ty)(v:Val)(h:Avm.H)(o:Ex×Env×Avm.H)(hk: ¬b.kind=5)(hT:evC (Qb cfg) Qa cfg.pol h.length h.length Qap [(3,.ptr h.length 0 2 0 0),(4,.ptr (h.length+1) 0 8 0 0),(5,.ptr (h.length+2) 0 4 0 0),(31,.int .i64 b.kind),(115,.bool false)] (h++ [.arr 0 2 [m.enc],.arr 0 8 [b.enc],.arr 0 4 [v.enc]])=some o):evC (Qb cfg) Qa cfg.pol h.length h.length Qaq [(3,.ptr h.length 0 2 0 0),(4,.ptr (h.length+1) 0 8 0 0),(5,.ptr (h.length+2) 0 4 0 0),(31,.int .i64 b.kind),(104,.bool false)] (h++ [.arr 0 2 [m.enc],.arr 0 8 [b.enc],.arr 0 4 [v.enc]])=some o:=by
 have hkb:(b.kind == 5)=false:=by simpa using hk
 simp[hk]at hT;simp[Qaq,hk,hkb];exact hT
theorem Quz (m:Md)(b:Ty)(v:Val)(h:Avm.H)(o:Ex×Env×Avm.H)(hk:b.kind=11)(hT:evC (Qb cfg) Qa cfg.pol h.length h.length QbQ [(3,.ptr h.length 0 2 0 0),(4,.ptr (h.length+1) 0 8 0 0),(5,.ptr (h.length+2) 0 4 0 0),(31,.int .i64 b.kind),(131,.bool true)] (h++ [.arr 0 2 [m.enc],.arr 0 8 [b.enc],.arr 0 4 [v.enc]])=some o):evC (Qb cfg) Qa cfg.pol h.length h.length Qap [(3,.ptr h.length 0 2 0 0),(4,.ptr (h.length+1) 0 8 0 0),(5,.ptr (h.length+2) 0 4 0 0),(31,.int .i64 b.kind),(115,.bool false)] (h++ [.arr 0 2 [m.enc],.arr 0 8 [b.enc],.arr 0 4 [v.enc]])=some o:=by
 simp only[hk]at hT ⊢;simp[Qap]at hT ⊢;exact hT
theorem QdV (m:Md)(b:Ty)(v:Val)(h:Avm.H)(o:Ex×Env×Avm.H)(hk: ¬b.kind=11)(hT:evC (Qb cfg) Qa cfg.pol h.length h.length Qao [(3,.ptr h.length 0 2 0 0),(4,.ptr (h.length+1) 0 8 0 0),(5,.ptr (h.length+2) 0 4 0 0),(31,.int .i64 b.kind),(131,.bool false)] (h++ [.arr 0 2 [m.enc],.arr 0 8 [b.enc],.arr 0 4 [v.enc]])=some o):evC (Qb cfg) Qa cfg.pol h.length h.length Qap [(3,.ptr h.length 0 2 0 0),(4,.ptr (h.length+1) 0 8 0 0),(5,.ptr (h.length+2) 0 4 0 0),(31,.int .i64 b.kind),(115,.bool false)] (h++ [.arr 0 2 [m.enc],.arr 0 8 [b.enc],.arr 0 4 [v.enc]])=some o:=by
 have hkb:(b.kind == 11)=false:=by simpa using hk
 simp[hk]at hT;simp[Qap,hk,hkb];exact hT
theorem Quy (m:Md)(b:Ty)(v:Val)(h:Avm.H)(o:Ex×Env×Avm.H)(hk:b.kind=6)(hT:evC (Qb cfg) Qa cfg.pol h.length h.length Qak [(3,.ptr h.length 0 2 0 0),(4,.ptr (h.length+1) 0 8 0 0),(5,.ptr (h.length+2) 0 4 0 0),(31,.int .i64 b.kind),(141,.bool true)] (h++ [.arr 0 2 [m.enc],.arr 0 8 [b.enc],.arr 0 4 [v.enc]])=some o):evC (Qb cfg) Qa cfg.pol h.length h.length Qao [(3,.ptr h.length 0 2 0 0),(4,.ptr (h.length+1) 0 8 0 0),(5,.ptr (h.length+2) 0 4 0 0),(31,.int .i64 b.kind),(131,.bool false)] (h++ [.arr 0 2 [m.enc],.arr 0 8 [b.enc],.arr 0 4 [v.enc]])=some o:=by
 simp only[hk]at hT ⊢;simp[Qao]at hT ⊢;exact hT
theorem Qhy (m:Md)(b:Ty)(v:Val)(h:Avm.H)(o:Ex×Env×Avm.H)(hk: ¬b.kind=6)(hT:evC (Qb cfg) Qa cfg.pol h.length h.length Qan [(3,.ptr h.length 0 2 0 0),(4,.ptr (h.length+1) 0 8 0 0),(5,.ptr (h.length+2) 0 4 0 0),(31,.int .i64 b.kind),(141,.bool false)] (h++ [.arr 0 2 [m.enc],.arr 0 8 [b.enc],.arr 0 4 [v.enc]])=some o):evC (Qb cfg) Qa cfg.pol h.length h.length Qao [(3,.ptr h.length 0 2 0 0),(4,.ptr (h.length+1) 0 8 0 0),(5,.ptr (h.length+2) 0 4 0 0),(31,.int .i64 b.kind),(131,.bool false)] (h++ [.arr 0 2 [m.enc],.arr 0 8 [b.enc],.arr 0 4 [v.enc]])=some o:=by
 have hkb:(b.kind == 6)=false:=by simpa using hk
 simp[hk]at hT;simp[Qao,hk,hkb];exact hT
theorem Qux (m:Md)(b:Ty)(v:Val)(h:Avm.H)(o:Ex×Env×Avm.H)(hk:b.kind=7)(hT:evC (Qb cfg) Qa cfg.pol h.length h.length Wh [(3,.ptr h.length 0 2 0 0),(4,.ptr (h.length+1) 0 8 0 0),(5,.ptr (h.length+2) 0 4 0 0),(31,.int .i64 b.kind),(181,.bool true)] (h++ [.arr 0 2 [m.enc],.arr 0 8 [b.enc],.arr 0 4 [v.enc]])=some o):evC (Qb cfg) Qa cfg.pol h.length h.length Qan [(3,.ptr h.length 0 2 0 0),(4,.ptr (h.length+1) 0 8 0 0),(5,.ptr (h.length+2) 0 4 0 0),(31,.int .i64 b.kind),(141,.bool false)] (h++ [.arr 0 2 [m.enc],.arr 0 8 [b.enc],.arr 0 4 [v.enc]])=some o:=by
 simp only[hk]at hT ⊢;simp[Qan]at hT ⊢;exact hT
theorem QmZ (m:Md)(b:Ty)(v:Val)(h:Avm.H)(o:Ex×Env×Avm.H)(hk: ¬b.kind=7)(hT:evC (Qb cfg) Qa cfg.pol h.length h.length Qam [(3,.ptr h.length 0 2 0 0),(4,.ptr (h.length+1) 0 8 0 0),(5,.ptr (h.length+2) 0 4 0 0),(31,.int .i64 b.kind),(181,.bool false)] (h++ [.arr 0 2 [m.enc],.arr 0 8 [b.enc],.arr 0 4 [v.enc]])=some o):evC (Qb cfg) Qa cfg.pol h.length h.length Qan [(3,.ptr h.length 0 2 0 0),(4,.ptr (h.length+1) 0 8 0 0),(5,.ptr (h.length+2) 0 4 0 0),(31,.int .i64 b.kind),(141,.bool false)] (h++ [.arr 0 2 [m.enc],.arr 0 8 [b.enc],.arr 0 4 [v.enc]])=some o:=by
 have hkb:(b.kind == 7)=false:=by simpa using hk
 simp[hk]at hT;simp[Qan,hk,hkb];exact hT
theorem Quw (m:Md)(b:Ty)(v:Val)(h:Avm.H)(o:Ex×Env×Avm.H)(hk:b.kind=9)(hT:evC (Qb cfg) Qa cfg.pol h.length h.length Yp [(3,.ptr h.length 0 2 0 0),(4,.ptr (h.length+1) 0 8 0 0),(5,.ptr (h.length+2) 0 4 0 0),(213,.bool true)] (h++ [.arr 0 2 [m.enc],.arr 0 8 [b.enc],.arr 0 4 [v.enc]])=some o):evC (Qb cfg) Qa cfg.pol h.length h.length Qam [(3,.ptr h.length 0 2 0 0),(4,.ptr (h.length+1) 0 8 0 0),(5,.ptr (h.length+2) 0 4 0 0),(31,.int .i64 b.kind),(181,.bool false)] (h++ [.arr 0 2 [m.enc],.arr 0 8 [b.enc],.arr 0 4 [v.enc]])=some o:=by
 simp only[hk]at hT ⊢;simp[Qam]at hT ⊢;exact hT
theorem QuC (m:Md)(b:Ty)(v:Val)(h:Avm.H)(o:Ex×Env×Avm.H)(hk: ¬b.kind=9)(hT:evC (Qb cfg) Qa cfg.pol h.length h.length .skip [(3,.ptr h.length 0 2 0 0),(4,.ptr (h.length+1) 0 8 0 0),(5,.ptr (h.length+2) 0 4 0 0),(213,.bool false)] (h++ [.arr 0 2 [m.enc],.arr 0 8 [b.enc],.arr 0 4 [v.enc]])=some o):evC (Qb cfg) Qa cfg.pol h.length h.length Qam [(3,.ptr h.length 0 2 0 0),(4,.ptr (h.length+1) 0 8 0 0),(5,.ptr (h.length+2) 0 4 0 0),(31,.int .i64 b.kind),(181,.bool false)] (h++ [.arr 0 2 [m.enc],.arr 0 8 [b.enc],.arr 0 4 [v.enc]])=some o:=by
 have hkb:(b.kind == 9)=false:=by simpa using hk
 simp[hk]at hT;simp[Qam,hk,hkb];exact hT
theorem Qpj (m:Md)(hm:m.ok)(hl:m.lim)(hf:m.fm)(t:Ty)(ht:t.wid<=67108864)(hn:t.nodes<=600)(v:Val)(b:Ty)(hb:beh m 21 t=some b)(hvk:v.kind=b.kind)(hk:b.kind=0)(ws:Nat)(h:Avm.H)(r:Bool)(g:Avm.H)(hT:evC (Qb cfg) Qa cfg.pol h.length h.length QgN [(3,.ptr h.length 0 2 0 0),(4,.ptr (h.length+1) 0 8 0 0),(5,.ptr (h.length+2) 0 4 0 0),(31,.int .i64 b.kind),(32,.bool true)] (h++ [.arr 0 2 [m.enc],.arr 0 8 [b.enc],.arr 0 4 [v.enc]])=some (.ret,[(6,.bool r)],h++([.arr 0 2 [m.enc],.arr 0 8 [b.enc],.arr 0 4 [v.enc]]++g))):Qb cfg ws 139 [m.enc,t.enc,v.enc] h=some (.bool r,h):=by
 rw[hk]at hvk;have hbe:=fun ws h=>YT m hm hl hf t ht hn ws h
 rw[hb]at hbe;simp[Md.enc,Ty.zero,hk,hvk]at hbe hT;refine Qc rfl rfl ?_
 simp[Qtv,Qtm,Md.enc,hbe,hk,hvk,hT]
theorem Zp (m:Md)(hm:m.ok)(hl:m.lim)(hf:m.fm)(t:Ty)(ht:t.wid<=67108864)(hn:t.nodes<=600)(v:Val)(b:Ty)(hb:beh m 21 t=some b)(hvk:v.kind=b.kind)(hk: ¬b.kind=0)(ws:Nat)(h:Avm.H)(r:Bool)(g:Avm.H)(hT:evC (Qb cfg) Qa cfg.pol h.length h.length QaU [(3,.ptr h.length 0 2 0 0),(4,.ptr (h.length+1) 0 8 0 0),(5,.ptr (h.length+2) 0 4 0 0),(31,.int .i64 b.kind),(32,.bool false)] (h++ [.arr 0 2 [m.enc],.arr 0 8 [b.enc],.arr 0 4 [v.enc]])=some (.ret,[(6,.bool r)],h++([.arr 0 2 [m.enc],.arr 0 8 [b.enc],.arr 0 4 [v.enc]]++g))):Qb cfg ws 139 [m.enc,t.enc,v.enc] h=some (.bool r,h):=by
 have hkb:(b.kind == 0)=false:=by simpa using hk
 have hbe:=fun ws h=>YT m hm hl hf t ht hn ws h
 rw[hb]at hbe;simp[Md.enc,Ty.zero,hvk]at hbe hT;refine Qc rfl rfl ?_
 simp[Qtv,Qtm,Md.enc,hbe,hk,hkb,hvk,hT]
theorem Qpi (m:Md)(hm:m.ok)(hl:m.lim)(hf:m.fm)(t:Ty)(ht:t.wid<=67108864)(hn:t.nodes<=600)(v:Val)(b:Ty)(hb:beh m 21 t=some b)(hvk:v.kind=b.kind)(hk: ¬b.kind=0)(ws:Nat)(h:Avm.H)(r:Bool)(g:Avm.H)(hE:evC (Qb cfg) Qa cfg.pol h.length h.length QaU [(3,.ptr h.length 0 2 0 0),(4,.ptr (h.length+1) 0 8 0 0),(5,.ptr (h.length+2) 0 4 0 0),(31,.int .i64 b.kind),(32,.bool false)] (h++ [.arr 0 2 [m.enc],.arr 0 8 [b.enc],.arr 0 4 [v.enc]])=some (.normal,[(3,.ptr h.length 0 2 0 0),(4,.ptr (h.length+1) 0 8 0 0),(5,.ptr (h.length+2) 0 4 0 0),(213,.bool false)],(h++ [.arr 0 2 [m.enc],.arr 0 8 [b.enc],.arr 0 4 [v.enc]])))
    (hT:evC (Qb cfg) Qa cfg.pol h.length h.length QaT [(3,.ptr h.length 0 2 0 0),(4,.ptr (h.length+1) 0 8 0 0),(5,.ptr (h.length+2) 0 4 0 0)] (h++ [.arr 0 2 [m.enc],.arr 0 8 [b.enc],.arr 0 4 [v.enc]])=some (.ret,[(6,.bool r)],h++([.arr 0 2 [m.enc],.arr 0 8 [b.enc],.arr 0 4 [v.enc]]++g))):Qb cfg ws 139 [m.enc,t.enc,v.enc] h=some (.bool r,h):=by
 have hkb:(b.kind == 0)=false:=by simpa using hk
 have hbe:=fun ws h=>YT m hm hl hf t ht hn ws h
 rw[hb]at hbe;simp[Md.enc,Ty.zero,hvk]at hbe hE hT;refine Qc rfl rfl ?_
 simp[Qtv,Qtm,Md.enc,hbe,hk,hkb,hvk,hE,hT]
theorem Qlo (m:Md)(hm:m.ok)(hl:m.lim)(hf:m.fm)(t:Ty)(ht:t.wid<=67108864)(hn:t.nodes<=600)(v:Val)(b:Ty)(hb:beh m 21 t=some b)(hvk:v.kind=b.kind)(hk:b.kind=0)(ws:Nat)(h:Avm.H)(r:Bool)(g:Avm.H)(hT:evC (Qb cfg) Qa cfg.pol h.length h.length QgN [(3,.ptr h.length 0 2 0 0),(4,.ptr (h.length+1) 0 8 0 0),(5,.ptr (h.length+2) 0 4 0 0),(31,.int .i64 b.kind),(32,.bool true)] (h++ [.arr 0 2 [m.enc],.arr 0 8 [b.enc],.arr 0 4 [v.enc]])=some (.ret,[(6,.bool r)],h++([.arr 0 2 [m.enc],.arr 0 8 [b.enc],.arr 0 4 [v.enc]]++g))):Qb cfg ws 139 [m.enc,t.enc,v.enc] h=some (.bool r,h):=by
 exact Qpj m hm hl hf t ht hn v b hb hvk hk ws h r g hT
theorem Qln (m:Md)(hm:m.ok)(hl:m.lim)(hf:m.fm)(t:Ty)(ht:t.wid<=67108864)(hn:t.nodes<=600)(v:Val)(b:Ty)(hb:beh m 21 t=some b)(hvk:v.kind=b.kind)(hk:b.kind=1)(ws:Nat)(h:Avm.H)(r:Bool)(g:Avm.H)(hT:evC (Qb cfg) Qa cfg.pol h.length h.length QaS [(3,.ptr h.length 0 2 0 0),(4,.ptr (h.length+1) 0 8 0 0),(5,.ptr (h.length+2) 0 4 0 0),(31,.int .i64 b.kind),(36,.bool true)] (h++ [.arr 0 2 [m.enc],.arr 0 8 [b.enc],.arr 0 4 [v.enc]])=some (.ret,[(6,.bool r)],h++([.arr 0 2 [m.enc],.arr 0 8 [b.enc],.arr 0 4 [v.enc]]++g))):Qb cfg ws 139 [m.enc,t.enc,v.enc] h=some (.bool r,h):=by
 have n0: ¬b.kind=0:=by omega
 refine Zp m hm hl hf t ht hn v b hb hvk n0 ws h r g ?_
 exact QwT m b v h _ hk hT
theorem Qlm (m:Md)(hm:m.ok)(hl:m.lim)(hf:m.fm)(t:Ty)(ht:t.wid<=67108864)(hn:t.nodes<=600)(v:Val)(b:Ty)(hb:beh m 21 t=some b)(hvk:v.kind=b.kind)(hk:b.kind=2)(ws:Nat)(h:Avm.H)(r:Bool)(g:Avm.H)(hT:evC (Qb cfg) Qa cfg.pol h.length h.length XC [(3,.ptr h.length 0 2 0 0),(4,.ptr (h.length+1) 0 8 0 0),(5,.ptr (h.length+2) 0 4 0 0),(31,.int .i64 b.kind),(50,.bool true)] (h++ [.arr 0 2 [m.enc],.arr 0 8 [b.enc],.arr 0 4 [v.enc]])=some (.ret,[(6,.bool r)],h++([.arr 0 2 [m.enc],.arr 0 8 [b.enc],.arr 0 4 [v.enc]]++g))):Qb cfg ws 139 [m.enc,t.enc,v.enc] h=some (.bool r,h):=by
 have n0: ¬b.kind=0:=by omega
 refine Zp m hm hl hf t ht hn v b hb hvk n0 ws h r g ?_
 refine YC m b v h _ (by omega) ?_
 exact QwS m b v h _ hk hT
theorem Qll (m:Md)(hm:m.ok)(hl:m.lim)(hf:m.fm)(t:Ty)(ht:t.wid<=67108864)(hn:t.nodes<=600)(v:Val)(b:Ty)(hb:beh m 21 t=some b)(hvk:v.kind=b.kind)(hk:b.kind=3)(ws:Nat)(h:Avm.H)(r:Bool)(g:Avm.H)(hT:evC (Qb cfg) Qa cfg.pol h.length h.length QaR [(3,.ptr h.length 0 2 0 0),(4,.ptr (h.length+1) 0 8 0 0),(5,.ptr (h.length+2) 0 4 0 0),(31,.int .i64 b.kind),(87,.bool true)] (h++ [.arr 0 2 [m.enc],.arr 0 8 [b.enc],.arr 0 4 [v.enc]])=some (.ret,[(6,.bool r)],h++([.arr 0 2 [m.enc],.arr 0 8 [b.enc],.arr 0 4 [v.enc]]++g))):Qb cfg ws 139 [m.enc,t.enc,v.enc] h=some (.bool r,h):=by
 have n0: ¬b.kind=0:=by omega
 refine Zp m hm hl hf t ht hn v b hb hvk n0 ws h r g ?_
 refine YC m b v h _ (by omega) ?_
 refine Wr m b v h _ (by omega) ?_
 exact QwR m b v h _ hk hT
theorem Qlk (m:Md)(hm:m.ok)(hl:m.lim)(hf:m.fm)(t:Ty)(ht:t.wid<=67108864)(hn:t.nodes<=600)(v:Val)(b:Ty)(hb:beh m 21 t=some b)(hvk:v.kind=b.kind)(hk:b.kind=4)(ws:Nat)(h:Avm.H)(r:Bool)(g:Avm.H)(hT:evC (Qb cfg) Qa cfg.pol h.length h.length QbR [(3,.ptr h.length 0 2 0 0),(4,.ptr (h.length+1) 0 8 0 0),(5,.ptr (h.length+2) 0 4 0 0),(31,.int .i64 b.kind),(104,.bool true)] (h++ [.arr 0 2 [m.enc],.arr 0 8 [b.enc],.arr 0 4 [v.enc]])=some (.ret,[(6,.bool r)],h++([.arr 0 2 [m.enc],.arr 0 8 [b.enc],.arr 0 4 [v.enc]]++g))):Qb cfg ws 139 [m.enc,t.enc,v.enc] h=some (.bool r,h):=by
 have n0: ¬b.kind=0:=by omega
 refine Zp m hm hl hf t ht hn v b hb hvk n0 ws h r g ?_
 refine YC m b v h _ (by omega) ?_
 refine Wr m b v h _ (by omega) ?_
 refine QaC m b v h _ (by omega) ?_
 exact QuB m b v h _ hk hT
theorem Qlj (m:Md)(hm:m.ok)(hl:m.lim)(hf:m.fm)(t:Ty)(ht:t.wid<=67108864)(hn:t.nodes<=600)(v:Val)(b:Ty)(hb:beh m 21 t=some b)(hvk:v.kind=b.kind)(hk:b.kind=5)(ws:Nat)(h:Avm.H)(r:Bool)(g:Avm.H)(hT:evC (Qb cfg) Qa cfg.pol h.length h.length Qal [(3,.ptr h.length 0 2 0 0),(4,.ptr (h.length+1) 0 8 0 0),(5,.ptr (h.length+2) 0 4 0 0),(31,.int .i64 b.kind),(115,.bool true)] (h++ [.arr 0 2 [m.enc],.arr 0 8 [b.enc],.arr 0 4 [v.enc]])=some (.ret,[(6,.bool r)],h++([.arr 0 2 [m.enc],.arr 0 8 [b.enc],.arr 0 4 [v.enc]]++g))):Qb cfg ws 139 [m.enc,t.enc,v.enc] h=some (.bool r,h):=by
 have n0: ¬b.kind=0:=by omega
 refine Zp m hm hl hf t ht hn v b hb hvk n0 ws h r g ?_
 refine YC m b v h _ (by omega) ?_
 refine Wr m b v h _ (by omega) ?_
 refine QaC m b v h _ (by omega) ?_
 refine WW m b v h _ (by omega) ?_
 exact QuA m b v h _ hk hT
theorem QdT (m:Md)(hm:m.ok)(hl:m.lim)(hf:m.fm)(t:Ty)(ht:t.wid<=67108864)(hn:t.nodes<=600)(v:Val)(b:Ty)(hb:beh m 21 t=some b)(hvk:v.kind=b.kind)(hk:b.kind=6)(ws:Nat)(h:Avm.H)(r:Bool)(g:Avm.H)(hT:evC (Qb cfg) Qa cfg.pol h.length h.length Qak [(3,.ptr h.length 0 2 0 0),(4,.ptr (h.length+1) 0 8 0 0),(5,.ptr (h.length+2) 0 4 0 0),(31,.int .i64 b.kind),(141,.bool true)] (h++ [.arr 0 2 [m.enc],.arr 0 8 [b.enc],.arr 0 4 [v.enc]])=some (.ret,[(6,.bool r)],h++([.arr 0 2 [m.enc],.arr 0 8 [b.enc],.arr 0 4 [v.enc]]++g))):Qb cfg ws 139 [m.enc,t.enc,v.enc] h=some (.bool r,h):=by
 have n0: ¬b.kind=0:=by omega
 refine Zp m hm hl hf t ht hn v b hb hvk n0 ws h r g ?_
 refine YC m b v h _ (by omega) ?_
 refine Wr m b v h _ (by omega) ?_
 refine QaC m b v h _ (by omega) ?_
 refine WW m b v h _ (by omega) ?_
 refine Qbt m b v h _ (by omega) ?_
 refine QdV m b v h _ (by omega) ?_
 exact Quy m b v h _ hk hT
theorem QiV (m:Md)(hm:m.ok)(hl:m.lim)(hf:m.fm)(t:Ty)(ht:t.wid<=67108864)(hn:t.nodes<=600)(v:Val)(b:Ty)(hb:beh m 21 t=some b)(hvk:v.kind=b.kind)(hk:b.kind=11)(ws:Nat)(h:Avm.H)(r:Bool)(g:Avm.H)(hT:evC (Qb cfg) Qa cfg.pol h.length h.length QbQ [(3,.ptr h.length 0 2 0 0),(4,.ptr (h.length+1) 0 8 0 0),(5,.ptr (h.length+2) 0 4 0 0),(31,.int .i64 b.kind),(131,.bool true)] (h++ [.arr 0 2 [m.enc],.arr 0 8 [b.enc],.arr 0 4 [v.enc]])=some (.ret,[(6,.bool r)],h++([.arr 0 2 [m.enc],.arr 0 8 [b.enc],.arr 0 4 [v.enc]]++g))):Qb cfg ws 139 [m.enc,t.enc,v.enc] h=some (.bool r,h):=by
 have n0: ¬b.kind=0:=by omega
 refine Zp m hm hl hf t ht hn v b hb hvk n0 ws h r g ?_
 refine YC m b v h _ (by omega) ?_
 refine Wr m b v h _ (by omega) ?_
 refine QaC m b v h _ (by omega) ?_
 refine WW m b v h _ (by omega) ?_
 refine Qbt m b v h _ (by omega) ?_
 exact Quz m b v h _ hk hT
theorem Qli (m:Md)(hm:m.ok)(hl:m.lim)(hf:m.fm)(t:Ty)(ht:t.wid<=67108864)(hn:t.nodes<=600)(v:Val)(b:Ty)(hb:beh m 21 t=some b)(hvk:v.kind=b.kind)(hk:b.kind=7)(ws:Nat)(h:Avm.H)(r:Bool)(g:Avm.H)(hT:evC (Qb cfg) Qa cfg.pol h.length h.length Wh [(3,.ptr h.length 0 2 0 0),(4,.ptr (h.length+1) 0 8 0 0),(5,.ptr (h.length+2) 0 4 0 0),(31,.int .i64 b.kind),(181,.bool true)] (h++ [.arr 0 2 [m.enc],.arr 0 8 [b.enc],.arr 0 4 [v.enc]])=some (.ret,[(6,.bool r)],h++([.arr 0 2 [m.enc],.arr 0 8 [b.enc],.arr 0 4 [v.enc]]++g))):Qb cfg ws 139 [m.enc,t.enc,v.enc] h=some (.bool r,h):=by
 have n0: ¬b.kind=0:=by omega
 refine Zp m hm hl hf t ht hn v b hb hvk n0 ws h r g ?_
 refine YC m b v h _ (by omega) ?_
 refine Wr m b v h _ (by omega) ?_
 refine QaC m b v h _ (by omega) ?_
 refine WW m b v h _ (by omega) ?_
 refine Qbt m b v h _ (by omega) ?_
 refine QdV m b v h _ (by omega) ?_
 refine Qhy m b v h _ (by omega) ?_
 exact Qux m b v h _ hk hT
theorem Qlh (m:Md)(hm:m.ok)(hl:m.lim)(hf:m.fm)(t:Ty)(ht:t.wid<=67108864)(hn:t.nodes<=600)(v:Val)(b:Ty)(hb:beh m 21 t=some b)(hvk:v.kind=b.kind)(hk:b.kind=9)(ws:Nat)(h:Avm.H)(r:Bool)(g:Avm.H)(hT:evC (Qb cfg) Qa cfg.pol h.length h.length Yp [(3,.ptr h.length 0 2 0 0),(4,.ptr (h.length+1) 0 8 0 0),(5,.ptr (h.length+2) 0 4 0 0),(213,.bool true)] (h++ [.arr 0 2 [m.enc],.arr 0 8 [b.enc],.arr 0 4 [v.enc]])=some (.ret,[(6,.bool r)],h++([.arr 0 2 [m.enc],.arr 0 8 [b.enc],.arr 0 4 [v.enc]]++g))):Qb cfg ws 139 [m.enc,t.enc,v.enc] h=some (.bool r,h):=by
 have n0: ¬b.kind=0:=by omega
 refine Zp m hm hl hf t ht hn v b hb hvk n0 ws h r g ?_
 refine YC m b v h _ (by omega) ?_
 refine Wr m b v h _ (by omega) ?_
 refine QaC m b v h _ (by omega) ?_
 refine WW m b v h _ (by omega) ?_
 refine Qbt m b v h _ (by omega) ?_
 refine QdV m b v h _ (by omega) ?_
 refine Qhy m b v h _ (by omega) ?_
 refine QmZ m b v h _ (by omega) ?_
 exact Quw m b v h _ hk hT
theorem YB (m:Md)(hm:m.ok)(hl:m.lim)(hf:m.fm)(t:Ty)(ht:t.wid<=67108864)(hn:t.nodes<=600)(v:Val)(b:Ty)(hb:beh m 21 t=some b)(hvk:v.kind=b.kind)(hk:b.kind=8)(ws:Nat)(h:Avm.H)(r:Bool)(g:Avm.H)(hT:evC (Qb cfg) Qa cfg.pol h.length h.length QaT [(3,.ptr h.length 0 2 0 0),(4,.ptr (h.length+1) 0 8 0 0),(5,.ptr (h.length+2) 0 4 0 0)] (h++ [.arr 0 2 [m.enc],.arr 0 8 [b.enc],.arr 0 4 [v.enc]])=some (.ret,[(6,.bool r)],h++([.arr 0 2 [m.enc],.arr 0 8 [b.enc],.arr 0 4 [v.enc]]++g))):Qb cfg ws 139 [m.enc,t.enc,v.enc] h=some (.bool r,h):=by
 have n0: ¬b.kind=0:=by omega
 refine Qpi m hm hl hf t ht hn v b hb hvk n0 ws h r g ?_ hT
 refine YC m b v h _ (by omega) ?_
 refine Wr m b v h _ (by omega) ?_
 refine QaC m b v h _ (by omega) ?_
 refine WW m b v h _ (by omega) ?_
 refine Qbt m b v h _ (by omega) ?_
 refine QdV m b v h _ (by omega) ?_
 refine Qhy m b v h _ (by omega) ?_
 refine QmZ m b v h _ (by omega) ?_
 refine QuC m b v h _ (by omega) ?_
 simp
theorem Qpk (m:Md)(hm:m.ok)(hl:m.lim)(hf:m.fm)(t:Ty)(ht:t.wid<=67108864)(hn:t.nodes<=600)(v:Val)(hb:beh m 21 t=none)(ws:Nat)(h:Avm.H):Qb cfg ws 139 [m.enc,t.enc,v.enc] h=some (.bool false,h):=by
 have hbe:=fun ws h=>YT m hm hl hf t ht hn ws h
 rw[hb]at hbe;simp[Md.enc,Ty.zero]at hbe;refine Qc rfl rfl ?_
 simp[Qtv,Qtm,Md.enc,Ty.zero,hbe]
theorem Quk (m:Md)(hm:m.ok)(hl:m.lim)(hf:m.fm)(t:Ty)(ht:t.wid<=67108864)(hn:t.nodes<=600)(v:Val)(b:Ty)(hb:beh m 21 t=some b)(hvk: ¬v.kind=b.kind)(ws:Nat)(h:Avm.H):Qb cfg ws 139 [m.enc,t.enc,v.enc] h=some (.bool false,h):=by
 have hbe:=fun ws h=>YT m hm hl hf t ht hn ws h
 rw[hb]at hbe;simp[Md.enc,Ty.zero]at hbe;refine Qc rfl rfl ?_
 simp[Qtv,Qtm,Md.enc,Ty.zero,hbe,hvk]
end Go.Proofs.YtflbneepngjglaaGreatDoor
