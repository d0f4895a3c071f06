/- Whether a value fits a type: the document, the branches. -/
import Derived.Test.YtflbneepngjglaaGreatDoorE40
import Derived.Test.YtflbneepngjglaaGreatDoorE41
set_option linter.all false
namespace Go.Proofs.YtflbneepngjglaaGreatDoor
open Go Go.Avm
theorem Yn (m:Md)(hm:m.ok)(hl:m.lim)(hf:m.fm)(t:Ty)(ht:t.wid<=67108864)(hn:t.nodes<=600)(ws:Nat)(h:Avm.H):Qb cfg ws 77 [m.enc,t.enc] h=some (.tup [((beh m 21 t).getD Ty.zero).enc,.bool (beh m 21 t).isSome],h):=by
 rw[Qrc m hm hl t ht hn ws h,Qwz m hl hf 20 t]
theorem Qlm (m:Md)(hl:m.lim){t b:Ty}(ht:t.nodes<=600)(h:beh m 21 t=some b):b.nodes<=600:=by
 have h1:=Qhs m (fun t=>t.nodes<=600) (fun t u hp hs=>by
  unfold Jw at hs;split at hs
  ·cases hs
  ·rename_i d hd;have hdm:=List.mem_of_find?_eq_some hd
   split at hs
   ·cases hs
   ·split at hs
    ·cases hs; exact hl d hdm
    ·split at hs
     ·rename_i q; cases hs; exact q
     ·cases hs) 21 t b ht h
 exact h1.1
theorem QxE (m:Md)(b:Ty)(v:Val)(h:Avm.H)(o:Ex×Env×Avm.H)(hk:b.kind=1)(hT:evC (Qb cfg) Qa cfg.pol h.length h.length Qbf [(3,.ptr h.length 0 2 0 0),(4,.ptr (h.length+1) 0 8 0 0),(5,.ptr (h.length+2) 0 4 0 0),(31,.int .i64 b.kind),(36,.bool true)] (h++ [.arr 0 2 [m.enc],.arr 0 8 [b.enc],.arr 0 4 [v.enc]])=some o):evC (Qb cfg) Qa cfg.pol h.length h.length Qbh [(3,.ptr h.length 0 2 0 0),(4,.ptr (h.length+1) 0 8 0 0),(5,.ptr (h.length+2) 0 4 0 0),(31,.int .i64 b.kind),(32,.bool false)] (h++ [.arr 0 2 [m.enc],.arr 0 8 [b.enc],.arr 0 4 [v.enc]])=some o:=by
 simp only[hk]at hT ⊢;simp[Qbh]at hT ⊢;exact hT
theorem YK (m:Md)(b:Ty)(v:Val)(h:Avm.H)(o:Ex×Env×Avm.H)(hk: ¬b.kind=1)(hT:evC (Qb cfg) Qa cfg.pol h.length h.length QcI [(3,.ptr h.length 0 2 0 0),(4,.ptr (h.length+1) 0 8 0 0),(5,.ptr (h.length+2) 0 4 0 0),(31,.int .i64 b.kind),(36,.bool false)] (h++ [.arr 0 2 [m.enc],.arr 0 8 [b.enc],.arr 0 4 [v.enc]])=some o):evC (Qb cfg) Qa cfg.pol h.length h.length Qbh [(3,.ptr h.length 0 2 0 0),(4,.ptr (h.length+1) 0 8 0 0),(5,.ptr (h.length+2) 0 4 0 0),(31,.int .i64 b.kind),(32,.bool false)] (h++ [.arr 0 2 [m.enc],.arr 0 8 [b.enc],.arr 0 4 [v.enc]])=some o:=by
 have hkb:(b.kind == 1)=false:=by simpa using hk
 simp[hk]at hT;simp[Qbh,hk,hkb];exact hT
theorem QxD (m:Md)(b:Ty)(v:Val)(h:Avm.H)(o:Ex×Env×Avm.H)(hk:b.kind=2)(hT:evC (Qb cfg) Qa cfg.pol h.length h.length XC [(3,.ptr h.length 0 2 0 0),(4,.ptr (h.length+1) 0 8 0 0),(5,.ptr (h.length+2) 0 4 0 0),(31,.int .i64 b.kind),(50,.bool true)] (h++ [.arr 0 2 [m.enc],.arr 0 8 [b.enc],.arr 0 4 [v.enc]])=some o):evC (Qb cfg) Qa cfg.pol h.length h.length QcI [(3,.ptr h.length 0 2 0 0),(4,.ptr (h.length+1) 0 8 0 0),(5,.ptr (h.length+2) 0 4 0 0),(31,.int .i64 b.kind),(36,.bool false)] (h++ [.arr 0 2 [m.enc],.arr 0 8 [b.enc],.arr 0 4 [v.enc]])=some o:=by
 simp only[hk]at hT ⊢;simp[QcI]at hT ⊢;exact hT
theorem WA (m:Md)(b:Ty)(v:Val)(h:Avm.H)(o:Ex×Env×Avm.H)(hk: ¬b.kind=2)(hT:evC (Qb cfg) Qa cfg.pol h.length h.length QcH [(3,.ptr h.length 0 2 0 0),(4,.ptr (h.length+1) 0 8 0 0),(5,.ptr (h.length+2) 0 4 0 0),(31,.int .i64 b.kind),(50,.bool false)] (h++ [.arr 0 2 [m.enc],.arr 0 8 [b.enc],.arr 0 4 [v.enc]])=some o):evC (Qb cfg) Qa cfg.pol h.length h.length QcI [(3,.ptr h.length 0 2 0 0),(4,.ptr (h.length+1) 0 8 0 0),(5,.ptr (h.length+2) 0 4 0 0),(31,.int .i64 b.kind),(36,.bool false)] (h++ [.arr 0 2 [m.enc],.arr 0 8 [b.enc],.arr 0 4 [v.enc]])=some o:=by
 have hkb:(b.kind == 2)=false:=by simpa using hk
 simp[hk]at hT;simp[QcI,hk,hkb];exact hT
theorem QxC (m:Md)(b:Ty)(v:Val)(h:Avm.H)(o:Ex×Env×Avm.H)(hk:b.kind=3)(hT:evC (Qb cfg) Qa cfg.pol h.length h.length Qbe [(3,.ptr h.length 0 2 0 0),(4,.ptr (h.length+1) 0 8 0 0),(5,.ptr (h.length+2) 0 4 0 0),(31,.int .i64 b.kind),(87,.bool true)] (h++ [.arr 0 2 [m.enc],.arr 0 8 [b.enc],.arr 0 4 [v.enc]])=some o):evC (Qb cfg) Qa cfg.pol h.length h.length QcH [(3,.ptr h.length 0 2 0 0),(4,.ptr (h.length+1) 0 8 0 0),(5,.ptr (h.length+2) 0 4 0 0),(31,.int .i64 b.kind),(50,.bool false)] (h++ [.arr 0 2 [m.enc],.arr 0 8 [b.enc],.arr 0 4 [v.enc]])=some o:=by
 simp only[hk]at hT ⊢;simp[QcH]at hT ⊢;exact hT
theorem QaM (m:Md)(b:Ty)(v:Val)(h:Avm.H)(o:Ex×Env×Avm.H)(hk: ¬b.kind=3)(hT:evC (Qb cfg) Qa cfg.pol h.length h.length QcG [(3,.ptr h.length 0 2 0 0),(4,.ptr (h.length+1) 0 8 0 0),(5,.ptr (h.length+2) 0 4 0 0),(31,.int .i64 b.kind),(87,.bool false)] (h++ [.arr 0 2 [m.enc],.arr 0 8 [b.enc],.arr 0 4 [v.enc]])=some o):evC (Qb cfg) Qa cfg.pol h.length h.length QcH [(3,.ptr h.length 0 2 0 0),(4,.ptr (h.length+1) 0 8 0 0),(5,.ptr (h.length+2) 0 4 0 0),(31,.int .i64 b.kind),(50,.bool false)] (h++ [.arr 0 2 [m.enc],.arr 0 8 [b.enc],.arr 0 4 [v.enc]])=some o:=by
 have hkb:(b.kind == 3)=false:=by simpa using hk
 simp[hk]at hT;simp[QcH,hk,hkb];exact hT
theorem Qvc (m:Md)(b:Ty)(v:Val)(h:Avm.H)(o:Ex×Env×Avm.H)(hk:b.kind=4)(hT:evC (Qb cfg) Qa cfg.pol h.length h.length Qcc [(3,.ptr h.length 0 2 0 0),(4,.ptr (h.length+1) 0 8 0 0),(5,.ptr (h.length+2) 0 4 0 0),(31,.int .i64 b.kind),(104,.bool true)] (h++ [.arr 0 2 [m.enc],.arr 0 8 [b.enc],.arr 0 4 [v.enc]])=some o):evC (Qb cfg) Qa cfg.pol h.length h.length QcG [(3,.ptr h.length 0 2 0 0),(4,.ptr (h.length+1) 0 8 0 0),(5,.ptr (h.length+2) 0 4 0 0),(31,.int .i64 b.kind),(87,.bool false)] (h++ [.arr 0 2 [m.enc],.arr 0 8 [b.enc],.arr 0 4 [v.enc]])=some o:=by
 simp only[hk]at hT ⊢;simp[QcG]at hT ⊢;exact hT
theorem Qae (m:Md)(b:Ty)(v:Val)(h:Avm.H)(o:Ex×Env×Avm.H)(hk: ¬b.kind=4)(hT:evC (Qb cfg) Qa cfg.pol h.length h.length Qaz [(3,.ptr h.length 0 2 0 0),(4,.ptr (h.length+1) 0 8 0 0),(5,.ptr (h.length+2) 0 4 0 0),(31,.int .i64 b.kind),(104,.bool false)] (h++ [.arr 0 2 [m.enc],.arr 0 8 [b.enc],.arr 0 4 [v.enc]])=some o):evC (Qb cfg) Qa cfg.pol h.length h.length QcG [(3,.ptr h.length 0 2 0 0),(4,.ptr (h.length+1) 0 8 0 0),(5,.ptr (h.length+2) 0 4 0 0),(31,.int .i64 b.kind),(87,.bool false)] (h++ [.arr 0 2 [m.enc],.arr 0 8 [b.enc],.arr 0 4 [v.enc]])=some o:=by
 have hkb:(b.kind == 4)=false:=by simpa using hk
 simp[hk]at hT;simp[QcG,hk,hkb];exact hT
theorem Qvb (m:Md)(b:Ty)(v:Val)(h:Avm.H)(o:Ex×Env×Avm.H)(hk:b.kind=5)(hT:evC (Qb cfg) Qa cfg.pol h.length h.length Qau [(3,.ptr h.length 0 2 0 0),(4,.ptr (h.length+1) 0 8 0 0),(5,.ptr (h.length+2) 0 4 0 0),(31,.int .i64 b.kind),(115,.bool true)] (h++ [.arr 0 2 [m.enc],.arr 0 8 [b.enc],.arr 0 4 [v.enc]])=some o):evC (Qb cfg) Qa cfg.pol h.length h.length Qaz [(3,.ptr h.length 0 2 0 0),(4,.ptr (h.length+1) 0 8 0 0),(5,.ptr (h.length+2) 0 4 0 0),(31,.int .i64 b.kind),(104,.bool false)] (h++ [.arr 0 2 [m.enc],.arr 0 8 [b.enc],.arr 0 4 [v.enc]])=some o:=by
 simp only[hk]at hT ⊢;simp[Qaz]at hT ⊢;exact hT
theorem QbE (m:Md)(b:Ty)(v:Val)(h:Avm.H)(o:Ex×Env×Avm.H)(hk: ¬b.kind=5)(hT:evC (Qb cfg) Qa cfg.pol h.length h.length Qay [(3,.ptr h.length 0 2 0 0),(4,.ptr (h.length+1) 0 8 0 0),(5,.ptr (h.length+2) 0 4 0 0),(31,.int .i64 b.kind),(115,.bool false)] (h++ [.arr 0 2 [m.enc],.arr 0 8 [b.enc],.arr 0 4 [v.enc]])=some o):evC (Qb cfg) Qa cfg.pol h.length h.length Qaz [(3,.ptr h.length 0 2 0 0),(4,.ptr (h.length+1) 0 8 0 0),(5,.ptr (h.length+2) 0 4 0 0),(31,.int .i64 b.kind),(104,.bool false)] (h++ [.arr 0 2 [m.enc],.arr 0 8 [b.enc],.arr 0 4 [v.enc]])=some o:=by
 have hkb:(b.kind == 5)=false:=by simpa using hk
 simp[hk]at hT;simp[Qaz,hk,hkb];exact hT
theorem Qva (m:Md)(b:Ty)(v:Val)(h:Avm.H)(o:Ex×Env×Avm.H)(hk:b.kind=11)(hT:evC (Qb cfg) Qa cfg.pol h.length h.length Qcb [(3,.ptr h.length 0 2 0 0),(4,.ptr (h.length+1) 0 8 0 0),(5,.ptr (h.length+2) 0 4 0 0),(31,.int .i64 b.kind),(131,.bool true)] (h++ [.arr 0 2 [m.enc],.arr 0 8 [b.enc],.arr 0 4 [v.enc]])=some o):evC (Qb cfg) Qa cfg.pol h.length h.length Qay [(3,.ptr h.length 0 2 0 0),(4,.ptr (h.length+1) 0 8 0 0),(5,.ptr (h.length+2) 0 4 0 0),(31,.int .i64 b.kind),(115,.bool false)] (h++ [.arr 0 2 [m.enc],.arr 0 8 [b.enc],.arr 0 4 [v.enc]])=some o:=by
 simp only[hk]at hT ⊢;simp[Qay]at hT ⊢;exact hT
theorem Qec (m:Md)(b:Ty)(v:Val)(h:Avm.H)(o:Ex×Env×Avm.H)(hk: ¬b.kind=11)(hT:evC (Qb cfg) Qa cfg.pol h.length h.length Qax [(3,.ptr h.length 0 2 0 0),(4,.ptr (h.length+1) 0 8 0 0),(5,.ptr (h.length+2) 0 4 0 0),(31,.int .i64 b.kind),(131,.bool false)] (h++ [.arr 0 2 [m.enc],.arr 0 8 [b.enc],.arr 0 4 [v.enc]])=some o):evC (Qb cfg) Qa cfg.pol h.length h.length Qay [(3,.ptr h.length 0 2 0 0),(4,.ptr (h.length+1) 0 8 0 0),(5,.ptr (h.length+2) 0 4 0 0),(31,.int .i64 b.kind),(115,.bool false)] (h++ [.arr 0 2 [m.enc],.arr 0 8 [b.enc],.arr 0 4 [v.enc]])=some o:=by
 have hkb:(b.kind == 11)=false:=by simpa using hk
 simp[hk]at hT;simp[Qay,hk,hkb];exact hT
theorem QuZ (m:Md)(b:Ty)(v:Val)(h:Avm.H)(o:Ex×Env×Avm.H)(hk:b.kind=6)(hT:evC (Qb cfg) Qa cfg.pol h.length h.length Qat [(3,.ptr h.length 0 2 0 0),(4,.ptr (h.length+1) 0 8 0 0),(5,.ptr (h.length+2) 0 4 0 0),(31,.int .i64 b.kind),(141,.bool true)] (h++ [.arr 0 2 [m.enc],.arr 0 8 [b.enc],.arr 0 4 [v.enc]])=some o):evC (Qb cfg) Qa cfg.pol h.length h.length Qax [(3,.ptr h.length 0 2 0 0),(4,.ptr (h.length+1) 0 8 0 0),(5,.ptr (h.length+2) 0 4 0 0),(31,.int .i64 b.kind),(131,.bool false)] (h++ [.arr 0 2 [m.enc],.arr 0 8 [b.enc],.arr 0 4 [v.enc]])=some o:=by
 simp only[hk]at hT ⊢;simp[Qax]at hT ⊢;exact hT
theorem Qib (m:Md)(b:Ty)(v:Val)(h:Avm.H)(o:Ex×Env×Avm.H)(hk: ¬b.kind=6)(hT:evC (Qb cfg) Qa cfg.pol h.length h.length Qaw [(3,.ptr h.length 0 2 0 0),(4,.ptr (h.length+1) 0 8 0 0),(5,.ptr (h.length+2) 0 4 0 0),(31,.int .i64 b.kind),(141,.bool false)] (h++ [.arr 0 2 [m.enc],.arr 0 8 [b.enc],.arr 0 4 [v.enc]])=some o):evC (Qb cfg) Qa cfg.pol h.length h.length Qax [(3,.ptr h.length 0 2 0 0),(4,.ptr (h.length+1) 0 8 0 0),(5,.ptr (h.length+2) 0 4 0 0),(31,.int .i64 b.kind),(131,.bool false)] (h++ [.arr 0 2 [m.enc],.arr 0 8 [b.enc],.arr 0 4 [v.enc]])=some o:=by
 have hkb:(b.kind == 6)=false:=by simpa using hk
 simp[hk]at hT;simp[Qax,hk,hkb];exact hT
theorem QuY (m:Md)(b:Ty)(v:Val)(h:Avm.H)(o:Ex×Env×Avm.H)(hk:b.kind=7)(hT:evC (Qb cfg) Qa cfg.pol h.length h.length Wp [(3,.ptr h.length 0 2 0 0),(4,.ptr (h.length+1) 0 8 0 0),(5,.ptr (h.length+2) 0 4 0 0),(31,.int .i64 b.kind),(181,.bool true)] (h++ [.arr 0 2 [m.enc],.arr 0 8 [b.enc],.arr 0 4 [v.enc]])=some o):evC (Qb cfg) Qa cfg.pol h.length h.length Qaw [(3,.ptr h.length 0 2 0 0),(4,.ptr (h.length+1) 0 8 0 0),(5,.ptr (h.length+2) 0 4 0 0),(31,.int .i64 b.kind),(141,.bool false)] (h++ [.arr 0 2 [m.enc],.arr 0 8 [b.enc],.arr 0 4 [v.enc]])=some o:=by
 simp only[hk]at hT ⊢;simp[Qaw]at hT ⊢;exact hT
theorem Qnu (m:Md)(b:Ty)(v:Val)(h:Avm.H)(o:Ex×Env×Avm.H)(hk: ¬b.kind=7)(hT:evC (Qb cfg) Qa cfg.pol h.length h.length Qav [(3,.ptr h.length 0 2 0 0),(4,.ptr (h.length+1) 0 8 0 0),(5,.ptr (h.length+2) 0 4 0 0),(31,.int .i64 b.kind),(181,.bool false)] (h++ [.arr 0 2 [m.enc],.arr 0 8 [b.enc],.arr 0 4 [v.enc]])=some o):evC (Qb cfg) Qa cfg.pol h.length h.length Qaw [(3,.ptr h.length 0 2 0 0),(4,.ptr (h.length+1) 0 8 0 0),(5,.ptr (h.length+2) 0 4 0 0),(31,.int .i64 b.kind),(141,.bool false)] (h++ [.arr 0 2 [m.enc],.arr 0 8 [b.enc],.arr 0 4 [v.enc]])=some o:=by
 have hkb:(b.kind == 7)=false:=by simpa using hk
 simp[hk]at hT;simp[Qaw,hk,hkb];exact hT
theorem QuX (m:Md)(b:Ty)(v:Val)(h:Avm.H)(o:Ex×Env×Avm.H)(hk:b.kind=9)(hT:evC (Qb cfg) Qa cfg.pol h.length h.length Yz [(3,.ptr h.length 0 2 0 0),(4,.ptr (h.length+1) 0 8 0 0),(5,.ptr (h.length+2) 0 4 0 0),(213,.bool true)] (h++ [.arr 0 2 [m.enc],.arr 0 8 [b.enc],.arr 0 4 [v.enc]])=some o):evC (Qb cfg) Qa cfg.pol h.length h.length Qav [(3,.ptr h.length 0 2 0 0),(4,.ptr (h.length+1) 0 8 0 0),(5,.ptr (h.length+2) 0 4 0 0),(31,.int .i64 b.kind),(181,.bool false)] (h++ [.arr 0 2 [m.enc],.arr 0 8 [b.enc],.arr 0 4 [v.enc]])=some o:=by
 simp only[hk]at hT ⊢;simp[Qav]at hT ⊢;exact hT
theorem Qvd (m:Md)(b:Ty)(v:Val)(h:Avm.H)(o:Ex×Env×Avm.H)(hk: ¬b.kind=9)(hT:evC (Qb cfg) Qa cfg.pol h.length h.length .skip [(3,.ptr h.length 0 2 0 0),(4,.ptr (h.length+1) 0 8 0 0),(5,.ptr (h.length+2) 0 4 0 0),(213,.bool false)] (h++ [.arr 0 2 [m.enc],.arr 0 8 [b.enc],.arr 0 4 [v.enc]])=some o):evC (Qb cfg) Qa cfg.pol h.length h.length Qav [(3,.ptr h.length 0 2 0 0),(4,.ptr (h.length+1) 0 8 0 0),(5,.ptr (h.length+2) 0 4 0 0),(31,.int .i64 b.kind),(181,.bool false)] (h++ [.arr 0 2 [m.enc],.arr 0 8 [b.enc],.arr 0 4 [v.enc]])=some o:=by
 have hkb:(b.kind == 9)=false:=by simpa using hk
 simp[hk]at hT;simp[Qav,hk,hkb];exact hT
theorem QpM (m:Md)(hm:m.ok)(hl:m.lim)(hf:m.fm)(t:Ty)(ht:t.wid<=67108864)(hn:t.nodes<=600)(v:Val)(b:Ty)(hb:beh m 21 t=some b)(hvk:v.kind=b.kind)(hk:b.kind=0)(ws:Nat)(h:Avm.H)(r:Bool)(g:Avm.H)(hT:evC (Qb cfg) Qa cfg.pol h.length h.length Qhq [(3,.ptr h.length 0 2 0 0),(4,.ptr (h.length+1) 0 8 0 0),(5,.ptr (h.length+2) 0 4 0 0),(31,.int .i64 b.kind),(32,.bool true)] (h++ [.arr 0 2 [m.enc],.arr 0 8 [b.enc],.arr 0 4 [v.enc]])=some (.ret,[(6,.bool r)],h++([.arr 0 2 [m.enc],.arr 0 8 [b.enc],.arr 0 4 [v.enc]]++g))):Qb cfg ws 139 [m.enc,t.enc,v.enc] h=some (.bool r,h):=by
 rw[hk]at hvk;have hbe:=fun ws h=>Yn m hm hl hf t ht hn ws h
 rw[hb]at hbe;simp[Md.enc,Ty.zero,hk,hvk]at hbe hT;refine Qc rfl rfl ?_
 simp[QtW,QtM,Md.enc,hbe,hk,hvk,hT]
theorem Zr (m:Md)(hm:m.ok)(hl:m.lim)(hf:m.fm)(t:Ty)(ht:t.wid<=67108864)(hn:t.nodes<=600)(v:Val)(b:Ty)(hb:beh m 21 t=some b)(hvk:v.kind=b.kind)(hk: ¬b.kind=0)(ws:Nat)(h:Avm.H)(r:Bool)(g:Avm.H)(hT:evC (Qb cfg) Qa cfg.pol h.length h.length Qbh [(3,.ptr h.length 0 2 0 0),(4,.ptr (h.length+1) 0 8 0 0),(5,.ptr (h.length+2) 0 4 0 0),(31,.int .i64 b.kind),(32,.bool false)] (h++ [.arr 0 2 [m.enc],.arr 0 8 [b.enc],.arr 0 4 [v.enc]])=some (.ret,[(6,.bool r)],h++([.arr 0 2 [m.enc],.arr 0 8 [b.enc],.arr 0 4 [v.enc]]++g))):Qb cfg ws 139 [m.enc,t.enc,v.enc] h=some (.bool r,h):=by
 have hkb:(b.kind == 0)=false:=by simpa using hk
 have hbe:=fun ws h=>Yn m hm hl hf t ht hn ws h
 rw[hb]at hbe;simp[Md.enc,Ty.zero,hvk]at hbe hT;refine Qc rfl rfl ?_
 simp[QtW,QtM,Md.enc,hbe,hk,hkb,hvk,hT]
theorem QpL (m:Md)(hm:m.ok)(hl:m.lim)(hf:m.fm)(t:Ty)(ht:t.wid<=67108864)(hn:t.nodes<=600)(v:Val)(b:Ty)(hb:beh m 21 t=some b)(hvk:v.kind=b.kind)(hk: ¬b.kind=0)(ws:Nat)(h:Avm.H)(r:Bool)(g:Avm.H)(hE:evC (Qb cfg) Qa cfg.pol h.length h.length Qbh [(3,.ptr h.length 0 2 0 0),(4,.ptr (h.length+1) 0 8 0 0),(5,.ptr (h.length+2) 0 4 0 0),(31,.int .i64 b.kind),(32,.bool false)] (h++ [.arr 0 2 [m.enc],.arr 0 8 [b.enc],.arr 0 4 [v.enc]])=some (.normal,[(3,.ptr h.length 0 2 0 0),(4,.ptr (h.length+1) 0 8 0 0),(5,.ptr (h.length+2) 0 4 0 0),(213,.bool false)],(h++ [.arr 0 2 [m.enc],.arr 0 8 [b.enc],.arr 0 4 [v.enc]])))
    (hT:evC (Qb cfg) Qa cfg.pol h.length h.length Qbg [(3,.ptr h.length 0 2 0 0),(4,.ptr (h.length+1) 0 8 0 0),(5,.ptr (h.length+2) 0 4 0 0)] (h++ [.arr 0 2 [m.enc],.arr 0 8 [b.enc],.arr 0 4 [v.enc]])=some (.ret,[(6,.bool r)],h++([.arr 0 2 [m.enc],.arr 0 8 [b.enc],.arr 0 4 [v.enc]]++g))):Qb cfg ws 139 [m.enc,t.enc,v.enc] h=some (.bool r,h):=by
 have hkb:(b.kind == 0)=false:=by simpa using hk
 have hbe:=fun ws h=>Yn m hm hl hf t ht hn ws h
 rw[hb]at hbe;simp[Md.enc,Ty.zero,hvk]at hbe hE hT;refine Qc rfl rfl ?_
 simp[QtW,QtM,Md.enc,hbe,hk,hkb,hvk,hE,hT]
theorem QlM (m:Md)(hm:m.ok)(hl:m.lim)(hf:m.fm)(t:Ty)(ht:t.wid<=67108864)(hn:t.nodes<=600)(v:Val)(b:Ty)(hb:beh m 21 t=some b)(hvk:v.kind=b.kind)(hk:b.kind=0)(ws:Nat)(h:Avm.H)(r:Bool)(g:Avm.H)(hT:evC (Qb cfg) Qa cfg.pol h.length h.length Qhq [(3,.ptr h.length 0 2 0 0),(4,.ptr (h.length+1) 0 8 0 0),(5,.ptr (h.length+2) 0 4 0 0),(31,.int .i64 b.kind),(32,.bool true)] (h++ [.arr 0 2 [m.enc],.arr 0 8 [b.enc],.arr 0 4 [v.enc]])=some (.ret,[(6,.bool r)],h++([.arr 0 2 [m.enc],.arr 0 8 [b.enc],.arr 0 4 [v.enc]]++g))):Qb cfg ws 139 [m.enc,t.enc,v.enc] h=some (.bool r,h):=by
 exact QpM m hm hl hf t ht hn v b hb hvk hk ws h r g hT
theorem QlL (m:Md)(hm:m.ok)(hl:m.lim)(hf:m.fm)(t:Ty)(ht:t.wid<=67108864)(hn:t.nodes<=600)(v:Val)(b:Ty)(hb:beh m 21 t=some b)(hvk:v.kind=b.kind)(hk:b.kind=1)(ws:Nat)(h:Avm.H)(r:Bool)(g:Avm.H)(hT:evC (Qb cfg) Qa cfg.pol h.length h.length Qbf [(3,.ptr h.length 0 2 0 0),(4,.ptr (h.length+1) 0 8 0 0),(5,.ptr (h.length+2) 0 4 0 0),(31,.int .i64 b.kind),(36,.bool true)] (h++ [.arr 0 2 [m.enc],.arr 0 8 [b.enc],.arr 0 4 [v.enc]])=some (.ret,[(6,.bool r)],h++([.arr 0 2 [m.enc],.arr 0 8 [b.enc],.arr 0 4 [v.enc]]++g))):Qb cfg ws 139 [m.enc,t.enc,v.enc] h=some (.bool r,h):=by
 have n0: ¬b.kind=0:=by omega
 refine Zr m hm hl hf t ht hn v b hb hvk n0 ws h r g ?_
 exact QxE m b v h _ hk hT
theorem QlK (m:Md)(hm:m.ok)(hl:m.lim)(hf:m.fm)(t:Ty)(ht:t.wid<=67108864)(hn:t.nodes<=600)(v:Val)(b:Ty)(hb:beh m 21 t=some b)(hvk:v.kind=b.kind)(hk:b.kind=2)(ws:Nat)(h:Avm.H)(r:Bool)(g:Avm.H)(hT:evC (Qb cfg) Qa cfg.pol h.length h.length XC [(3,.ptr h.length 0 2 0 0),(4,.ptr (h.length+1) 0 8 0 0),(5,.ptr (h.length+2) 0 4 0 0),(31,.int .i64 b.kind),(50,.bool true)] (h++ [.arr 0 2 [m.enc],.arr 0 8 [b.enc],.arr 0 4 [v.enc]])=some (.ret,[(6,.bool r)],h++([.arr 0 2 [m.enc],.arr 0 8 [b.enc],.arr 0 4 [v.enc]]++g))):Qb cfg ws 139 [m.enc,t.enc,v.enc] h=some (.bool r,h):=by
 have n0: ¬b.kind=0:=by omega
 refine Zr m hm hl hf t ht hn v b hb hvk n0 ws h r g ?_
 refine YK m b v h _ (by omega) ?_
 exact QxD m b v h _ hk hT
theorem QlJ (m:Md)(hm:m.ok)(hl:m.lim)(hf:m.fm)(t:Ty)(ht:t.wid<=67108864)(hn:t.nodes<=600)(v:Val)(b:Ty)(hb:beh m 21 t=some b)(hvk:v.kind=b.kind)(hk:b.kind=3)(ws:Nat)(h:Avm.H)(r:Bool)(g:Avm.H)(hT:evC (Qb cfg) Qa cfg.pol h.length h.length Qbe [(3,.ptr h.length 0 2 0 0),(4,.ptr (h.length+1) 0 8 0 0),(5,.ptr (h.length+2) 0 4 0 0),(31,.int .i64 b.kind),(87,.bool true)] (h++ [.arr 0 2 [m.enc],.arr 0 8 [b.enc],.arr 0 4 [v.enc]])=some (.ret,[(6,.bool r)],h++([.arr 0 2 [m.enc],.arr 0 8 [b.enc],.arr 0 4 [v.enc]]++g))):Qb cfg ws 139 [m.enc,t.enc,v.enc] h=some (.bool r,h):=by
 have n0: ¬b.kind=0:=by omega
 refine Zr m hm hl hf t ht hn v b hb hvk n0 ws h r g ?_
 refine YK m b v h _ (by omega) ?_
 refine WA m b v h _ (by omega) ?_
 exact QxC m b v h _ hk hT
theorem QlI (m:Md)(hm:m.ok)(hl:m.lim)(hf:m.fm)(t:Ty)(ht:t.wid<=67108864)(hn:t.nodes<=600)(v:Val)(b:Ty)(hb:beh m 21 t=some b)(hvk:v.kind=b.kind)(hk:b.kind=4)(ws:Nat)(h:Avm.H)(r:Bool)(g:Avm.H)(hT:evC (Qb cfg) Qa cfg.pol h.length h.length Qcc [(3,.ptr h.length 0 2 0 0),(4,.ptr (h.length+1) 0 8 0 0),(5,.ptr (h.length+2) 0 4 0 0),(31,.int .i64 b.kind),(104,.bool true)] (h++ [.arr 0 2 [m.enc],.arr 0 8 [b.enc],.arr 0 4 [v.enc]])=some (.ret,[(6,.bool r)],h++([.arr 0 2 [m.enc],.arr 0 8 [b.enc],.arr 0 4 [v.enc]]++g))):Qb cfg ws 139 [m.enc,t.enc,v.enc] h=some (.bool r,h):=by
 have n0: ¬b.kind=0:=by omega
 refine Zr m hm hl hf t ht hn v b hb hvk n0 ws h r g ?_
 refine YK m b v h _ (by omega) ?_
 refine WA m b v h _ (by omega) ?_
 refine QaM m b v h _ (by omega) ?_
 exact Qvc m b v h _ hk hT
theorem QlH (m:Md)(hm:m.ok)(hl:m.lim)(hf:m.fm)(t:Ty)(ht:t.wid<=67108864)(hn:t.nodes<=600)(v:Val)(b:Ty)(hb:beh m 21 t=some b)(hvk:v.kind=b.kind)(hk:b.kind=5)(ws:Nat)(h:Avm.H)(r:Bool)(g:Avm.H)(hT:evC (Qb cfg) Qa cfg.pol h.length h.length Qau [(3,.ptr h.length 0 2 0 0),(4,.ptr (h.length+1) 0 8 0 0),(5,.ptr (h.length+2) 0 4 0 0),(31,.int .i64 b.kind),(115,.bool true)] (h++ [.arr 0 2 [m.enc],.arr 0 8 [b.enc],.arr 0 4 [v.enc]])=some (.ret,[(6,.bool r)],h++([.arr 0 2 [m.enc],.arr 0 8 [b.enc],.arr 0 4 [v.enc]]++g))):Qb cfg ws 139 [m.enc,t.enc,v.enc] h=some (.bool r,h):=by
 have n0: ¬b.kind=0:=by omega
 refine Zr m hm hl hf t ht hn v b hb hvk n0 ws h r g ?_
 refine YK m b v h _ (by omega) ?_
 refine WA m b v h _ (by omega) ?_
 refine QaM m b v h _ (by omega) ?_
 refine Qae m b v h _ (by omega) ?_
 exact Qvb m b v h _ hk hT
theorem Qea (m:Md)(hm:m.ok)(hl:m.lim)(hf:m.fm)(t:Ty)(ht:t.wid<=67108864)(hn:t.nodes<=600)(v:Val)(b:Ty)(hb:beh m 21 t=some b)(hvk:v.kind=b.kind)(hk:b.kind=6)(ws:Nat)(h:Avm.H)(r:Bool)(g:Avm.H)(hT:evC (Qb cfg) Qa cfg.pol h.length h.length Qat [(3,.ptr h.length 0 2 0 0),(4,.ptr (h.length+1) 0 8 0 0),(5,.ptr (h.length+2) 0 4 0 0),(31,.int .i64 b.kind),(141,.bool true)] (h++ [.arr 0 2 [m.enc],.arr 0 8 [b.enc],.arr 0 4 [v.enc]])=some (.ret,[(6,.bool r)],h++([.arr 0 2 [m.enc],.arr 0 8 [b.enc],.arr 0 4 [v.enc]]++g))):Qb cfg ws 139 [m.enc,t.enc,v.enc] h=some (.bool r,h):=by
 have n0: ¬b.kind=0:=by omega
 refine Zr m hm hl hf t ht hn v b hb hvk n0 ws h r g ?_
 refine YK m b v h _ (by omega) ?_
 refine WA m b v h _ (by omega) ?_
 refine QaM m b v h _ (by omega) ?_
 refine Qae m b v h _ (by omega) ?_
 refine QbE m b v h _ (by omega) ?_
 refine Qec m b v h _ (by omega) ?_
 exact QuZ m b v h _ hk hT
theorem Qjz (m:Md)(hm:m.ok)(hl:m.lim)(hf:m.fm)(t:Ty)(ht:t.wid<=67108864)(hn:t.nodes<=600)(v:Val)(b:Ty)(hb:beh m 21 t=some b)(hvk:v.kind=b.kind)(hk:b.kind=11)(ws:Nat)(h:Avm.H)(r:Bool)(g:Avm.H)(hT:evC (Qb cfg) Qa cfg.pol h.length h.length Qcb [(3,.ptr h.length 0 2 0 0),(4,.ptr (h.length+1) 0 8 0 0),(5,.ptr (h.length+2) 0 4 0 0),(31,.int .i64 b.kind),(131,.bool true)] (h++ [.arr 0 2 [m.enc],.arr 0 8 [b.enc],.arr 0 4 [v.enc]])=some (.ret,[(6,.bool r)],h++([.arr 0 2 [m.enc],.arr 0 8 [b.enc],.arr 0 4 [v.enc]]++g))):Qb cfg ws 139 [m.enc,t.enc,v.enc] h=some (.bool r,h):=by
 have n0: ¬b.kind=0:=by omega
 refine Zr m hm hl hf t ht hn v b hb hvk n0 ws h r g ?_
 refine YK m b v h _ (by omega) ?_
 refine WA m b v h _ (by omega) ?_
 refine QaM m b v h _ (by omega) ?_
 refine Qae m b v h _ (by omega) ?_
 refine QbE m b v h _ (by omega) ?_
 exact Qva m b v h _ hk hT
theorem QlG (m:Md)(hm:m.ok)(hl:m.lim)(hf:m.fm)(t:Ty)(ht:t.wid<=67108864)(hn:t.nodes<=600)(v:Val)(b:Ty)(hb:beh m 21 t=some b)(hvk:v.kind=b.kind)(hk:b.kind=7)(ws:Nat)(h:Avm.H)(r:Bool)(g:Avm.H)(hT:evC (Qb cfg) Qa cfg.pol h.length h.length Wp [(3,.ptr h.length 0 2 0 0),(4,.ptr (h.length+1) 0 8 0 0),(5,.ptr (h.length+2) 0 4 0 0),(31,.int .i64 b.kind),(181,.bool true)] (h++ [.arr 0 2 [m.enc],.arr 0 8 [b.enc],.arr 0 4 [v.enc]])=some (.ret,[(6,.bool r)],h++([.arr 0 2 [m.enc],.arr 0 8 [b.enc],.arr 0 4 [v.enc]]++g))):Qb cfg ws 139 [m.enc,t.enc,v.enc] h=some (.bool r,h):=by
 have n0: ¬b.kind=0:=by omega
 refine Zr m hm hl hf t ht hn v b hb hvk n0 ws h r g ?_
 refine YK m b v h _ (by omega) ?_
 refine WA m b v h _ (by omega) ?_
 refine QaM m b v h _ (by omega) ?_
 refine Qae m b v h _ (by omega) ?_
 refine QbE m b v h _ (by omega) ?_
 refine Qec m b v h _ (by omega) ?_
 refine Qib m b v h _ (by omega) ?_
 exact QuY m b v h _ hk hT
theorem QlF (m:Md)(hm:m.ok)(hl:m.lim)(hf:m.fm)(t:Ty)(ht:t.wid<=67108864)(hn:t.nodes<=600)(v:Val)(b:Ty)(hb:beh m 21 t=some b)(hvk:v.kind=b.kind)(hk:b.kind=9)(ws:Nat)(h:Avm.H)(r:Bool)(g:Avm.H)(hT:evC (Qb cfg) Qa cfg.pol h.length h.length Yz [(3,.ptr h.length 0 2 0 0),(4,.ptr (h.length+1) 0 8 0 0),(5,.ptr (h.length+2) 0 4 0 0),(213,.bool true)] (h++ [.arr 0 2 [m.enc],.arr 0 8 [b.enc],.arr 0 4 [v.enc]])=some (.ret,[(6,.bool r)],h++([.arr 0 2 [m.enc],.arr 0 8 [b.enc],.arr 0 4 [v.enc]]++g))):Qb cfg ws 139 [m.enc,t.enc,v.enc] h=some (.bool r,h):=by
 have n0: ¬b.kind=0:=by omega
 refine Zr m hm hl hf t ht hn v b hb hvk n0 ws h r g ?_
 refine YK m b v h _ (by omega) ?_
 refine WA m b v h _ (by omega) ?_
 refine QaM m b v h _ (by omega) ?_
 refine Qae m b v h _ (by omega) ?_
 refine QbE m b v h _ (by omega) ?_
 refine Qec m b v h _ (by omega) ?_
 refine Qib m b v h _ (by omega) ?_
 refine Qnu m b v h _ (by omega) ?_
 exact QuX m b v h _ hk hT
theorem YJ (m:Md)(hm:m.ok)(hl:m.lim)(hf:m.fm)(t:Ty)(ht:t.wid<=67108864)(hn:t.nodes<=600)(v:Val)(b:Ty)(hb:beh m 21 t=some b)(hvk:v.kind=b.kind)(hk:b.kind=8)(ws:Nat)(h:Avm.H)(r:Bool)(g:Avm.H)(hT:evC (Qb cfg) Qa cfg.pol h.length h.length Qbg [(3,.ptr h.length 0 2 0 0),(4,.ptr (h.length+1) 0 8 0 0),(5,.ptr (h.length+2) 0 4 0 0)] (h++ [.arr 0 2 [m.enc],.arr 0 8 [b.enc],.arr 0 4 [v.enc]])=some (.ret,[(6,.bool r)],h++([.arr 0 2 [m.enc],.arr 0 8 [b.enc],.arr 0 4 [v.enc]]++g))):Qb cfg ws 139 [m.enc,t.enc,v.enc] h=some (.bool r,h):=by
 have n0: ¬b.kind=0:=by omega
 refine QpL m hm hl hf t ht hn v b hb hvk n0 ws h r g ?_ hT
 refine YK m b v h _ (by omega) ?_
 refine WA m b v h _ (by omega) ?_
 refine QaM m b v h _ (by omega) ?_
 refine Qae m b v h _ (by omega) ?_
 refine QbE m b v h _ (by omega) ?_
 refine Qec m b v h _ (by omega) ?_
 refine Qib m b v h _ (by omega) ?_
 refine Qnu m b v h _ (by omega) ?_
 refine Qvd m b v h _ (by omega) ?_
 simp
theorem QpN (m:Md)(hm:m.ok)(hl:m.lim)(hf:m.fm)(t:Ty)(ht:t.wid<=67108864)(hn:t.nodes<=600)(v:Val)(hb:beh m 21 t=none)(ws:Nat)(h:Avm.H):Qb cfg ws 139 [m.enc,t.enc,v.enc] h=some (.bool false,h):=by
 have hbe:=fun ws h=>Yn m hm hl hf t ht hn ws h
 rw[hb]at hbe;simp[Md.enc,Ty.zero]at hbe;refine Qc rfl rfl ?_
 simp[QtW,QtM,Md.enc,Ty.zero,hbe]
theorem QuL (m:Md)(hm:m.ok)(hl:m.lim)(hf:m.fm)(t:Ty)(ht:t.wid<=67108864)(hn:t.nodes<=600)(v:Val)(b:Ty)(hb:beh m 21 t=some b)(hvk: ¬v.kind=b.kind)(ws:Nat)(h:Avm.H):Qb cfg ws 139 [m.enc,t.enc,v.enc] h=some (.bool false,h):=by
 have hbe:=fun ws h=>Yn m hm hl hf t ht hn ws h
 rw[hb]at hbe;simp[Md.enc,Ty.zero]at hbe;refine Qc rfl rfl ?_
 simp[QtW,QtM,Md.enc,Ty.zero,hbe,hvk]
end Go.Proofs.YtflbneepngjglaaGreatDoor
