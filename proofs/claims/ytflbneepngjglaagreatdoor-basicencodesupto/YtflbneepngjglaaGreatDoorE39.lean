/- Whether a value fits a type: the program, some kinds. -/
import Derived.Test.YtflbneepngjglaaGreatDoorE38
set_option linter.all false
namespace Go.Proofs.YtflbneepngjglaaGreatDoor
open Go Go.Avm
theorem QAt (m:Md)(b:Ty)(v:Val)(h:Avm.H)(o:Ex×Env×Avm.H)(hk:b.kind=1)(hT:evC (Qb cfg) Qa cfg.pol h.length h.length QiR [(3,.ptr h.length 0 2 0 0),(4,.ptr (h.length+1) 0 8 0 0),(5,.ptr (h.length+2) 0 4 0 0),(26,.int .i64 b.kind),(31,.bool true)] (h++ [.arr 0 2 [m.enc],.arr 0 8 [b.enc],.arr 0 4 [v.enc]])=some o):evC (Qb cfg) Qa cfg.pol h.length h.length Qdw [(3,.ptr h.length 0 2 0 0),(4,.ptr (h.length+1) 0 8 0 0),(5,.ptr (h.length+2) 0 4 0 0),(26,.int .i64 b.kind),(27,.bool false)] (h++ [.arr 0 2 [m.enc],.arr 0 8 [b.enc],.arr 0 4 [v.enc]])=some o:=by
 simp only[hk]at hT ⊢;simp[Qdw]at hT ⊢;exact hT
theorem Qbc (m:Md)(b:Ty)(v:Val)(h:Avm.H)(o:Ex×Env×Avm.H)(hk: ¬b.kind=1)(hT:evC (Qb cfg) Qa cfg.pol h.length h.length Qfw [(3,.ptr h.length 0 2 0 0),(4,.ptr (h.length+1) 0 8 0 0),(5,.ptr (h.length+2) 0 4 0 0),(26,.int .i64 b.kind),(31,.bool false)] (h++ [.arr 0 2 [m.enc],.arr 0 8 [b.enc],.arr 0 4 [v.enc]])=some o):evC (Qb cfg) Qa cfg.pol h.length h.length Qdw [(3,.ptr h.length 0 2 0 0),(4,.ptr (h.length+1) 0 8 0 0),(5,.ptr (h.length+2) 0 4 0 0),(26,.int .i64 b.kind),(27,.bool false)] (h++ [.arr 0 2 [m.enc],.arr 0 8 [b.enc],.arr 0 4 [v.enc]])=some o:=by
 have hkb:(b.kind == 1)=false:=by simpa using hk
 simp[hk]at hT;simp[Qdw,hk,hkb];exact hT
theorem QAs (m:Md)(b:Ty)(v:Val)(h:Avm.H)(o:Ex×Env×Avm.H)(hk:b.kind=2)(hT:evC (Qb cfg) Qa cfg.pol h.length h.length QbW [(3,.ptr h.length 0 2 0 0),(4,.ptr (h.length+1) 0 8 0 0),(5,.ptr (h.length+2) 0 4 0 0),(26,.int .i64 b.kind),(40,.bool true)] (h++ [.arr 0 2 [m.enc],.arr 0 8 [b.enc],.arr 0 4 [v.enc]])=some o):evC (Qb cfg) Qa cfg.pol h.length h.length Qfw [(3,.ptr h.length 0 2 0 0),(4,.ptr (h.length+1) 0 8 0 0),(5,.ptr (h.length+2) 0 4 0 0),(26,.int .i64 b.kind),(31,.bool false)] (h++ [.arr 0 2 [m.enc],.arr 0 8 [b.enc],.arr 0 4 [v.enc]])=some o:=by
 simp only[hk]at hT ⊢;simp[Qfw]at hT ⊢;exact hT
theorem QbU (m:Md)(b:Ty)(v:Val)(h:Avm.H)(o:Ex×Env×Avm.H)(hk: ¬b.kind=2)(hT:evC (Qb cfg) Qa cfg.pol h.length h.length Qfv [(3,.ptr h.length 0 2 0 0),(4,.ptr (h.length+1) 0 8 0 0),(5,.ptr (h.length+2) 0 4 0 0),(26,.int .i64 b.kind),(40,.bool false)] (h++ [.arr 0 2 [m.enc],.arr 0 8 [b.enc],.arr 0 4 [v.enc]])=some o):evC (Qb cfg) Qa cfg.pol h.length h.length Qfw [(3,.ptr h.length 0 2 0 0),(4,.ptr (h.length+1) 0 8 0 0),(5,.ptr (h.length+2) 0 4 0 0),(26,.int .i64 b.kind),(31,.bool false)] (h++ [.arr 0 2 [m.enc],.arr 0 8 [b.enc],.arr 0 4 [v.enc]])=some o:=by
 have hkb:(b.kind == 2)=false:=by simpa using hk
 simp[hk]at hT;simp[Qfw,hk,hkb];exact hT
theorem QAr (m:Md)(b:Ty)(v:Val)(h:Avm.H)(o:Ex×Env×Avm.H)(hk:b.kind=3)(hT:evC (Qb cfg) Qa cfg.pol h.length h.length QiQ [(3,.ptr h.length 0 2 0 0),(4,.ptr (h.length+1) 0 8 0 0),(5,.ptr (h.length+2) 0 4 0 0),(26,.int .i64 b.kind),(66,.bool true)] (h++ [.arr 0 2 [m.enc],.arr 0 8 [b.enc],.arr 0 4 [v.enc]])=some o):evC (Qb cfg) Qa cfg.pol h.length h.length Qfv [(3,.ptr h.length 0 2 0 0),(4,.ptr (h.length+1) 0 8 0 0),(5,.ptr (h.length+2) 0 4 0 0),(26,.int .i64 b.kind),(40,.bool false)] (h++ [.arr 0 2 [m.enc],.arr 0 8 [b.enc],.arr 0 4 [v.enc]])=some o:=by
 simp only[hk]at hT ⊢;simp[Qfv]at hT ⊢;exact hT
theorem Qdt (m:Md)(b:Ty)(v:Val)(h:Avm.H)(o:Ex×Env×Avm.H)(hk: ¬b.kind=3)(hT:evC (Qb cfg) Qa cfg.pol h.length h.length Qfu [(3,.ptr h.length 0 2 0 0),(4,.ptr (h.length+1) 0 8 0 0),(5,.ptr (h.length+2) 0 4 0 0),(26,.int .i64 b.kind),(66,.bool false)] (h++ [.arr 0 2 [m.enc],.arr 0 8 [b.enc],.arr 0 4 [v.enc]])=some o):evC (Qb cfg) Qa cfg.pol h.length h.length Qfv [(3,.ptr h.length 0 2 0 0),(4,.ptr (h.length+1) 0 8 0 0),(5,.ptr (h.length+2) 0 4 0 0),(26,.int .i64 b.kind),(40,.bool false)] (h++ [.arr 0 2 [m.enc],.arr 0 8 [b.enc],.arr 0 4 [v.enc]])=some o:=by
 have hkb:(b.kind == 3)=false:=by simpa using hk
 simp[hk]at hT;simp[Qfv,hk,hkb];exact hT
theorem QAq (m:Md)(b:Ty)(v:Val)(h:Avm.H)(o:Ex×Env×Avm.H)(hk:b.kind=4)(hT:evC (Qb cfg) Qa cfg.pol h.length h.length QiP [(3,.ptr h.length 0 2 0 0),(4,.ptr (h.length+1) 0 8 0 0),(5,.ptr (h.length+2) 0 4 0 0),(26,.int .i64 b.kind),(79,.bool true)] (h++ [.arr 0 2 [m.enc],.arr 0 8 [b.enc],.arr 0 4 [v.enc]])=some o):evC (Qb cfg) Qa cfg.pol h.length h.length Qfu [(3,.ptr h.length 0 2 0 0),(4,.ptr (h.length+1) 0 8 0 0),(5,.ptr (h.length+2) 0 4 0 0),(26,.int .i64 b.kind),(66,.bool false)] (h++ [.arr 0 2 [m.enc],.arr 0 8 [b.enc],.arr 0 4 [v.enc]])=some o:=by
 simp only[hk]at hT ⊢;simp[Qfu]at hT ⊢;exact hT
theorem Qfp (m:Md)(b:Ty)(v:Val)(h:Avm.H)(o:Ex×Env×Avm.H)(hk: ¬b.kind=4)(hT:evC (Qb cfg) Qa cfg.pol h.length h.length Qft [(3,.ptr h.length 0 2 0 0),(4,.ptr (h.length+1) 0 8 0 0),(5,.ptr (h.length+2) 0 4 0 0),(26,.int .i64 b.kind),(79,.bool false)] (h++ [.arr 0 2 [m.enc],.arr 0 8 [b.enc],.arr 0 4 [v.enc]])=some o):evC (Qb cfg) Qa cfg.pol h.length h.length Qfu [(3,.ptr h.length 0 2 0 0),(4,.ptr (h.length+1) 0 8 0 0),(5,.ptr (h.length+2) 0 4 0 0),(26,.int .i64 b.kind),(66,.bool false)] (h++ [.arr 0 2 [m.enc],.arr 0 8 [b.enc],.arr 0 4 [v.enc]])=some o:=by
 have hkb:(b.kind == 4)=false:=by simpa using hk
 simp[hk]at hT;simp[Qfu,hk,hkb];exact hT
theorem QAp (m:Md)(b:Ty)(v:Val)(h:Avm.H)(o:Ex×Env×Avm.H)(hk:b.kind=5)(hT:evC (Qb cfg) Qa cfg.pol h.length h.length Qfr [(3,.ptr h.length 0 2 0 0),(4,.ptr (h.length+1) 0 8 0 0),(5,.ptr (h.length+2) 0 4 0 0),(26,.int .i64 b.kind),(90,.bool true)] (h++ [.arr 0 2 [m.enc],.arr 0 8 [b.enc],.arr 0 4 [v.enc]])=some o):evC (Qb cfg) Qa cfg.pol h.length h.length Qft [(3,.ptr h.length 0 2 0 0),(4,.ptr (h.length+1) 0 8 0 0),(5,.ptr (h.length+2) 0 4 0 0),(26,.int .i64 b.kind),(79,.bool false)] (h++ [.arr 0 2 [m.enc],.arr 0 8 [b.enc],.arr 0 4 [v.enc]])=some o:=by
 simp only[hk]at hT ⊢;simp[Qft]at hT ⊢;exact hT
theorem QiL (m:Md)(b:Ty)(v:Val)(h:Avm.H)(o:Ex×Env×Avm.H)(hk: ¬b.kind=5)(hT:evC (Qb cfg) Qa cfg.pol h.length h.length Qfs [(3,.ptr h.length 0 2 0 0),(4,.ptr (h.length+1) 0 8 0 0),(5,.ptr (h.length+2) 0 4 0 0),(26,.int .i64 b.kind),(90,.bool false)] (h++ [.arr 0 2 [m.enc],.arr 0 8 [b.enc],.arr 0 4 [v.enc]])=some o):evC (Qb cfg) Qa cfg.pol h.length h.length Qft [(3,.ptr h.length 0 2 0 0),(4,.ptr (h.length+1) 0 8 0 0),(5,.ptr (h.length+2) 0 4 0 0),(26,.int .i64 b.kind),(79,.bool false)] (h++ [.arr 0 2 [m.enc],.arr 0 8 [b.enc],.arr 0 4 [v.enc]])=some o:=by
 have hkb:(b.kind == 5)=false:=by simpa using hk
 simp[hk]at hT;simp[Qft,hk,hkb];exact hT
theorem Qyx (m:Md)(b:Ty)(v:Val)(h:Avm.H)(o:Ex×Env×Avm.H)(hk:b.kind=6)(hT:evC (Qb cfg) Qa cfg.pol h.length h.length Qhp [(3,.ptr h.length 0 2 0 0),(4,.ptr (h.length+1) 0 8 0 0),(5,.ptr (h.length+2) 0 4 0 0),(26,.int .i64 b.kind),(107,.bool true)] (h++ [.arr 0 2 [m.enc],.arr 0 8 [b.enc],.arr 0 4 [v.enc]])=some o):evC (Qb cfg) Qa cfg.pol h.length h.length Qfs [(3,.ptr h.length 0 2 0 0),(4,.ptr (h.length+1) 0 8 0 0),(5,.ptr (h.length+2) 0 4 0 0),(26,.int .i64 b.kind),(90,.bool false)] (h++ [.arr 0 2 [m.enc],.arr 0 8 [b.enc],.arr 0 4 [v.enc]])=some o:=by
 simp only[hk]at hT ⊢;simp[Qfs]at hT ⊢;exact hT
theorem Qhn (m:Md)(b:Ty)(v:Val)(h:Avm.H)(o:Ex×Env×Avm.H)(hk: ¬b.kind=6)(hT:evC (Qb cfg) Qa cfg.pol h.length h.length QcF [(3,.ptr h.length 0 2 0 0),(4,.ptr (h.length+1) 0 8 0 0),(5,.ptr (h.length+2) 0 4 0 0),(26,.int .i64 b.kind),(107,.bool false)] (h++ [.arr 0 2 [m.enc],.arr 0 8 [b.enc],.arr 0 4 [v.enc]])=some o):evC (Qb cfg) Qa cfg.pol h.length h.length Qfs [(3,.ptr h.length 0 2 0 0),(4,.ptr (h.length+1) 0 8 0 0),(5,.ptr (h.length+2) 0 4 0 0),(26,.int .i64 b.kind),(90,.bool false)] (h++ [.arr 0 2 [m.enc],.arr 0 8 [b.enc],.arr 0 4 [v.enc]])=some o:=by
 have hkb:(b.kind == 6)=false:=by simpa using hk
 simp[hk]at hT;simp[Qfs,hk,hkb];exact hT
theorem Qyw (m:Md)(b:Ty)(v:Val)(h:Avm.H)(o:Ex×Env×Avm.H)(hk:b.kind=11)(hT:evC (Qb cfg) Qa cfg.pol h.length h.length Qey [(3,.ptr h.length 0 2 0 0),(4,.ptr (h.length+1) 0 8 0 0),(5,.ptr (h.length+2) 0 4 0 0),(26,.int .i64 b.kind),(111,.bool true)] (h++ [.arr 0 2 [m.enc],.arr 0 8 [b.enc],.arr 0 4 [v.enc]])=some o):evC (Qb cfg) Qa cfg.pol h.length h.length QcF [(3,.ptr h.length 0 2 0 0),(4,.ptr (h.length+1) 0 8 0 0),(5,.ptr (h.length+2) 0 4 0 0),(26,.int .i64 b.kind),(107,.bool false)] (h++ [.arr 0 2 [m.enc],.arr 0 8 [b.enc],.arr 0 4 [v.enc]])=some o:=by
 simp only[hk]at hT ⊢;simp[QcF]at hT ⊢;exact hT
theorem Qmw (m:Md)(b:Ty)(v:Val)(h:Avm.H)(o:Ex×Env×Avm.H)(hk: ¬b.kind=11)(hT:evC (Qb cfg) Qa cfg.pol h.length h.length QcE [(3,.ptr h.length 0 2 0 0),(4,.ptr (h.length+1) 0 8 0 0),(5,.ptr (h.length+2) 0 4 0 0),(26,.int .i64 b.kind),(111,.bool false)] (h++ [.arr 0 2 [m.enc],.arr 0 8 [b.enc],.arr 0 4 [v.enc]])=some o):evC (Qb cfg) Qa cfg.pol h.length h.length QcF [(3,.ptr h.length 0 2 0 0),(4,.ptr (h.length+1) 0 8 0 0),(5,.ptr (h.length+2) 0 4 0 0),(26,.int .i64 b.kind),(107,.bool false)] (h++ [.arr 0 2 [m.enc],.arr 0 8 [b.enc],.arr 0 4 [v.enc]])=some o:=by
 have hkb:(b.kind == 11)=false:=by simpa using hk
 simp[hk]at hT;simp[QcF,hk,hkb];exact hT
theorem Qyv (m:Md)(b:Ty)(v:Val)(h:Avm.H)(o:Ex×Env×Avm.H)(hk:b.kind=7)(hT:evC (Qb cfg) Qa cfg.pol h.length h.length QcC [(3,.ptr h.length 0 2 0 0),(4,.ptr (h.length+1) 0 8 0 0),(5,.ptr (h.length+2) 0 4 0 0),(26,.int .i64 b.kind),(121,.bool true)] (h++ [.arr 0 2 [m.enc],.arr 0 8 [b.enc],.arr 0 4 [v.enc]])=some o):evC (Qb cfg) Qa cfg.pol h.length h.length QcE [(3,.ptr h.length 0 2 0 0),(4,.ptr (h.length+1) 0 8 0 0),(5,.ptr (h.length+2) 0 4 0 0),(26,.int .i64 b.kind),(111,.bool false)] (h++ [.arr 0 2 [m.enc],.arr 0 8 [b.enc],.arr 0 4 [v.enc]])=some o:=by
 simp only[hk]at hT ⊢;simp[QcE]at hT ⊢;exact hT
theorem QrF (m:Md)(b:Ty)(v:Val)(h:Avm.H)(o:Ex×Env×Avm.H)(hk: ¬b.kind=7)(hT:evC (Qb cfg) Qa cfg.pol h.length h.length QcD [(3,.ptr h.length 0 2 0 0),(4,.ptr (h.length+1) 0 8 0 0),(5,.ptr (h.length+2) 0 4 0 0),(26,.int .i64 b.kind),(121,.bool false)] (h++ [.arr 0 2 [m.enc],.arr 0 8 [b.enc],.arr 0 4 [v.enc]])=some o):evC (Qb cfg) Qa cfg.pol h.length h.length QcE [(3,.ptr h.length 0 2 0 0),(4,.ptr (h.length+1) 0 8 0 0),(5,.ptr (h.length+2) 0 4 0 0),(26,.int .i64 b.kind),(111,.bool false)] (h++ [.arr 0 2 [m.enc],.arr 0 8 [b.enc],.arr 0 4 [v.enc]])=some o:=by
 have hkb:(b.kind == 7)=false:=by simpa using hk
 simp[hk]at hT;simp[QcE,hk,hkb];exact hT
theorem Qyu (m:Md)(b:Ty)(v:Val)(h:Avm.H)(o:Ex×Env×Avm.H)(hk:b.kind=9)(hT:evC (Qb cfg) Qa cfg.pol h.length h.length Qbd [(3,.ptr h.length 0 2 0 0),(4,.ptr (h.length+1) 0 8 0 0),(5,.ptr (h.length+2) 0 4 0 0),(139,.bool true)] (h++ [.arr 0 2 [m.enc],.arr 0 8 [b.enc],.arr 0 4 [v.enc]])=some o):evC (Qb cfg) Qa cfg.pol h.length h.length QcD [(3,.ptr h.length 0 2 0 0),(4,.ptr (h.length+1) 0 8 0 0),(5,.ptr (h.length+2) 0 4 0 0),(26,.int .i64 b.kind),(121,.bool false)] (h++ [.arr 0 2 [m.enc],.arr 0 8 [b.enc],.arr 0 4 [v.enc]])=some o:=by
 simp only[hk]at hT ⊢;simp[QcD]at hT ⊢;exact hT
theorem Qyy (m:Md)(b:Ty)(v:Val)(h:Avm.H)(o:Ex×Env×Avm.H)(hk: ¬b.kind=9)(hT:evC (Qb cfg) Qa cfg.pol h.length h.length .skip [(3,.ptr h.length 0 2 0 0),(4,.ptr (h.length+1) 0 8 0 0),(5,.ptr (h.length+2) 0 4 0 0),(139,.bool false)] (h++ [.arr 0 2 [m.enc],.arr 0 8 [b.enc],.arr 0 4 [v.enc]])=some o):evC (Qb cfg) Qa cfg.pol h.length h.length QcD [(3,.ptr h.length 0 2 0 0),(4,.ptr (h.length+1) 0 8 0 0),(5,.ptr (h.length+2) 0 4 0 0),(26,.int .i64 b.kind),(121,.bool false)] (h++ [.arr 0 2 [m.enc],.arr 0 8 [b.enc],.arr 0 4 [v.enc]])=some o:=by
 have hkb:(b.kind == 9)=false:=by simpa using hk
 simp[hk]at hT;simp[QcD,hk,hkb];exact hT
theorem Qtk (m:Md)(hm:m.ok)(t:Ty)(ht:t.wid<=67108864)(v:Val)(b:Ty)(hb:beh m 21 t=some b)(hvk:v.kind=b.kind)(hk:b.kind=0)(ws:Nat)(h:Avm.H)(r:Bool)(g:Avm.H)(hT:evC (Qb cfg) Qa cfg.pol h.length h.length QiS [(3,.ptr h.length 0 2 0 0),(4,.ptr (h.length+1) 0 8 0 0),(5,.ptr (h.length+2) 0 4 0 0),(26,.int .i64 b.kind),(27,.bool true)] (h++ [.arr 0 2 [m.enc],.arr 0 8 [b.enc],.arr 0 4 [v.enc]])=some (.ret,[(6,.bool r)],h++([.arr 0 2 [m.enc],.arr 0 8 [b.enc],.arr 0 4 [v.enc]]++g))):Qb cfg ws 49 [m.enc,t.enc,v.enc] h=some (.bool r,h):=by
 rw[hk]at hvk;have hbe:=fun ws h=>ZC m hm t ht ws h
 rw[hb]at hbe;simp[Md.enc,Ty.zero,hk,hvk]at hbe hT;refine Qc rfl rfl ?_
 simp[F49,c49,Md.enc,hbe,hk,hvk,hT]
theorem Jb (m:Md)(hm:m.ok)(t:Ty)(ht:t.wid<=67108864)(v:Val)(b:Ty)(hb:beh m 21 t=some b)(hvk:v.kind=b.kind)(hk: ¬b.kind=0)(ws:Nat)(h:Avm.H)(r:Bool)(g:Avm.H)(hT:evC (Qb cfg) Qa cfg.pol h.length h.length Qdw [(3,.ptr h.length 0 2 0 0),(4,.ptr (h.length+1) 0 8 0 0),(5,.ptr (h.length+2) 0 4 0 0),(26,.int .i64 b.kind),(27,.bool false)] (h++ [.arr 0 2 [m.enc],.arr 0 8 [b.enc],.arr 0 4 [v.enc]])=some (.ret,[(6,.bool r)],h++([.arr 0 2 [m.enc],.arr 0 8 [b.enc],.arr 0 4 [v.enc]]++g))):Qb cfg ws 49 [m.enc,t.enc,v.enc] h=some (.bool r,h):=by
 have hkb:(b.kind == 0)=false:=by simpa using hk
 have hbe:=fun ws h=>ZC m hm t ht ws h
 rw[hb]at hbe;simp[Md.enc,Ty.zero,hvk]at hbe hT;refine Qc rfl rfl ?_
 simp[F49,c49,Md.enc,hbe,hk,hkb,hvk,hT]
theorem Qtj (m:Md)(hm:m.ok)(t:Ty)(ht:t.wid<=67108864)(v:Val)(b:Ty)(hb:beh m 21 t=some b)(hvk:v.kind=b.kind)(hk: ¬b.kind=0)(ws:Nat)(h:Avm.H)(r:Bool)(g:Avm.H)(hE:evC (Qb cfg) Qa cfg.pol h.length h.length Qdw [(3,.ptr h.length 0 2 0 0),(4,.ptr (h.length+1) 0 8 0 0),(5,.ptr (h.length+2) 0 4 0 0),(26,.int .i64 b.kind),(27,.bool false)] (h++ [.arr 0 2 [m.enc],.arr 0 8 [b.enc],.arr 0 4 [v.enc]])=some (.normal,[(3,.ptr h.length 0 2 0 0),(4,.ptr (h.length+1) 0 8 0 0),(5,.ptr (h.length+2) 0 4 0 0),(139,.bool false)],(h++ [.arr 0 2 [m.enc],.arr 0 8 [b.enc],.arr 0 4 [v.enc]])))
    (hT:evC (Qb cfg) Qa cfg.pol h.length h.length Qdv [(3,.ptr h.length 0 2 0 0),(4,.ptr (h.length+1) 0 8 0 0),(5,.ptr (h.length+2) 0 4 0 0)] (h++ [.arr 0 2 [m.enc],.arr 0 8 [b.enc],.arr 0 4 [v.enc]])=some (.ret,[(6,.bool r)],h++([.arr 0 2 [m.enc],.arr 0 8 [b.enc],.arr 0 4 [v.enc]]++g))):Qb cfg ws 49 [m.enc,t.enc,v.enc] h=some (.bool r,h):=by
 have hkb:(b.kind == 0)=false:=by simpa using hk
 have hbe:=fun ws h=>ZC m hm t ht ws h
 rw[hb]at hbe;simp[Md.enc,Ty.zero,hvk]at hbe hE hT;refine Qc rfl rfl ?_
 simp[F49,c49,Md.enc,hbe,hk,hkb,hvk,hE,hT]
theorem Qon (m:Md)(hm:m.ok)(t:Ty)(ht:t.wid<=67108864)(v:Val)(b:Ty)(hb:beh m 21 t=some b)(hvk:v.kind=b.kind)(hk:b.kind=0)(ws:Nat)(h:Avm.H)(r:Bool)(g:Avm.H)(hT:evC (Qb cfg) Qa cfg.pol h.length h.length QiS [(3,.ptr h.length 0 2 0 0),(4,.ptr (h.length+1) 0 8 0 0),(5,.ptr (h.length+2) 0 4 0 0),(26,.int .i64 b.kind),(27,.bool true)] (h++ [.arr 0 2 [m.enc],.arr 0 8 [b.enc],.arr 0 4 [v.enc]])=some (.ret,[(6,.bool r)],h++([.arr 0 2 [m.enc],.arr 0 8 [b.enc],.arr 0 4 [v.enc]]++g))):Qb cfg ws 49 [m.enc,t.enc,v.enc] h=some (.bool r,h):=by
 exact Qtk m hm t ht v b hb hvk hk ws h r g hT
theorem Qom (m:Md)(hm:m.ok)(t:Ty)(ht:t.wid<=67108864)(v:Val)(b:Ty)(hb:beh m 21 t=some b)(hvk:v.kind=b.kind)(hk:b.kind=1)(ws:Nat)(h:Avm.H)(r:Bool)(g:Avm.H)(hT:evC (Qb cfg) Qa cfg.pol h.length h.length QiR [(3,.ptr h.length 0 2 0 0),(4,.ptr (h.length+1) 0 8 0 0),(5,.ptr (h.length+2) 0 4 0 0),(26,.int .i64 b.kind),(31,.bool true)] (h++ [.arr 0 2 [m.enc],.arr 0 8 [b.enc],.arr 0 4 [v.enc]])=some (.ret,[(6,.bool r)],h++([.arr 0 2 [m.enc],.arr 0 8 [b.enc],.arr 0 4 [v.enc]]++g))):Qb cfg ws 49 [m.enc,t.enc,v.enc] h=some (.bool r,h):=by
 have n0: ¬b.kind=0:=by omega
 refine Jb m hm t ht v b hb hvk n0 ws h r g ?_
 exact QAt m b v h _ hk hT
theorem Qol (m:Md)(hm:m.ok)(t:Ty)(ht:t.wid<=67108864)(v:Val)(b:Ty)(hb:beh m 21 t=some b)(hvk:v.kind=b.kind)(hk:b.kind=2)(ws:Nat)(h:Avm.H)(r:Bool)(g:Avm.H)(hT:evC (Qb cfg) Qa cfg.pol h.length h.length QbW [(3,.ptr h.length 0 2 0 0),(4,.ptr (h.length+1) 0 8 0 0),(5,.ptr (h.length+2) 0 4 0 0),(26,.int .i64 b.kind),(40,.bool true)] (h++ [.arr 0 2 [m.enc],.arr 0 8 [b.enc],.arr 0 4 [v.enc]])=some (.ret,[(6,.bool r)],h++([.arr 0 2 [m.enc],.arr 0 8 [b.enc],.arr 0 4 [v.enc]]++g))):Qb cfg ws 49 [m.enc,t.enc,v.enc] h=some (.bool r,h):=by
 have n0: ¬b.kind=0:=by omega
 refine Jb m hm t ht v b hb hvk n0 ws h r g ?_
 refine Qbc m b v h _ (by omega) ?_
 exact QAs m b v h _ hk hT
theorem Qok (m:Md)(hm:m.ok)(t:Ty)(ht:t.wid<=67108864)(v:Val)(b:Ty)(hb:beh m 21 t=some b)(hvk:v.kind=b.kind)(hk:b.kind=3)(ws:Nat)(h:Avm.H)(r:Bool)(g:Avm.H)(hT:evC (Qb cfg) Qa cfg.pol h.length h.length QiQ [(3,.ptr h.length 0 2 0 0),(4,.ptr (h.length+1) 0 8 0 0),(5,.ptr (h.length+2) 0 4 0 0),(26,.int .i64 b.kind),(66,.bool true)] (h++ [.arr 0 2 [m.enc],.arr 0 8 [b.enc],.arr 0 4 [v.enc]])=some (.ret,[(6,.bool r)],h++([.arr 0 2 [m.enc],.arr 0 8 [b.enc],.arr 0 4 [v.enc]]++g))):Qb cfg ws 49 [m.enc,t.enc,v.enc] h=some (.bool r,h):=by
 have n0: ¬b.kind=0:=by omega
 refine Jb m hm t ht v b hb hvk n0 ws h r g ?_
 refine Qbc m b v h _ (by omega) ?_
 refine QbU m b v h _ (by omega) ?_
 exact QAr m b v h _ hk hT
theorem Qoj (m:Md)(hm:m.ok)(t:Ty)(ht:t.wid<=67108864)(v:Val)(b:Ty)(hb:beh m 21 t=some b)(hvk:v.kind=b.kind)(hk:b.kind=4)(ws:Nat)(h:Avm.H)(r:Bool)(g:Avm.H)(hT:evC (Qb cfg) Qa cfg.pol h.length h.length QiP [(3,.ptr h.length 0 2 0 0),(4,.ptr (h.length+1) 0 8 0 0),(5,.ptr (h.length+2) 0 4 0 0),(26,.int .i64 b.kind),(79,.bool true)] (h++ [.arr 0 2 [m.enc],.arr 0 8 [b.enc],.arr 0 4 [v.enc]])=some (.ret,[(6,.bool r)],h++([.arr 0 2 [m.enc],.arr 0 8 [b.enc],.arr 0 4 [v.enc]]++g))):Qb cfg ws 49 [m.enc,t.enc,v.enc] h=some (.bool r,h):=by
 have n0: ¬b.kind=0:=by omega
 refine Jb m hm t ht v b hb hvk n0 ws h r g ?_
 refine Qbc m b v h _ (by omega) ?_
 refine QbU m b v h _ (by omega) ?_
 refine Qdt m b v h _ (by omega) ?_
 exact QAq m b v h _ hk hT
theorem Qoi (m:Md)(hm:m.ok)(t:Ty)(ht:t.wid<=67108864)(v:Val)(b:Ty)(hb:beh m 21 t=some b)(hvk:v.kind=b.kind)(hk:b.kind=5)(ws:Nat)(h:Avm.H)(r:Bool)(g:Avm.H)(hT:evC (Qb cfg) Qa cfg.pol h.length h.length Qfr [(3,.ptr h.length 0 2 0 0),(4,.ptr (h.length+1) 0 8 0 0),(5,.ptr (h.length+2) 0 4 0 0),(26,.int .i64 b.kind),(90,.bool true)] (h++ [.arr 0 2 [m.enc],.arr 0 8 [b.enc],.arr 0 4 [v.enc]])=some (.ret,[(6,.bool r)],h++([.arr 0 2 [m.enc],.arr 0 8 [b.enc],.arr 0 4 [v.enc]]++g))):Qb cfg ws 49 [m.enc,t.enc,v.enc] h=some (.bool r,h):=by
 have n0: ¬b.kind=0:=by omega
 refine Jb m hm t ht v b hb hvk n0 ws h r g ?_
 refine Qbc m b v h _ (by omega) ?_
 refine QbU m b v h _ (by omega) ?_
 refine Qdt m b v h _ (by omega) ?_
 refine Qfp m b v h _ (by omega) ?_
 exact QAp m b v h _ hk hT
theorem Qoh (m:Md)(hm:m.ok)(t:Ty)(ht:t.wid<=67108864)(v:Val)(b:Ty)(hb:beh m 21 t=some b)(hvk:v.kind=b.kind)(hk:b.kind=6)(ws:Nat)(h:Avm.H)(r:Bool)(g:Avm.H)(hT:evC (Qb cfg) Qa cfg.pol h.length h.length Qhp [(3,.ptr h.length 0 2 0 0),(4,.ptr (h.length+1) 0 8 0 0),(5,.ptr (h.length+2) 0 4 0 0),(26,.int .i64 b.kind),(107,.bool true)] (h++ [.arr 0 2 [m.enc],.arr 0 8 [b.enc],.arr 0 4 [v.enc]])=some (.ret,[(6,.bool r)],h++([.arr 0 2 [m.enc],.arr 0 8 [b.enc],.arr 0 4 [v.enc]]++g))):Qb cfg ws 49 [m.enc,t.enc,v.enc] h=some (.bool r,h):=by
 have n0: ¬b.kind=0:=by omega
 refine Jb m hm t ht v b hb hvk n0 ws h r g ?_
 refine Qbc m b v h _ (by omega) ?_
 refine QbU m b v h _ (by omega) ?_
 refine Qdt m b v h _ (by omega) ?_
 refine Qfp m b v h _ (by omega) ?_
 refine QiL m b v h _ (by omega) ?_
 exact Qyx m b v h _ hk hT
theorem Qme (m:Md)(hm:m.ok)(t:Ty)(ht:t.wid<=67108864)(v:Val)(b:Ty)(hb:beh m 21 t=some b)(hvk:v.kind=b.kind)(hk:b.kind=11)(ws:Nat)(h:Avm.H)(r:Bool)(g:Avm.H)(hT:evC (Qb cfg) Qa cfg.pol h.length h.length Qey [(3,.ptr h.length 0 2 0 0),(4,.ptr (h.length+1) 0 8 0 0),(5,.ptr (h.length+2) 0 4 0 0),(26,.int .i64 b.kind),(111,.bool true)] (h++ [.arr 0 2 [m.enc],.arr 0 8 [b.enc],.arr 0 4 [v.enc]])=some (.ret,[(6,.bool r)],h++([.arr 0 2 [m.enc],.arr 0 8 [b.enc],.arr 0 4 [v.enc]]++g))):Qb cfg ws 49 [m.enc,t.enc,v.enc] h=some (.bool r,h):=by
 have n0: ¬b.kind=0:=by omega
 refine Jb m hm t ht v b hb hvk n0 ws h r g ?_
 refine Qbc m b v h _ (by omega) ?_
 refine QbU m b v h _ (by omega) ?_
 refine Qdt m b v h _ (by omega) ?_
 refine Qfp m b v h _ (by omega) ?_
 refine QiL m b v h _ (by omega) ?_
 refine Qhn m b v h _ (by omega) ?_
 exact Qyw m b v h _ hk hT
theorem Qog (m:Md)(hm:m.ok)(t:Ty)(ht:t.wid<=67108864)(v:Val)(b:Ty)(hb:beh m 21 t=some b)(hvk:v.kind=b.kind)(hk:b.kind=7)(ws:Nat)(h:Avm.H)(r:Bool)(g:Avm.H)(hT:evC (Qb cfg) Qa cfg.pol h.length h.length QcC [(3,.ptr h.length 0 2 0 0),(4,.ptr (h.length+1) 0 8 0 0),(5,.ptr (h.length+2) 0 4 0 0),(26,.int .i64 b.kind),(121,.bool true)] (h++ [.arr 0 2 [m.enc],.arr 0 8 [b.enc],.arr 0 4 [v.enc]])=some (.ret,[(6,.bool r)],h++([.arr 0 2 [m.enc],.arr 0 8 [b.enc],.arr 0 4 [v.enc]]++g))):Qb cfg ws 49 [m.enc,t.enc,v.enc] h=some (.bool r,h):=by
 have n0: ¬b.kind=0:=by omega
 refine Jb m hm t ht v b hb hvk n0 ws h r g ?_
 refine Qbc m b v h _ (by omega) ?_
 refine QbU m b v h _ (by omega) ?_
 refine Qdt m b v h _ (by omega) ?_
 refine Qfp m b v h _ (by omega) ?_
 refine QiL m b v h _ (by omega) ?_
 refine Qhn m b v h _ (by omega) ?_
 refine Qmw m b v h _ (by omega) ?_
 exact Qyv m b v h _ hk hT
theorem Qof (m:Md)(hm:m.ok)(t:Ty)(ht:t.wid<=67108864)(v:Val)(b:Ty)(hb:beh m 21 t=some b)(hvk:v.kind=b.kind)(hk:b.kind=9)(ws:Nat)(h:Avm.H)(r:Bool)(g:Avm.H)(hT:evC (Qb cfg) Qa cfg.pol h.length h.length Qbd [(3,.ptr h.length 0 2 0 0),(4,.ptr (h.length+1) 0 8 0 0),(5,.ptr (h.length+2) 0 4 0 0),(139,.bool true)] (h++ [.arr 0 2 [m.enc],.arr 0 8 [b.enc],.arr 0 4 [v.enc]])=some (.ret,[(6,.bool r)],h++([.arr 0 2 [m.enc],.arr 0 8 [b.enc],.arr 0 4 [v.enc]]++g))):Qb cfg ws 49 [m.enc,t.enc,v.enc] h=some (.bool r,h):=by
 have n0: ¬b.kind=0:=by omega
 refine Jb m hm t ht v b hb hvk n0 ws h r g ?_
 refine Qbc m b v h _ (by omega) ?_
 refine QbU m b v h _ (by omega) ?_
 refine Qdt m b v h _ (by omega) ?_
 refine Qfp m b v h _ (by omega) ?_
 refine QiL m b v h _ (by omega) ?_
 refine Qhn m b v h _ (by omega) ?_
 refine Qmw m b v h _ (by omega) ?_
 refine QrF m b v h _ (by omega) ?_
 exact Qyu m b v h _ hk hT
theorem WH (m:Md)(hm:m.ok)(t:Ty)(ht:t.wid<=67108864)(v:Val)(b:Ty)(hb:beh m 21 t=some b)(hvk:v.kind=b.kind)(hk:b.kind=8)(ws:Nat)(h:Avm.H)(r:Bool)(g:Avm.H)(hT:evC (Qb cfg) Qa cfg.pol h.length h.length Qdv [(3,.ptr h.length 0 2 0 0),(4,.ptr (h.length+1) 0 8 0 0),(5,.ptr (h.length+2) 0 4 0 0)] (h++ [.arr 0 2 [m.enc],.arr 0 8 [b.enc],.arr 0 4 [v.enc]])=some (.ret,[(6,.bool r)],h++([.arr 0 2 [m.enc],.arr 0 8 [b.enc],.arr 0 4 [v.enc]]++g))):Qb cfg ws 49 [m.enc,t.enc,v.enc] h=some (.bool r,h):=by
 have n0: ¬b.kind=0:=by omega
 refine Qtj m hm t ht v b hb hvk n0 ws h r g ?_ hT
 refine Qbc m b v h _ (by omega) ?_
 refine QbU m b v h _ (by omega) ?_
 refine Qdt m b v h _ (by omega) ?_
 refine Qfp m b v h _ (by omega) ?_
 refine QiL m b v h _ (by omega) ?_
 refine Qhn m b v h _ (by omega) ?_
 refine Qmw m b v h _ (by omega) ?_
 refine QrF m b v h _ (by omega) ?_
 refine Qyy m b v h _ (by omega) ?_
 simp
end Go.Proofs.YtflbneepngjglaaGreatDoor
namespace Go.Proofs.YtflbneepngjglaaGreatDoor
open Go Go.Avm
theorem QAf (m:Md)(hm:m.ok)(t:Ty)(ht:t.wid<=67108864)(v:Val)(hv:v.size<=67108864)(b:Ty)(hb:beh m 21 t=some b)(hb1:b.wid<=67108864)(hvk:v.kind=b.kind)(hk:b.kind=0)(ws:Nat)(h:Avm.H):Qb cfg ws 49 [m.enc,t.enc,v.enc] h=some (.bool (QM false false false v),h):=by
 have hwi:=b.Qe;have hws:IntKind.wrap .i64 ((b.items.length:Int)-1)=(b.items.length:Int)-1:=Qo (by omega) (by omega)
 have hvb:=v.QK;have hbb:((v.bytes.size:Int)<=4000)↔v.bytes.size<=4000:=by omega
 have hvi:=v.Qv;have hvk0:=hvk;rw[hk]at hvk;have e0:=fun ws h=>Qrw v ws h
 simp[hk,hvk]at e0;refine Qon m hm t ht v b hb hvk0 hk ws h _ [] ?_
 cases p9:QM false false false v
 ·simp only[p9]at e0;simp[QiS,hbb,Md.enc,hk,hvk,hws,e0,p9]
 ·simp only[p9]at e0;simp[QiS,hbb,Md.enc,hk,hvk,hws,e0,p9]
theorem QAe (m:Md)(hm:m.ok)(t:Ty)(ht:t.wid<=67108864)(v:Val)(hv:v.size<=67108864)(b:Ty)(hb:beh m 21 t=some b)(hb1:b.wid<=67108864)(hvk:v.kind=b.kind)(hk:b.kind=1)(ws:Nat)(h:Avm.H):Qb cfg ws 49 [m.enc,t.enc,v.enc] h=some (.bool (QM true false false v&&inP v.int 0 1),h):=by
 have hwi:=b.Qe;have hws:IntKind.wrap .i64 ((b.items.length:Int)-1)=(b.items.length:Int)-1:=Qo (by omega) (by omega)
 have hvb:=v.QK;have hbb:((v.bytes.size:Int)<=4000)↔v.bytes.size<=4000:=by omega
 have hvi:=v.Qv;have hvk0:=hvk;rw[hk]at hvk;have e0:=fun ws h=>Qhe v ws h
 have e1:=fun ws h=>Qgr v.int 0 1 ws h
 simp[hk,hvk]at e0 e1;refine Qom m hm t ht v b hb hvk0 hk ws h _ [] ?_
 cases p9:QM true false false v
 ·simp only[p9]at e0 e1;simp[QiR,hbb,Md.enc,hk,hvk,hws,e0,e1,p9]
 ·simp only[p9]at e0 e1;simp[QiR,hbb,Md.enc,hk,hvk,hws,e0,e1,p9]
theorem QAd (m:Md)(hm:m.ok)(t:Ty)(ht:t.wid<=67108864)(v:Val)(hv:v.size<=67108864)(b:Ty)(hb:beh m 21 t=some b)(hb1:b.wid<=67108864)(hvk:v.kind=b.kind)(hk:b.kind=2)(ws:Nat)(h:Avm.H):Qb cfg ws 49 [m.enc,t.enc,v.enc] h=some (.bool (QM true false false v&&(inP v.int (-1000000000000000) 1000000000000000&&(b.free||(b.ext||inP v.int b.lo b.hi)))),h):=by
 have hwi:=b.Qe;have hws:IntKind.wrap .i64 ((b.items.length:Int)-1)=(b.items.length:Int)-1:=Qo (by omega) (by omega)
 have hvb:=v.QK;have hbb:((v.bytes.size:Int)<=4000)↔v.bytes.size<=4000:=by omega
 have hvi:=v.Qv;have hvk0:=hvk;rw[hk]at hvk;have e0:=fun ws h=>Qhe v ws h
 have e1:=fun ws h=>Qgr v.int (-1000000000000000) 1000000000000000 ws h
 have e2:=fun ws h=>Qgr v.int b.lo b.hi ws h
 simp[hk,hvk]at e0 e1 e2;refine Qol m hm t ht v b hb hvk0 hk ws h _ [] ?_
 cases p6:QM true false false v
 ·simp only[p6]at e0 e1 e2;simp[QbW,hbb,Md.enc,hk,hvk,hws,e0,e1,e2,p6]
 ·simp only[p6]at e0 e1 e2;cases p7:inP v.int (-1000000000000000) 1000000000000000
  ·simp only[p7]at e0 e1 e2;simp[QbW,hbb,Md.enc,hk,hvk,hws,e0,e1,e2,p6,p7]
  ·simp only[p7]at e0 e1 e2;cases p8:b.free
   ·skip
    cases p9:b.ext
    ·skip
     simp[QbW,hbb,Md.enc,hk,hvk,hws,e0,e1,e2,p6,p7,p8,p9]
    ·skip
     simp[QbW,hbb,Md.enc,hk,hvk,hws,e0,e1,e2,p6,p7,p8,p9]
   ·skip
    simp[QbW,hbb,Md.enc,hk,hvk,hws,e0,e1,e2,p6,p7,p8]
theorem QAc (m:Md)(hm:m.ok)(t:Ty)(ht:t.wid<=67108864)(v:Val)(hv:v.size<=67108864)(b:Ty)(hb:beh m 21 t=some b)(hb1:b.wid<=67108864)(hvk:v.kind=b.kind)(hk:b.kind=3)(ws:Nat)(h:Avm.H):Qb cfg ws 49 [m.enc,t.enc,v.enc] h=some (.bool (QM true false false v&&inP v.int 0 ((b.items.length:Int)-1)),h):=by
 have hwi:=b.Qe;have hws:IntKind.wrap .i64 ((b.items.length:Int)-1)=(b.items.length:Int)-1:=Qo (by omega) (by omega)
 have hvb:=v.QK;have hbb:((v.bytes.size:Int)<=4000)↔v.bytes.size<=4000:=by omega
 have hvi:=v.Qv;have hvk0:=hvk;rw[hk]at hvk;have e0:=fun ws h=>Qhe v ws h
 have e1:=fun ws h=>Qgr v.int 0 ((b.items.length:Int)-1) ws h
 simp[hk,hvk]at e0 e1;refine Qok m hm t ht v b hb hvk0 hk ws h _ [] ?_
 cases p9:QM true false false v
 ·simp only[p9]at e0 e1;simp[QiQ,hbb,Md.enc,hk,hvk,hws,e0,e1,p9]
 ·simp only[p9]at e0 e1;simp[QiQ,hbb,Md.enc,hk,hvk,hws,e0,e1,p9]
end Go.Proofs.YtflbneepngjglaaGreatDoor
namespace Go.Proofs.YtflbneepngjglaaGreatDoor
open Go Go.Avm
theorem QAb (m:Md)(hm:m.ok)(t:Ty)(ht:t.wid<=67108864)(v:Val)(hv:v.size<=67108864)(b:Ty)(hb:beh m 21 t=some b)(hb1:b.wid<=67108864)(hvk:v.kind=b.kind)(hk:b.kind=4)(ws:Nat)(h:Avm.H):Qb cfg ws 49 [m.enc,t.enc,v.enc] h=some (.bool (QM false true false v&&ZE b (v.bytes.size:Int) 4000),h):=by
 have hwi:=b.Qe;have hws:IntKind.wrap .i64 ((b.items.length:Int)-1)=(b.items.length:Int)-1:=Qo (by omega) (by omega)
 have hvb:=v.QK;have hbb:((v.bytes.size:Int)<=4000)↔v.bytes.size<=4000:=by omega
 have hvi:=v.Qv;have hvk0:=hvk;rw[hk]at hvk;have e0:=fun ws h=>Qmd v ws h
 have e1:=fun ws h=>QdL b (v.bytes.size:Int) 4000 ws h
 simp[hk,hvk]at e0 e1;refine Qoj m hm t ht v b hb hvk0 hk ws h _ [] ?_
 cases p9:QM false true false v
 ·simp only[p9]at e0 e1;simp[QiP,hbb,Md.enc,hk,hvk,hws,e0,e1,p9]
 ·simp only[p9]at e0 e1;simp[QiP,hbb,Md.enc,hk,hvk,hws,e0,e1,p9]
theorem QzZ (m:Md)(hm:m.ok)(t:Ty)(ht:t.wid<=67108864)(v:Val)(hv:v.size<=67108864)(b:Ty)(hb:beh m 21 t=some b)(hb1:b.wid<=67108864)(hvk:v.kind=b.kind)(hk:b.kind=6)(ws:Nat)(h:Avm.H):Qb cfg ws 49 [m.enc,t.enc,v.enc] h=some (.bool (QjN v),h):=by
 have hwi:=b.Qe;have hws:IntKind.wrap .i64 ((b.items.length:Int)-1)=(b.items.length:Int)-1:=Qo (by omega) (by omega)
 have hvb:=v.QK;have hbb:((v.bytes.size:Int)<=4000)↔v.bytes.size<=4000:=by omega
 have hvi:=v.Qv;have hvk0:=hvk;rw[hk]at hvk;have e0:=fun ws h=>QyL v hv ws h
 simp[hk,hvk]at e0;refine Qoh m hm t ht v b hb hvk0 hk ws h _ [] ?_
 simp[Qhp,hbb,Md.enc,hk,hvk,hws,e0]
theorem Qyh (m:Md)(hm:m.ok)(t:Ty)(ht:t.wid<=67108864)(v:Val)(hv:v.size<=67108864)(b:Ty)(hb:beh m 21 t=some b)(hb1:b.wid<=67108864)(hvk:v.kind=b.kind)(hk:b.kind=11)(ws:Nat)(h:Avm.H):Qb cfg ws 49 [m.enc,t.enc,v.enc] h=some (.bool (QM false true false v&&decide (v.bytes.size<=4000)),h):=by
 have hwi:=b.Qe;have hws:IntKind.wrap .i64 ((b.items.length:Int)-1)=(b.items.length:Int)-1:=Qo (by omega) (by omega)
 have hvb:=v.QK;have hbb:((v.bytes.size:Int)<=4000)↔v.bytes.size<=4000:=by omega
 have hvi:=v.Qv;have hvk0:=hvk;rw[hk]at hvk;have e0:=fun ws h=>Qmd v ws h
 simp[hk,hvk]at e0;refine Qme m hm t ht v b hb hvk0 hk ws h _ [] ?_
 cases p9:QM false true false v
 ·simp only[p9]at e0;simp[Qey,hbb,Md.enc,hk,hvk,hws,e0,p9]
 ·simp only[p9]at e0;simp[Qey,hbb,Md.enc,hk,hvk,hws,e0,p9]
end Go.Proofs.YtflbneepngjglaaGreatDoor
