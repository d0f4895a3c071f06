/- Whether a value fits a type: the program, kind by kind. -/
import Derived.Test.YtflbneepngjglaaGreatDoorO37
set_option linter.all false
namespace Go.Proofs.YtflbneepngjglaaGreatDoor
open Go Go.Avm
def Zn (sub:Ty->Val->Bool)(p:It×Val):Bool:=(decide (p.2.kind=12)&&(QL false false false p.2&&QiY p.1))||sub p.1.of p.2
def JO (b:Ty)(v:Val)(sub:Ty->Val->Bool):Bool:=
 if b.kind=0 then QL false false false v
 else if b.kind=1 then QL true false false v&&inP v.int 0 1
 else if b.kind=2 then QL true false false v&&(inP v.int (-1000000000000000) 1000000000000000&&(b.free||(b.ext||inP v.int b.lo b.hi)))
 else if b.kind=3 then QL true false false v&&inP v.int 0 ((b.items.length:Int)-1)
 else if b.kind=4 then QL false true false v&&ZB b (v.bytes.size:Int) 4000
 else if b.kind=5 then QL false true false v&&(v.bytes.data.toList.all d01&&ZB b (v.bytes.size:Int) 32000)
 else if b.kind=6 then QfH v
 else if b.kind=11 then QL false true false v&&decide (v.bytes.size<=4000)
 else if b.kind=7 then QL false false true v&&(ZB b (v.items.length:Int) 200&&v.items.all (sub (b.kids.headD Ty.zero)))
 else if b.kind=9 then QL true false true v&&(inP v.int 0 ((b.items.length:Int)-1)&&(decide (v.items.length=1)&&sub ((b.items[v.int.toNat]?.map It.of).getD Ty.zero) (v.items.headD (.mk 0 0 ⟨#[]⟩ []))))
 else QL false false true v&&(decide (v.items.length=b.items.length)&&(b.items.zip v.items).all (Zn sub))
def Xn (m:Md):Nat->Ty->Val->Bool
 | 0,_,_=>false
 | n+1,t,v=>match beh m 21 t with
  | none=>false
  | some b=>decide (v.kind=b.kind)&&JO b v (Xn m n)
theorem QlT {g:FuncId}{k:Nat}{p:Val->Bool}{cap cap':List AV}(l:List Val)(hl:l.length<=67108864)(hs:Still cfg g)(h:Avm.H)(hcap:QH (snap h 7) cap=some cap')(hcp:Qv cap'=true)(hp: ∀x∈l,∀ws h',Qb cfg ws g (cap'.take k++([x.enc]++cap'.drop k)) h'=some (.bool (p x),h'))(ws:Nat):
    Qb cfg ws 91 [.isl (l.map Val.enc),.QI g k cap] h=some (.bool (l.any p),h):=
 ZZ (K:=174) (sz:=4) (ag:=true) rfl rfl rfl rfl hl (by simp) (Val.Qja l) hs hcap hcp hp ws
theorem QsN (m:Md)(b:Ty)(v:Val)(hlen:v.items.length=b.items.length)(hvl:v.items.length<=67108864)(sub:Ty->Val->Bool)(hsub: ∀i∈b.items,∀x∈v.items,∀ws h,Qb cfg ws 49 [m.enc,i.of.enc,x.enc] h=some (.bool (sub i.of x),h))(h:Avm.H):
    ∃g,Qa (evC (Qb cfg) Qa cfg.pol h.length h.length QbN) [3,4,186,187,188] [(3,.ptr h.length 0 2 0 0),(4,.ptr (h.length+1) 0 8 0 0),(186,.isl (v.items.map Val.enc)),(187,.int .i64 v.items.length),(188,.int .i64 (0:Nat))] (h++([.arr 0 2 [m.enc],.arr 0 8 [b.enc],.arr 0 4 [v.enc]]++ []))=some (if(b.items.zip v.items).all (Zn sub)=true then(.exit 1,[(3,.ptr h.length 0 2 0 0),(4,.ptr (h.length+1) 0 8 0 0),(186,.isl (v.items.map Val.enc)),(187,.int .i64 v.items.length),(188,.int .i64 v.items.length)],h++([.arr 0 2 [m.enc],.arr 0 8 [b.enc],.arr 0 4 [v.enc]]++g))else(.ret,[(6,.bool false)],h++([.arr 0 2 [m.enc],.arr 0 8 [b.enc],.arr 0 4 [v.enc]]++g))):=by
 have hzl:(b.items.zip v.items).length=v.items.length:=by simp[hlen]
 have hl:(b.items.zip v.items).length<=67108864:=by omega
 have hlp:=Qg (γ:=Avm.H) (f:=evC (Qb cfg) Qa cfg.pol h.length h.length QbN) (keep:=[3,4,186,187,188]) (b.items.zip v.items) (fun _ _=>True)
      (fun i _=>[(3,.ptr h.length 0 2 0 0),(4,.ptr (h.length+1) 0 8 0 0),(186,.isl (v.items.map Val.enc)),(187,.int .i64 v.items.length),(188,.int .i64 i)]) (fun _ g=>h++([.arr 0 2 [m.enc],.arr 0 8 [b.enc],.arr 0 4 [v.enc]]++g))
      (fun _ r o=>∃g,o=if r.all (Zn sub)=true then(.exit 1,[(3,.ptr h.length 0 2 0 0),(4,.ptr (h.length+1) 0 8 0 0),(186,.isl (v.items.map Val.enc)),(187,.int .i64 v.items.length),(188,.int .i64 v.items.length)],h++([.arr 0 2 [m.enc],.arr 0 8 [b.enc],.arr 0 4 [v.enc]]++g))else(.ret,[(6,.bool false)],h++([.arr 0 2 [m.enc],.arr 0 8 [b.enc],.arr 0 4 [v.enc]]++g))) ?_ ?_ [] trivial
 ·obtain⟨o,h1,g,h2⟩:=hlp;exact⟨g,h2▸h1⟩
 ·intro i x r g hd hi hx _ K hK;have hw:=Qd (n:=i+1) (by omega)
  simp at hw;have hiv:i<v.items.length:=by omega
  have hib:i<b.items.length:=by omega
  obtain⟨y,x⟩:=x;rw[List.getElem_zip]at hx;have hxv:v.items[i]=x:=congrArg Prod.snd hx;have hxb:b.items[i]=y:=congrArg Prod.fst hx;have hmx:x∈v.items:=by rw[←hxv]; exact List.getElem_mem hiv
  have hmy:y∈b.items:=by rw[←hxb]; exact List.getElem_mem hib
  have e1:=fun ws h=>hsub y hmy x hmx ws h
  have e2:=fun ws h=>QqZ x ws h
  have e3:=fun ws h=>QyU y ws h
  simp[Md.enc]at e1 e2 e3;cases hv:Zn sub (y,x)
  ·refine⟨_,?_,g++ [.arr 0 4 [x.enc]],by simp only[List.all_cons,hv,Bool.false_and,Bool.false_eq_true,if_false]; rfl⟩
   unfold Zn at hv;simp at hv;by_cases q1:x.kind=12
   ·simp[q1]at e1 e2;cases q2:QL false false false x
    ·rw[q2]at e2;simp[QbN,QbM,Md.enc,hiv,hib,hxv,hxb,e1,e2,hv,q1]
    ·rw[q2]at e2;cases q3:QiY y
     ·rw[q3]at e3;simp[QbN,QbM,Md.enc,hiv,hib,hxv,hxb,e1,e2,e3,hv,q1]
     ·simp[q1,q2,q3]at hv
   ·simp[QbN,QbM,Md.enc,hiv,hib,hxv,hxb,e1,hv,q1]
  ·obtain⟨o,h4,g2,h5⟩:=hK (g++ [.arr 0 4 [x.enc]]) trivial;refine⟨o,?_,g2,by simp only[List.all_cons,hv,Bool.true_and]; exact h5⟩
   unfold Zn at hv;simp at hv;by_cases q1:x.kind=12
   ·simp[q1]at e1 e2;simp[Md.enc,q1]at h4;cases q2:QL false false false x
    ·rw[q2]at e2;simp[q1,q2]at hv;simp[QbN,QbM,Md.enc,hiv,hib,hxv,hxb,e1,e2,hv,q1,hw,h4]
    ·rw[q2]at e2;cases q3:QiY y
     ·rw[q3]at e3;simp[q1,q2,q3]at hv;simp[QbN,QbM,Md.enc,hiv,hib,hxv,hxb,e1,e2,e3,hv,q1,hw,h4]
     ·rw[q3]at e3;simp[QbN,QbM,Md.enc,hiv,hib,hxv,hxb,e2,e3,q1,hw,h4]
   ·simp[q1]at hv;simp[Md.enc]at h4;simp[QbN,QbM,Md.enc,hiv,hib,hxv,hxb,e1,hv,q1,hw,h4]
 ·intro g K _;refine⟨_,?_,g,by simp only[List.all_nil,if_true]; rfl⟩
  simp[QbN,Md.enc,hlen]
theorem Qvt (m:Md)(t:Ty)(v:Val)(hv:v.size<=67108864)(b:Ty)(hb1:b.wid<=67108864)(sub:Ty->Val->Bool)
    (hsub: ∀x∈v.items,∀ws h,Qb cfg ws 49 [m.enc,(b.kids.headD Ty.zero).enc,x.enc] h=some (.bool (sub (b.kids.headD Ty.zero) x),h)) (hk:b.kids.length=1) (ws:Nat) (h:Avm.H):
    Qb cfg ws 91 [.isl (v.items.map Val.enc),.QI 92 0 [.ptr h.length 0 2 0 0,.ptr (h.length+1) 0 8 0 0]] (h++ [.arr 0 2 [m.enc],.arr 0 8 [b.enc],.arr 0 4 [v.enc]])=some (.bool (!v.items.all (sub (b.kids.headD Ty.zero))),h++ [.arr 0 2 [m.enc],.arr 0 8 [b.enc],.arr 0 4 [v.enc]]):=by
 have hl:v.items.length<=67108864:=by have:=v.Qw; omega
 obtain⟨k,hk⟩:=List.length_eq_one_iff.1 hk
 have hp: ∀x∈v.items,∀ws h',Qb cfg ws 92 [x.enc,.iptr m.enc.cells,.iptr b.enc.cells] h'=some (.bool (!sub (b.kids.headD Ty.zero) x),h'):=fun x hx ws h'=>by
  have e1:=fun ws h=>hsub x hx ws h
  rw[hk]at e1;simp[Md.enc]at e1;refine Qc rfl rfl ?_
  simp[F92,c92,Md.enc,hk,e1]
 have h1:=QlT (g:=92) (k:=0) (cap:=[.ptr h.length 0 2 0 0,.ptr (h.length+1) 0 8 0 0]) (cap':=[.iptr m.enc.cells,.iptr b.enc.cells]) (p:=fun x=>!sub (b.kids.headD Ty.zero) x) v.items hl (.inl rfl) (h++ [.arr 0 2 [m.enc],.arr 0 8 [b.enc],.arr 0 4 [v.enc]]) (by simp[Md.enc]) (by simp[Md.enc]) (by simpa using hp) ws
 rw[h1];simp[List.not_all_eq_any_not]
end Go.Proofs.YtflbneepngjglaaGreatDoor
namespace Go.Proofs.YtflbneepngjglaaGreatDoor
open Go Go.Avm
theorem Qzu (m:Md)(b:Ty)(v:Val)(h:Avm.H)(o:Ex×Env×Avm.H)(hk:b.kind=1)(hT:evC (Qb cfg) Qa cfg.pol h.length h.length Qin [(3,.ptr h.length 0 2 0 0),(4,.ptr (h.length+1) 0 8 0 0),(5,.ptr (h.length+2) 0 4 0 0),(26,.int .i64 b.kind),(31,.bool true)] (h++ [.arr 0 2 [m.enc],.arr 0 8 [b.enc],.arr 0 4 [v.enc]])=some o):evC (Qb cfg) Qa cfg.pol h.length h.length Qdq [(3,.ptr h.length 0 2 0 0),(4,.ptr (h.length+1) 0 8 0 0),(5,.ptr (h.length+2) 0 4 0 0),(26,.int .i64 b.kind),(27,.bool false)] (h++ [.arr 0 2 [m.enc],.arr 0 8 [b.enc],.arr 0 4 [v.enc]])=some o:=by
 simp only[hk]at hT ⊢;simp[Qdq]at hT ⊢;exact hT
theorem QaP (m:Md)(b:Ty)(v:Val)(h:Avm.H)(o:Ex×Env×Avm.H)(hk: ¬b.kind=1)(hT:evC (Qb cfg) Qa cfg.pol h.length h.length Qfh [(3,.ptr h.length 0 2 0 0),(4,.ptr (h.length+1) 0 8 0 0),(5,.ptr (h.length+2) 0 4 0 0),(26,.int .i64 b.kind),(31,.bool false)] (h++ [.arr 0 2 [m.enc],.arr 0 8 [b.enc],.arr 0 4 [v.enc]])=some o):evC (Qb cfg) Qa cfg.pol h.length h.length Qdq [(3,.ptr h.length 0 2 0 0),(4,.ptr (h.length+1) 0 8 0 0),(5,.ptr (h.length+2) 0 4 0 0),(26,.int .i64 b.kind),(27,.bool false)] (h++ [.arr 0 2 [m.enc],.arr 0 8 [b.enc],.arr 0 4 [v.enc]])=some o:=by
 have hkb:(b.kind == 1)=false:=by simpa using hk
 simp[hk]at hT;simp[Qdq,hk,hkb];exact hT
theorem Qzt (m:Md)(b:Ty)(v:Val)(h:Avm.H)(o:Ex×Env×Avm.H)(hk:b.kind=2)(hT:evC (Qb cfg) Qa cfg.pol h.length h.length QbL [(3,.ptr h.length 0 2 0 0),(4,.ptr (h.length+1) 0 8 0 0),(5,.ptr (h.length+2) 0 4 0 0),(26,.int .i64 b.kind),(40,.bool true)] (h++ [.arr 0 2 [m.enc],.arr 0 8 [b.enc],.arr 0 4 [v.enc]])=some o):evC (Qb cfg) Qa cfg.pol h.length h.length Qfh [(3,.ptr h.length 0 2 0 0),(4,.ptr (h.length+1) 0 8 0 0),(5,.ptr (h.length+2) 0 4 0 0),(26,.int .i64 b.kind),(31,.bool false)] (h++ [.arr 0 2 [m.enc],.arr 0 8 [b.enc],.arr 0 4 [v.enc]])=some o:=by
 simp only[hk]at hT ⊢;simp[Qfh]at hT ⊢;exact hT
theorem QbJ (m:Md)(b:Ty)(v:Val)(h:Avm.H)(o:Ex×Env×Avm.H)(hk: ¬b.kind=2)(hT:evC (Qb cfg) Qa cfg.pol h.length h.length Qfg [(3,.ptr h.length 0 2 0 0),(4,.ptr (h.length+1) 0 8 0 0),(5,.ptr (h.length+2) 0 4 0 0),(26,.int .i64 b.kind),(40,.bool false)] (h++ [.arr 0 2 [m.enc],.arr 0 8 [b.enc],.arr 0 4 [v.enc]])=some o):evC (Qb cfg) Qa cfg.pol h.length h.length Qfh [(3,.ptr h.length 0 2 0 0),(4,.ptr (h.length+1) 0 8 0 0),(5,.ptr (h.length+2) 0 4 0 0),(26,.int .i64 b.kind),(31,.bool false)] (h++ [.arr 0 2 [m.enc],.arr 0 8 [b.enc],.arr 0 4 [v.enc]])=some o:=by
 have hkb:(b.kind == 2)=false:=by simpa using hk
 simp[hk]at hT;simp[Qfh,hk,hkb];exact hT
theorem Qzs (m:Md)(b:Ty)(v:Val)(h:Avm.H)(o:Ex×Env×Avm.H)(hk:b.kind=3)(hT:evC (Qb cfg) Qa cfg.pol h.length h.length Qim [(3,.ptr h.length 0 2 0 0),(4,.ptr (h.length+1) 0 8 0 0),(5,.ptr (h.length+2) 0 4 0 0),(26,.int .i64 b.kind),(66,.bool true)] (h++ [.arr 0 2 [m.enc],.arr 0 8 [b.enc],.arr 0 4 [v.enc]])=some o):evC (Qb cfg) Qa cfg.pol h.length h.length Qfg [(3,.ptr h.length 0 2 0 0),(4,.ptr (h.length+1) 0 8 0 0),(5,.ptr (h.length+2) 0 4 0 0),(26,.int .i64 b.kind),(40,.bool false)] (h++ [.arr 0 2 [m.enc],.arr 0 8 [b.enc],.arr 0 4 [v.enc]])=some o:=by
 simp only[hk]at hT ⊢;simp[Qfg]at hT ⊢;exact hT
theorem Qdm (m:Md)(b:Ty)(v:Val)(h:Avm.H)(o:Ex×Env×Avm.H)(hk: ¬b.kind=3)(hT:evC (Qb cfg) Qa cfg.pol h.length h.length Qff [(3,.ptr h.length 0 2 0 0),(4,.ptr (h.length+1) 0 8 0 0),(5,.ptr (h.length+2) 0 4 0 0),(26,.int .i64 b.kind),(66,.bool false)] (h++ [.arr 0 2 [m.enc],.arr 0 8 [b.enc],.arr 0 4 [v.enc]])=some o):evC (Qb cfg) Qa cfg.pol h.length h.length Qfg [(3,.ptr h.length 0 2 0 0),(4,.ptr (h.length+1) 0 8 0 0),(5,.ptr (h.length+2) 0 4 0 0),(26,.int .i64 b.kind),(40,.bool false)] (h++ [.arr 0 2 [m.enc],.arr 0 8 [b.enc],.arr 0 4 [v.enc]])=some o:=by
 have hkb:(b.kind == 3)=false:=by simpa using hk
 simp[hk]at hT;simp[Qfg,hk,hkb];exact hT
theorem Qzr (m:Md)(b:Ty)(v:Val)(h:Avm.H)(o:Ex×Env×Avm.H)(hk:b.kind=4)(hT:evC (Qb cfg) Qa cfg.pol h.length h.length Qil [(3,.ptr h.length 0 2 0 0),(4,.ptr (h.length+1) 0 8 0 0),(5,.ptr (h.length+2) 0 4 0 0),(26,.int .i64 b.kind),(79,.bool true)] (h++ [.arr 0 2 [m.enc],.arr 0 8 [b.enc],.arr 0 4 [v.enc]])=some o):evC (Qb cfg) Qa cfg.pol h.length h.length Qff [(3,.ptr h.length 0 2 0 0),(4,.ptr (h.length+1) 0 8 0 0),(5,.ptr (h.length+2) 0 4 0 0),(26,.int .i64 b.kind),(66,.bool false)] (h++ [.arr 0 2 [m.enc],.arr 0 8 [b.enc],.arr 0 4 [v.enc]])=some o:=by
 simp only[hk]at hT ⊢;simp[Qff]at hT ⊢;exact hT
theorem Qfa (m:Md)(b:Ty)(v:Val)(h:Avm.H)(o:Ex×Env×Avm.H)(hk: ¬b.kind=4)(hT:evC (Qb cfg) Qa cfg.pol h.length h.length Qfe [(3,.ptr h.length 0 2 0 0),(4,.ptr (h.length+1) 0 8 0 0),(5,.ptr (h.length+2) 0 4 0 0),(26,.int .i64 b.kind),(79,.bool false)] (h++ [.arr 0 2 [m.enc],.arr 0 8 [b.enc],.arr 0 4 [v.enc]])=some o):evC (Qb cfg) Qa cfg.pol h.length h.length Qff [(3,.ptr h.length 0 2 0 0),(4,.ptr (h.length+1) 0 8 0 0),(5,.ptr (h.length+2) 0 4 0 0),(26,.int .i64 b.kind),(66,.bool false)] (h++ [.arr 0 2 [m.enc],.arr 0 8 [b.enc],.arr 0 4 [v.enc]])=some o:=by
 have hkb:(b.kind == 4)=false:=by simpa using hk
 simp[hk]at hT;simp[Qff,hk,hkb];exact hT
theorem Qzq (m:Md)(b:Ty)(v:Val)(h:Avm.H)(o:Ex×Env×Avm.H)(hk:b.kind=5)(hT:evC (Qb cfg) Qa cfg.pol h.length h.length Qfc [(3,.ptr h.length 0 2 0 0),(4,.ptr (h.length+1) 0 8 0 0),(5,.ptr (h.length+2) 0 4 0 0),(26,.int .i64 b.kind),(90,.bool true)] (h++ [.arr 0 2 [m.enc],.arr 0 8 [b.enc],.arr 0 4 [v.enc]])=some o):evC (Qb cfg) Qa cfg.pol h.length h.length Qfe [(3,.ptr h.length 0 2 0 0),(4,.ptr (h.length+1) 0 8 0 0),(5,.ptr (h.length+2) 0 4 0 0),(26,.int .i64 b.kind),(79,.bool false)] (h++ [.arr 0 2 [m.enc],.arr 0 8 [b.enc],.arr 0 4 [v.enc]])=some o:=by
 simp only[hk]at hT ⊢;simp[Qfe]at hT ⊢;exact hT
theorem Qih (m:Md)(b:Ty)(v:Val)(h:Avm.H)(o:Ex×Env×Avm.H)(hk: ¬b.kind=5)(hT:evC (Qb cfg) Qa cfg.pol h.length h.length Qfd [(3,.ptr h.length 0 2 0 0),(4,.ptr (h.length+1) 0 8 0 0),(5,.ptr (h.length+2) 0 4 0 0),(26,.int .i64 b.kind),(90,.bool false)] (h++ [.arr 0 2 [m.enc],.arr 0 8 [b.enc],.arr 0 4 [v.enc]])=some o):evC (Qb cfg) Qa cfg.pol h.length h.length Qfe [(3,.ptr h.length 0 2 0 0),(4,.ptr (h.length+1) 0 8 0 0),(5,.ptr (h.length+2) 0 4 0 0),(26,.int .i64 b.kind),(79,.bool false)] (h++ [.arr 0 2 [m.enc],.arr 0 8 [b.enc],.arr 0 4 [v.enc]])=some o:=by
 have hkb:(b.kind == 5)=false:=by simpa using hk
 simp[hk]at hT;simp[Qfe,hk,hkb];exact hT
theorem QxG (m:Md)(b:Ty)(v:Val)(h:Avm.H)(o:Ex×Env×Avm.H)(hk:b.kind=6)(hT:evC (Qb cfg) Qa cfg.pol h.length h.length QgM [(3,.ptr h.length 0 2 0 0),(4,.ptr (h.length+1) 0 8 0 0),(5,.ptr (h.length+2) 0 4 0 0),(26,.int .i64 b.kind),(107,.bool true)] (h++ [.arr 0 2 [m.enc],.arr 0 8 [b.enc],.arr 0 4 [v.enc]])=some o):evC (Qb cfg) Qa cfg.pol h.length h.length Qfd [(3,.ptr h.length 0 2 0 0),(4,.ptr (h.length+1) 0 8 0 0),(5,.ptr (h.length+2) 0 4 0 0),(26,.int .i64 b.kind),(90,.bool false)] (h++ [.arr 0 2 [m.enc],.arr 0 8 [b.enc],.arr 0 4 [v.enc]])=some o:=by
 simp only[hk]at hT ⊢;simp[Qfd]at hT ⊢;exact hT
theorem QgL (m:Md)(b:Ty)(v:Val)(h:Avm.H)(o:Ex×Env×Avm.H)(hk: ¬b.kind=6)(hT:evC (Qb cfg) Qa cfg.pol h.length h.length Qcx [(3,.ptr h.length 0 2 0 0),(4,.ptr (h.length+1) 0 8 0 0),(5,.ptr (h.length+2) 0 4 0 0),(26,.int .i64 b.kind),(107,.bool false)] (h++ [.arr 0 2 [m.enc],.arr 0 8 [b.enc],.arr 0 4 [v.enc]])=some o):evC (Qb cfg) Qa cfg.pol h.length h.length Qfd [(3,.ptr h.length 0 2 0 0),(4,.ptr (h.length+1) 0 8 0 0),(5,.ptr (h.length+2) 0 4 0 0),(26,.int .i64 b.kind),(90,.bool false)] (h++ [.arr 0 2 [m.enc],.arr 0 8 [b.enc],.arr 0 4 [v.enc]])=some o:=by
 have hkb:(b.kind == 6)=false:=by simpa using hk
 simp[hk]at hT;simp[Qfd,hk,hkb];exact hT
theorem QxF (m:Md)(b:Ty)(v:Val)(h:Avm.H)(o:Ex×Env×Avm.H)(hk:b.kind=11)(hT:evC (Qb cfg) Qa cfg.pol h.length h.length Qem [(3,.ptr h.length 0 2 0 0),(4,.ptr (h.length+1) 0 8 0 0),(5,.ptr (h.length+2) 0 4 0 0),(26,.int .i64 b.kind),(111,.bool true)] (h++ [.arr 0 2 [m.enc],.arr 0 8 [b.enc],.arr 0 4 [v.enc]])=some o):evC (Qb cfg) Qa cfg.pol h.length h.length Qcx [(3,.ptr h.length 0 2 0 0),(4,.ptr (h.length+1) 0 8 0 0),(5,.ptr (h.length+2) 0 4 0 0),(26,.int .i64 b.kind),(107,.bool false)] (h++ [.arr 0 2 [m.enc],.arr 0 8 [b.enc],.arr 0 4 [v.enc]])=some o:=by
 simp only[hk]at hT ⊢;simp[Qcx]at hT ⊢;exact hT
theorem QlW (m:Md)(b:Ty)(v:Val)(h:Avm.H)(o:Ex×Env×Avm.H)(hk: ¬b.kind=11)(hT:evC (Qb cfg) Qa cfg.pol h.length h.length Qcw [(3,.ptr h.length 0 2 0 0),(4,.ptr (h.length+1) 0 8 0 0),(5,.ptr (h.length+2) 0 4 0 0),(26,.int .i64 b.kind),(111,.bool false)] (h++ [.arr 0 2 [m.enc],.arr 0 8 [b.enc],.arr 0 4 [v.enc]])=some o):evC (Qb cfg) Qa cfg.pol h.length h.length Qcx [(3,.ptr h.length 0 2 0 0),(4,.ptr (h.length+1) 0 8 0 0),(5,.ptr (h.length+2) 0 4 0 0),(26,.int .i64 b.kind),(107,.bool false)] (h++ [.arr 0 2 [m.enc],.arr 0 8 [b.enc],.arr 0 4 [v.enc]])=some o:=by
 have hkb:(b.kind == 11)=false:=by simpa using hk
 simp[hk]at hT;simp[Qcx,hk,hkb];exact hT
theorem QxE (m:Md)(b:Ty)(v:Val)(h:Avm.H)(o:Ex×Env×Avm.H)(hk:b.kind=7)(hT:evC (Qb cfg) Qa cfg.pol h.length h.length Qcu [(3,.ptr h.length 0 2 0 0),(4,.ptr (h.length+1) 0 8 0 0),(5,.ptr (h.length+2) 0 4 0 0),(26,.int .i64 b.kind),(121,.bool true)] (h++ [.arr 0 2 [m.enc],.arr 0 8 [b.enc],.arr 0 4 [v.enc]])=some o):evC (Qb cfg) Qa cfg.pol h.length h.length Qcw [(3,.ptr h.length 0 2 0 0),(4,.ptr (h.length+1) 0 8 0 0),(5,.ptr (h.length+2) 0 4 0 0),(26,.int .i64 b.kind),(111,.bool false)] (h++ [.arr 0 2 [m.enc],.arr 0 8 [b.enc],.arr 0 4 [v.enc]])=some o:=by
 simp only[hk]at hT ⊢;simp[Qcw]at hT ⊢;exact hT
theorem Qrm (m:Md)(b:Ty)(v:Val)(h:Avm.H)(o:Ex×Env×Avm.H)(hk: ¬b.kind=7)(hT:evC (Qb cfg) Qa cfg.pol h.length h.length Qcv [(3,.ptr h.length 0 2 0 0),(4,.ptr (h.length+1) 0 8 0 0),(5,.ptr (h.length+2) 0 4 0 0),(26,.int .i64 b.kind),(121,.bool false)] (h++ [.arr 0 2 [m.enc],.arr 0 8 [b.enc],.arr 0 4 [v.enc]])=some o):evC (Qb cfg) Qa cfg.pol h.length h.length Qcw [(3,.ptr h.length 0 2 0 0),(4,.ptr (h.length+1) 0 8 0 0),(5,.ptr (h.length+2) 0 4 0 0),(26,.int .i64 b.kind),(111,.bool false)] (h++ [.arr 0 2 [m.enc],.arr 0 8 [b.enc],.arr 0 4 [v.enc]])=some o:=by
 have hkb:(b.kind == 7)=false:=by simpa using hk
 simp[hk]at hT;simp[Qcw,hk,hkb];exact hT
theorem QxD (m:Md)(b:Ty)(v:Val)(h:Avm.H)(o:Ex×Env×Avm.H)(hk:b.kind=9)(hT:evC (Qb cfg) Qa cfg.pol h.length h.length QaQ [(3,.ptr h.length 0 2 0 0),(4,.ptr (h.length+1) 0 8 0 0),(5,.ptr (h.length+2) 0 4 0 0),(139,.bool true)] (h++ [.arr 0 2 [m.enc],.arr 0 8 [b.enc],.arr 0 4 [v.enc]])=some o):evC (Qb cfg) Qa cfg.pol h.length h.length Qcv [(3,.ptr h.length 0 2 0 0),(4,.ptr (h.length+1) 0 8 0 0),(5,.ptr (h.length+2) 0 4 0 0),(26,.int .i64 b.kind),(121,.bool false)] (h++ [.arr 0 2 [m.enc],.arr 0 8 [b.enc],.arr 0 4 [v.enc]])=some o:=by
 simp only[hk]at hT ⊢;simp[Qcv]at hT ⊢;exact hT
theorem QxH (m:Md)(b:Ty)(v:Val)(h:Avm.H)(o:Ex×Env×Avm.H)(hk: ¬b.kind=9)(hT:evC (Qb cfg) Qa cfg.pol h.length h.length .skip [(3,.ptr h.length 0 2 0 0),(4,.ptr (h.length+1) 0 8 0 0),(5,.ptr (h.length+2) 0 4 0 0),(139,.bool false)] (h++ [.arr 0 2 [m.enc],.arr 0 8 [b.enc],.arr 0 4 [v.enc]])=some o):evC (Qb cfg) Qa cfg.pol h.length h.length Qcv [(3,.ptr h.length 0 2 0 0),(4,.ptr (h.length+1) 0 8 0 0),(5,.ptr (h.length+2) 0 4 0 0),(26,.int .i64 b.kind),(121,.bool false)] (h++ [.arr 0 2 [m.enc],.arr 0 8 [b.enc],.arr 0 4 [v.enc]])=some o:=by
 have hkb:(b.kind == 9)=false:=by simpa using hk
 simp[hk]at hT;simp[Qcv,hk,hkb];exact hT
theorem QsL (m:Md)(hm:m.ok)(t:Ty)(ht:t.wid<=67108864)(v:Val)(b:Ty)(hb:beh m 21 t=some b)(hvk:v.kind=b.kind)(hk:b.kind=0)(ws:Nat)(h:Avm.H)(r:Bool)(g:Avm.H)(hT:evC (Qb cfg) Qa cfg.pol h.length h.length Qio [(3,.ptr h.length 0 2 0 0),(4,.ptr (h.length+1) 0 8 0 0),(5,.ptr (h.length+2) 0 4 0 0),(26,.int .i64 b.kind),(27,.bool true)] (h++ [.arr 0 2 [m.enc],.arr 0 8 [b.enc],.arr 0 4 [v.enc]])=some (.ret,[(6,.bool r)],h++([.arr 0 2 [m.enc],.arr 0 8 [b.enc],.arr 0 4 [v.enc]]++g))):Qb cfg ws 49 [m.enc,t.enc,v.enc] h=some (.bool r,h):=by
 rw[hk]at hvk;have hbe:=fun ws h=>Zy m hm t ht ws h
 rw[hb]at hbe;simp[Md.enc,Ty.zero,hk,hvk]at hbe hT;refine Qc rfl rfl ?_
 simp[F49,c49,Md.enc,hbe,hk,hvk,hT]
theorem ZY (m:Md)(hm:m.ok)(t:Ty)(ht:t.wid<=67108864)(v:Val)(b:Ty)(hb:beh m 21 t=some b)(hvk:v.kind=b.kind)(hk: ¬b.kind=0)(ws:Nat)(h:Avm.H)(r:Bool)(g:Avm.H)(hT:evC (Qb cfg) Qa cfg.pol h.length h.length Qdq [(3,.ptr h.length 0 2 0 0),(4,.ptr (h.length+1) 0 8 0 0),(5,.ptr (h.length+2) 0 4 0 0),(26,.int .i64 b.kind),(27,.bool false)] (h++ [.arr 0 2 [m.enc],.arr 0 8 [b.enc],.arr 0 4 [v.enc]])=some (.ret,[(6,.bool r)],h++([.arr 0 2 [m.enc],.arr 0 8 [b.enc],.arr 0 4 [v.enc]]++g))):Qb cfg ws 49 [m.enc,t.enc,v.enc] h=some (.bool r,h):=by
 have hkb:(b.kind == 0)=false:=by simpa using hk
 have hbe:=fun ws h=>Zy m hm t ht ws h
 rw[hb]at hbe;simp[Md.enc,Ty.zero,hvk]at hbe hT;refine Qc rfl rfl ?_
 simp[F49,c49,Md.enc,hbe,hk,hkb,hvk,hT]
theorem QsK (m:Md)(hm:m.ok)(t:Ty)(ht:t.wid<=67108864)(v:Val)(b:Ty)(hb:beh m 21 t=some b)(hvk:v.kind=b.kind)(hk: ¬b.kind=0)(ws:Nat)(h:Avm.H)(r:Bool)(g:Avm.H)(hE:evC (Qb cfg) Qa cfg.pol h.length h.length Qdq [(3,.ptr h.length 0 2 0 0),(4,.ptr (h.length+1) 0 8 0 0),(5,.ptr (h.length+2) 0 4 0 0),(26,.int .i64 b.kind),(27,.bool false)] (h++ [.arr 0 2 [m.enc],.arr 0 8 [b.enc],.arr 0 4 [v.enc]])=some (.normal,[(3,.ptr h.length 0 2 0 0),(4,.ptr (h.length+1) 0 8 0 0),(5,.ptr (h.length+2) 0 4 0 0),(139,.bool false)],(h++ [.arr 0 2 [m.enc],.arr 0 8 [b.enc],.arr 0 4 [v.enc]])))
    (hT:evC (Qb cfg) Qa cfg.pol h.length h.length Qdp [(3,.ptr h.length 0 2 0 0),(4,.ptr (h.length+1) 0 8 0 0),(5,.ptr (h.length+2) 0 4 0 0)] (h++ [.arr 0 2 [m.enc],.arr 0 8 [b.enc],.arr 0 4 [v.enc]])=some (.ret,[(6,.bool r)],h++([.arr 0 2 [m.enc],.arr 0 8 [b.enc],.arr 0 4 [v.enc]]++g))):Qb cfg ws 49 [m.enc,t.enc,v.enc] h=some (.bool r,h):=by
 have hkb:(b.kind == 0)=false:=by simpa using hk
 have hbe:=fun ws h=>Zy m hm t ht ws h
 rw[hb]at hbe;simp[Md.enc,Ty.zero,hvk]at hbe hE hT;refine Qc rfl rfl ?_
 simp[F49,c49,Md.enc,hbe,hk,hkb,hvk,hE,hT]
theorem QnV (m:Md)(hm:m.ok)(t:Ty)(ht:t.wid<=67108864)(v:Val)(b:Ty)(hb:beh m 21 t=some b)(hvk:v.kind=b.kind)(hk:b.kind=0)(ws:Nat)(h:Avm.H)(r:Bool)(g:Avm.H)(hT:evC (Qb cfg) Qa cfg.pol h.length h.length Qio [(3,.ptr h.length 0 2 0 0),(4,.ptr (h.length+1) 0 8 0 0),(5,.ptr (h.length+2) 0 4 0 0),(26,.int .i64 b.kind),(27,.bool true)] (h++ [.arr 0 2 [m.enc],.arr 0 8 [b.enc],.arr 0 4 [v.enc]])=some (.ret,[(6,.bool r)],h++([.arr 0 2 [m.enc],.arr 0 8 [b.enc],.arr 0 4 [v.enc]]++g))):Qb cfg ws 49 [m.enc,t.enc,v.enc] h=some (.bool r,h):=by
 exact QsL m hm t ht v b hb hvk hk ws h r g hT
theorem QnU (m:Md)(hm:m.ok)(t:Ty)(ht:t.wid<=67108864)(v:Val)(b:Ty)(hb:beh m 21 t=some b)(hvk:v.kind=b.kind)(hk:b.kind=1)(ws:Nat)(h:Avm.H)(r:Bool)(g:Avm.H)(hT:evC (Qb cfg) Qa cfg.pol h.length h.length Qin [(3,.ptr h.length 0 2 0 0),(4,.ptr (h.length+1) 0 8 0 0),(5,.ptr (h.length+2) 0 4 0 0),(26,.int .i64 b.kind),(31,.bool true)] (h++ [.arr 0 2 [m.enc],.arr 0 8 [b.enc],.arr 0 4 [v.enc]])=some (.ret,[(6,.bool r)],h++([.arr 0 2 [m.enc],.arr 0 8 [b.enc],.arr 0 4 [v.enc]]++g))):Qb cfg ws 49 [m.enc,t.enc,v.enc] h=some (.bool r,h):=by
 have n0: ¬b.kind=0:=by omega
 refine ZY m hm t ht v b hb hvk n0 ws h r g ?_
 exact Qzu m b v h _ hk hT
theorem QnT (m:Md)(hm:m.ok)(t:Ty)(ht:t.wid<=67108864)(v:Val)(b:Ty)(hb:beh m 21 t=some b)(hvk:v.kind=b.kind)(hk:b.kind=2)(ws:Nat)(h:Avm.H)(r:Bool)(g:Avm.H)(hT:evC (Qb cfg) Qa cfg.pol h.length h.length QbL [(3,.ptr h.length 0 2 0 0),(4,.ptr (h.length+1) 0 8 0 0),(5,.ptr (h.length+2) 0 4 0 0),(26,.int .i64 b.kind),(40,.bool true)] (h++ [.arr 0 2 [m.enc],.arr 0 8 [b.enc],.arr 0 4 [v.enc]])=some (.ret,[(6,.bool r)],h++([.arr 0 2 [m.enc],.arr 0 8 [b.enc],.arr 0 4 [v.enc]]++g))):Qb cfg ws 49 [m.enc,t.enc,v.enc] h=some (.bool r,h):=by
 have n0: ¬b.kind=0:=by omega
 refine ZY m hm t ht v b hb hvk n0 ws h r g ?_
 refine QaP m b v h _ (by omega) ?_
 exact Qzt m b v h _ hk hT
theorem QnS (m:Md)(hm:m.ok)(t:Ty)(ht:t.wid<=67108864)(v:Val)(b:Ty)(hb:beh m 21 t=some b)(hvk:v.kind=b.kind)(hk:b.kind=3)(ws:Nat)(h:Avm.H)(r:Bool)(g:Avm.H)(hT:evC (Qb cfg) Qa cfg.pol h.length h.length Qim [(3,.ptr h.length 0 2 0 0),(4,.ptr (h.length+1) 0 8 0 0),(5,.ptr (h.length+2) 0 4 0 0),(26,.int .i64 b.kind),(66,.bool true)] (h++ [.arr 0 2 [m.enc],.arr 0 8 [b.enc],.arr 0 4 [v.enc]])=some (.ret,[(6,.bool r)],h++([.arr 0 2 [m.enc],.arr 0 8 [b.enc],.arr 0 4 [v.enc]]++g))):Qb cfg ws 49 [m.enc,t.enc,v.enc] h=some (.bool r,h):=by
 have n0: ¬b.kind=0:=by omega
 refine ZY m hm t ht v b hb hvk n0 ws h r g ?_
 refine QaP m b v h _ (by omega) ?_
 refine QbJ m b v h _ (by omega) ?_
 exact Qzs m b v h _ hk hT
theorem QnR (m:Md)(hm:m.ok)(t:Ty)(ht:t.wid<=67108864)(v:Val)(b:Ty)(hb:beh m 21 t=some b)(hvk:v.kind=b.kind)(hk:b.kind=4)(ws:Nat)(h:Avm.H)(r:Bool)(g:Avm.H)(hT:evC (Qb cfg) Qa cfg.pol h.length h.length Qil [(3,.ptr h.length 0 2 0 0),(4,.ptr (h.length+1) 0 8 0 0),(5,.ptr (h.length+2) 0 4 0 0),(26,.int .i64 b.kind),(79,.bool true)] (h++ [.arr 0 2 [m.enc],.arr 0 8 [b.enc],.arr 0 4 [v.enc]])=some (.ret,[(6,.bool r)],h++([.arr 0 2 [m.enc],.arr 0 8 [b.enc],.arr 0 4 [v.enc]]++g))):Qb cfg ws 49 [m.enc,t.enc,v.enc] h=some (.bool r,h):=by
 have n0: ¬b.kind=0:=by omega
 refine ZY m hm t ht v b hb hvk n0 ws h r g ?_
 refine QaP m b v h _ (by omega) ?_
 refine QbJ m b v h _ (by omega) ?_
 refine Qdm m b v h _ (by omega) ?_
 exact Qzr m b v h _ hk hT
theorem QnQ (m:Md)(hm:m.ok)(t:Ty)(ht:t.wid<=67108864)(v:Val)(b:Ty)(hb:beh m 21 t=some b)(hvk:v.kind=b.kind)(hk:b.kind=5)(ws:Nat)(h:Avm.H)(r:Bool)(g:Avm.H)(hT:evC (Qb cfg) Qa cfg.pol h.length h.length Qfc [(3,.ptr h.length 0 2 0 0),(4,.ptr (h.length+1) 0 8 0 0),(5,.ptr (h.length+2) 0 4 0 0),(26,.int .i64 b.kind),(90,.bool true)] (h++ [.arr 0 2 [m.enc],.arr 0 8 [b.enc],.arr 0 4 [v.enc]])=some (.ret,[(6,.bool r)],h++([.arr 0 2 [m.enc],.arr 0 8 [b.enc],.arr 0 4 [v.enc]]++g))):Qb cfg ws 49 [m.enc,t.enc,v.enc] h=some (.bool r,h):=by
 have n0: ¬b.kind=0:=by omega
 refine ZY m hm t ht v b hb hvk n0 ws h r g ?_
 refine QaP m b v h _ (by omega) ?_
 refine QbJ m b v h _ (by omega) ?_
 refine Qdm m b v h _ (by omega) ?_
 refine Qfa m b v h _ (by omega) ?_
 exact Qzq m b v h _ hk hT
theorem QnP (m:Md)(hm:m.ok)(t:Ty)(ht:t.wid<=67108864)(v:Val)(b:Ty)(hb:beh m 21 t=some b)(hvk:v.kind=b.kind)(hk:b.kind=6)(ws:Nat)(h:Avm.H)(r:Bool)(g:Avm.H)(hT:evC (Qb cfg) Qa cfg.pol h.length h.length QgM [(3,.ptr h.length 0 2 0 0),(4,.ptr (h.length+1) 0 8 0 0),(5,.ptr (h.length+2) 0 4 0 0),(26,.int .i64 b.kind),(107,.bool true)] (h++ [.arr 0 2 [m.enc],.arr 0 8 [b.enc],.arr 0 4 [v.enc]])=some (.ret,[(6,.bool r)],h++([.arr 0 2 [m.enc],.arr 0 8 [b.enc],.arr 0 4 [v.enc]]++g))):Qb cfg ws 49 [m.enc,t.enc,v.enc] h=some (.bool r,h):=by
 have n0: ¬b.kind=0:=by omega
 refine ZY m hm t ht v b hb hvk n0 ws h r g ?_
 refine QaP m b v h _ (by omega) ?_
 refine QbJ m b v h _ (by omega) ?_
 refine Qdm m b v h _ (by omega) ?_
 refine Qfa m b v h _ (by omega) ?_
 refine Qih m b v h _ (by omega) ?_
 exact QxG m b v h _ hk hT
theorem QlG (m:Md)(hm:m.ok)(t:Ty)(ht:t.wid<=67108864)(v:Val)(b:Ty)(hb:beh m 21 t=some b)(hvk:v.kind=b.kind)(hk:b.kind=11)(ws:Nat)(h:Avm.H)(r:Bool)(g:Avm.H)(hT:evC (Qb cfg) Qa cfg.pol h.length h.length Qem [(3,.ptr h.length 0 2 0 0),(4,.ptr (h.length+1) 0 8 0 0),(5,.ptr (h.length+2) 0 4 0 0),(26,.int .i64 b.kind),(111,.bool true)] (h++ [.arr 0 2 [m.enc],.arr 0 8 [b.enc],.arr 0 4 [v.enc]])=some (.ret,[(6,.bool r)],h++([.arr 0 2 [m.enc],.arr 0 8 [b.enc],.arr 0 4 [v.enc]]++g))):Qb cfg ws 49 [m.enc,t.enc,v.enc] h=some (.bool r,h):=by
 have n0: ¬b.kind=0:=by omega
 refine ZY m hm t ht v b hb hvk n0 ws h r g ?_
 refine QaP m b v h _ (by omega) ?_
 refine QbJ m b v h _ (by omega) ?_
 refine Qdm m b v h _ (by omega) ?_
 refine Qfa m b v h _ (by omega) ?_
 refine Qih m b v h _ (by omega) ?_
 refine QgL m b v h _ (by omega) ?_
 exact QxF m b v h _ hk hT
theorem QnO (m:Md)(hm:m.ok)(t:Ty)(ht:t.wid<=67108864)(v:Val)(b:Ty)(hb:beh m 21 t=some b)(hvk:v.kind=b.kind)(hk:b.kind=7)(ws:Nat)(h:Avm.H)(r:Bool)(g:Avm.H)(hT:evC (Qb cfg) Qa cfg.pol h.length h.length Qcu [(3,.ptr h.length 0 2 0 0),(4,.ptr (h.length+1) 0 8 0 0),(5,.ptr (h.length+2) 0 4 0 0),(26,.int .i64 b.kind),(121,.bool true)] (h++ [.arr 0 2 [m.enc],.arr 0 8 [b.enc],.arr 0 4 [v.enc]])=some (.ret,[(6,.bool r)],h++([.arr 0 2 [m.enc],.arr 0 8 [b.enc],.arr 0 4 [v.enc]]++g))):Qb cfg ws 49 [m.enc,t.enc,v.enc] h=some (.bool r,h):=by
 have n0: ¬b.kind=0:=by omega
 refine ZY m hm t ht v b hb hvk n0 ws h r g ?_
 refine QaP m b v h _ (by omega) ?_
 refine QbJ m b v h _ (by omega) ?_
 refine Qdm m b v h _ (by omega) ?_
 refine Qfa m b v h _ (by omega) ?_
 refine Qih m b v h _ (by omega) ?_
 refine QgL m b v h _ (by omega) ?_
 refine QlW m b v h _ (by omega) ?_
 exact QxE m b v h _ hk hT
theorem QnN (m:Md)(hm:m.ok)(t:Ty)(ht:t.wid<=67108864)(v:Val)(b:Ty)(hb:beh m 21 t=some b)(hvk:v.kind=b.kind)(hk:b.kind=9)(ws:Nat)(h:Avm.H)(r:Bool)(g:Avm.H)(hT:evC (Qb cfg) Qa cfg.pol h.length h.length QaQ [(3,.ptr h.length 0 2 0 0),(4,.ptr (h.length+1) 0 8 0 0),(5,.ptr (h.length+2) 0 4 0 0),(139,.bool true)] (h++ [.arr 0 2 [m.enc],.arr 0 8 [b.enc],.arr 0 4 [v.enc]])=some (.ret,[(6,.bool r)],h++([.arr 0 2 [m.enc],.arr 0 8 [b.enc],.arr 0 4 [v.enc]]++g))):Qb cfg ws 49 [m.enc,t.enc,v.enc] h=some (.bool r,h):=by
 have n0: ¬b.kind=0:=by omega
 refine ZY m hm t ht v b hb hvk n0 ws h r g ?_
 refine QaP m b v h _ (by omega) ?_
 refine QbJ m b v h _ (by omega) ?_
 refine Qdm m b v h _ (by omega) ?_
 refine Qfa m b v h _ (by omega) ?_
 refine Qih m b v h _ (by omega) ?_
 refine QgL m b v h _ (by omega) ?_
 refine QlW m b v h _ (by omega) ?_
 refine Qrm m b v h _ (by omega) ?_
 exact QxD m b v h _ hk hT
theorem Wx (m:Md)(hm:m.ok)(t:Ty)(ht:t.wid<=67108864)(v:Val)(b:Ty)(hb:beh m 21 t=some b)(hvk:v.kind=b.kind)(hk:b.kind=8)(ws:Nat)(h:Avm.H)(r:Bool)(g:Avm.H)(hT:evC (Qb cfg) Qa cfg.pol h.length h.length Qdp [(3,.ptr h.length 0 2 0 0),(4,.ptr (h.length+1) 0 8 0 0),(5,.ptr (h.length+2) 0 4 0 0)] (h++ [.arr 0 2 [m.enc],.arr 0 8 [b.enc],.arr 0 4 [v.enc]])=some (.ret,[(6,.bool r)],h++([.arr 0 2 [m.enc],.arr 0 8 [b.enc],.arr 0 4 [v.enc]]++g))):Qb cfg ws 49 [m.enc,t.enc,v.enc] h=some (.bool r,h):=by
 have n0: ¬b.kind=0:=by omega
 refine QsK m hm t ht v b hb hvk n0 ws h r g ?_ hT
 refine QaP m b v h _ (by omega) ?_
 refine QbJ m b v h _ (by omega) ?_
 refine Qdm m b v h _ (by omega) ?_
 refine Qfa m b v h _ (by omega) ?_
 refine Qih m b v h _ (by omega) ?_
 refine QgL m b v h _ (by omega) ?_
 refine QlW m b v h _ (by omega) ?_
 refine Qrm m b v h _ (by omega) ?_
 refine QxH m b v h _ (by omega) ?_
 simp
end Go.Proofs.YtflbneepngjglaaGreatDoor
