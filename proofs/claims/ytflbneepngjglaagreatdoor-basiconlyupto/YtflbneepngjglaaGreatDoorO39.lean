/- Arguments put in for parameters: the document's way. -/
import Derived.Test.YtflbneepngjglaaGreatDoorO38
import Derived.Test.YtflbneepngjglaaGreatDoorO37
set_option linter.all false
namespace Go.Proofs.YtflbneepngjglaaGreatDoor
open Go Go.Avm
theorem Qzg (m:Md)(hm:m.ok)(t:Ty)(ht:t.wid<=67108864)(v:Val)(hv:v.size<=67108864)(b:Ty)(hb:beh m 21 t=some b)(hb1:b.wid<=67108864)(hvk:v.kind=b.kind)(hk:b.kind=0)(ws:Nat)(h:Avm.H):Qb cfg ws 49 [m.enc,t.enc,v.enc] h=some (.bool (QL false false false v),h):=by
 have hwi:=b.Qe;have hws:IntKind.wrap .i64 ((b.items.length:Int)-1)=(b.items.length:Int)-1:=QU (by omega) (by omega)
 have hvb:=v.QJ;have hbb:((v.bytes.size:Int)<=4000)↔v.bytes.size<=4000:=by omega
 have hvi:=v.Qw;have hvk0:=hvk;rw[hk]at hvk;have e0:=fun ws h=>QqZ v ws h
 simp[hk,hvk]at e0;refine QnV m hm t ht v b hb hvk0 hk ws h _ [] ?_
 cases p9:QL false false false v
 ·simp only[p9]at e0;simp[Qio,hbb,Md.enc,hk,hvk,hws,e0,p9]
 ·simp only[p9]at e0;simp[Qio,hbb,Md.enc,hk,hvk,hws,e0,p9]
theorem Qzf (m:Md)(hm:m.ok)(t:Ty)(ht:t.wid<=67108864)(v:Val)(hv:v.size<=67108864)(b:Ty)(hb:beh m 21 t=some b)(hb1:b.wid<=67108864)(hvk:v.kind=b.kind)(hk:b.kind=1)(ws:Nat)(h:Avm.H):Qb cfg ws 49 [m.enc,t.enc,v.enc] h=some (.bool (QL true false false v&&inP v.int 0 1),h):=by
 have hwi:=b.Qe;have hws:IntKind.wrap .i64 ((b.items.length:Int)-1)=(b.items.length:Int)-1:=QU (by omega) (by omega)
 have hvb:=v.QJ;have hbb:((v.bytes.size:Int)<=4000)↔v.bytes.size<=4000:=by omega
 have hvi:=v.Qw;have hvk0:=hvk;rw[hk]at hvk;have e0:=fun ws h=>QgB v ws h
 have e1:=fun ws h=>Qga v.int 0 1 ws h
 simp[hk,hvk]at e0 e1;refine QnU m hm t ht v b hb hvk0 hk ws h _ [] ?_
 cases p9:QL true false false v
 ·simp only[p9]at e0 e1;simp[Qin,hbb,Md.enc,hk,hvk,hws,e0,e1,p9]
 ·simp only[p9]at e0 e1;simp[Qin,hbb,Md.enc,hk,hvk,hws,e0,e1,p9]
theorem Qze (m:Md)(hm:m.ok)(t:Ty)(ht:t.wid<=67108864)(v:Val)(hv:v.size<=67108864)(b:Ty)(hb:beh m 21 t=some b)(hb1:b.wid<=67108864)(hvk:v.kind=b.kind)(hk:b.kind=2)(ws:Nat)(h:Avm.H):Qb cfg ws 49 [m.enc,t.enc,v.enc] h=some (.bool (QL true false false v&&(inP v.int (-1000000000000000) 1000000000000000&&(b.free||(b.ext||inP v.int b.lo b.hi)))),h):=by
 have hwi:=b.Qe;have hws:IntKind.wrap .i64 ((b.items.length:Int)-1)=(b.items.length:Int)-1:=QU (by omega) (by omega)
 have hvb:=v.QJ;have hbb:((v.bytes.size:Int)<=4000)↔v.bytes.size<=4000:=by omega
 have hvi:=v.Qw;have hvk0:=hvk;rw[hk]at hvk;have e0:=fun ws h=>QgB v ws h
 have e1:=fun ws h=>Qga v.int (-1000000000000000) 1000000000000000 ws h
 have e2:=fun ws h=>Qga v.int b.lo b.hi ws h
 simp[hk,hvk]at e0 e1 e2;refine QnT m hm t ht v b hb hvk0 hk ws h _ [] ?_
 cases p6:QL true false false v
 ·simp only[p6]at e0 e1 e2;simp[QbL,hbb,Md.enc,hk,hvk,hws,e0,e1,e2,p6]
 ·simp only[p6]at e0 e1 e2;cases p7:inP v.int (-1000000000000000) 1000000000000000
  ·simp only[p7]at e0 e1 e2;simp[QbL,hbb,Md.enc,hk,hvk,hws,e0,e1,e2,p6,p7]
  ·simp only[p7]at e0 e1 e2;cases p8:b.free
   ·skip
    cases p9:b.ext
    ·skip
     simp[QbL,hbb,Md.enc,hk,hvk,hws,e0,e1,e2,p6,p7,p8,p9]
    ·skip
     simp[QbL,hbb,Md.enc,hk,hvk,hws,e0,e1,e2,p6,p7,p8,p9]
   ·skip
    simp[QbL,hbb,Md.enc,hk,hvk,hws,e0,e1,e2,p6,p7,p8]
theorem Qzd (m:Md)(hm:m.ok)(t:Ty)(ht:t.wid<=67108864)(v:Val)(hv:v.size<=67108864)(b:Ty)(hb:beh m 21 t=some b)(hb1:b.wid<=67108864)(hvk:v.kind=b.kind)(hk:b.kind=3)(ws:Nat)(h:Avm.H):Qb cfg ws 49 [m.enc,t.enc,v.enc] h=some (.bool (QL true false false v&&inP v.int 0 ((b.items.length:Int)-1)),h):=by
 have hwi:=b.Qe;have hws:IntKind.wrap .i64 ((b.items.length:Int)-1)=(b.items.length:Int)-1:=QU (by omega) (by omega)
 have hvb:=v.QJ;have hbb:((v.bytes.size:Int)<=4000)↔v.bytes.size<=4000:=by omega
 have hvi:=v.Qw;have hvk0:=hvk;rw[hk]at hvk;have e0:=fun ws h=>QgB v ws h
 have e1:=fun ws h=>Qga v.int 0 ((b.items.length:Int)-1) ws h
 simp[hk,hvk]at e0 e1;refine QnS m hm t ht v b hb hvk0 hk ws h _ [] ?_
 cases p9:QL true false false v
 ·simp only[p9]at e0 e1;simp[Qim,hbb,Md.enc,hk,hvk,hws,e0,e1,p9]
 ·simp only[p9]at e0 e1;simp[Qim,hbb,Md.enc,hk,hvk,hws,e0,e1,p9]
end Go.Proofs.YtflbneepngjglaaGreatDoor
namespace Go.Proofs.YtflbneepngjglaaGreatDoor
open Go Go.Avm
theorem Qzc (m:Md)(hm:m.ok)(t:Ty)(ht:t.wid<=67108864)(v:Val)(hv:v.size<=67108864)(b:Ty)(hb:beh m 21 t=some b)(hb1:b.wid<=67108864)(hvk:v.kind=b.kind)(hk:b.kind=4)(ws:Nat)(h:Avm.H):Qb cfg ws 49 [m.enc,t.enc,v.enc] h=some (.bool (QL false true false v&&ZB b (v.bytes.size:Int) 4000),h):=by
 have hwi:=b.Qe;have hws:IntKind.wrap .i64 ((b.items.length:Int)-1)=(b.items.length:Int)-1:=QU (by omega) (by omega)
 have hvb:=v.QJ;have hbb:((v.bytes.size:Int)<=4000)↔v.bytes.size<=4000:=by omega
 have hvi:=v.Qw;have hvk0:=hvk;rw[hk]at hvk;have e0:=fun ws h=>QlF v ws h
 have e1:=fun ws h=>QdD b (v.bytes.size:Int) 4000 ws h
 simp[hk,hvk]at e0 e1;refine QnR m hm t ht v b hb hvk0 hk ws h _ [] ?_
 cases p9:QL false true false v
 ·simp only[p9]at e0 e1;simp[Qil,hbb,Md.enc,hk,hvk,hws,e0,e1,p9]
 ·simp only[p9]at e0 e1;simp[Qil,hbb,Md.enc,hk,hvk,hws,e0,e1,p9]
theorem Qza (m:Md)(hm:m.ok)(t:Ty)(ht:t.wid<=67108864)(v:Val)(hv:v.size<=67108864)(b:Ty)(hb:beh m 21 t=some b)(hb1:b.wid<=67108864)(hvk:v.kind=b.kind)(hk:b.kind=6)(ws:Nat)(h:Avm.H):Qb cfg ws 49 [m.enc,t.enc,v.enc] h=some (.bool (QfH v),h):=by
 have hwi:=b.Qe;have hws:IntKind.wrap .i64 ((b.items.length:Int)-1)=(b.items.length:Int)-1:=QU (by omega) (by omega)
 have hvb:=v.QJ;have hbb:((v.bytes.size:Int)<=4000)↔v.bytes.size<=4000:=by omega
 have hvi:=v.Qw;have hvk0:=hvk;rw[hk]at hvk;have e0:=fun ws h=>QxU v hv ws h
 simp[hk,hvk]at e0;refine QnP m hm t ht v b hb hvk0 hk ws h _ [] ?_
 simp[QgM,hbb,Md.enc,hk,hvk,hws,e0]
theorem Qxs (m:Md)(hm:m.ok)(t:Ty)(ht:t.wid<=67108864)(v:Val)(hv:v.size<=67108864)(b:Ty)(hb:beh m 21 t=some b)(hb1:b.wid<=67108864)(hvk:v.kind=b.kind)(hk:b.kind=11)(ws:Nat)(h:Avm.H):Qb cfg ws 49 [m.enc,t.enc,v.enc] h=some (.bool (QL false true false v&&decide (v.bytes.size<=4000)),h):=by
 have hwi:=b.Qe;have hws:IntKind.wrap .i64 ((b.items.length:Int)-1)=(b.items.length:Int)-1:=QU (by omega) (by omega)
 have hvb:=v.QJ;have hbb:((v.bytes.size:Int)<=4000)↔v.bytes.size<=4000:=by omega
 have hvi:=v.Qw;have hvk0:=hvk;rw[hk]at hvk;have e0:=fun ws h=>QlF v ws h
 simp[hk,hvk]at e0;refine QlG m hm t ht v b hb hvk0 hk ws h _ [] ?_
 cases p9:QL false true false v
 ·simp only[p9]at e0;simp[Qem,hbb,Md.enc,hk,hvk,hws,e0,p9]
 ·simp only[p9]at e0;simp[Qem,hbb,Md.enc,hk,hvk,hws,e0,p9]
end Go.Proofs.YtflbneepngjglaaGreatDoor
namespace Go.Proofs.YtflbneepngjglaaGreatDoor
open Go Go.Avm
theorem Qzb (m:Md)(hm:m.ok)(t:Ty)(ht:t.wid<=67108864)(v:Val)(hv:v.size<=67108864)(b:Ty)(hb:beh m 21 t=some b)(hb1:b.wid<=67108864)(hvk:v.kind=b.kind)(hk:b.kind=5)(ws:Nat)(h:Avm.H):Qb cfg ws 49 [m.enc,t.enc,v.enc] h=some (.bool (QL false true false v&&(v.bytes.data.toList.all d01&&ZB b (v.bytes.size:Int) 32000)),h):=by
 have hwi:=b.Qe;have hws:IntKind.wrap .i64 ((b.items.length:Int)-1)=(b.items.length:Int)-1:=QU (by omega) (by omega)
 have hvb:=v.QJ;have hbb:((v.bytes.size:Int)<=4000)↔v.bytes.size<=4000:=by omega
 have hvi:=v.Qw;have hvk0:=hvk;rw[hk]at hvk;have e0:=fun ws h=>QlF v ws h
 have e1:=fun ws h=>QdD b (v.bytes.size:Int) 32000 ws h
 obtain⟨r,e2,hr⟩:=Qjp v.bytes (by omega) h.length (h++ [.arr 0 2 [m.enc],.arr 0 8 [b.enc],.arr 0 4 [v.enc]])
 have hz:(⟨#[]⟩:ByteArray).toList=[]:=by rw[ByteArray.toList_eq]
 rw[←ByteArray.toList_eq]at hr;simp[hk,hvk,Md.enc]at e0 e1 e2;refine QnQ m hm t ht v b hb hvk0 hk ws h _ [] ?_
 cases p0:QL false true false v
 ·rw[p0]at e0;simp[Qfc,Md.enc,hk,hvk,e0]
 ·rw[p0]at e0;cases p1:v.bytes.data.toList.all d01
  ·rw[p1]at hr;have hr': ¬r.toList=[]:=fun e=>by have:=hr.1 e; cases this
   simp[Qfc,Md.enc,hk,hvk,e0,e2,hz,hr']
  ·rw[p1]at hr;have hr':r.toList=[]:=hr.2 rfl;simp[Qfc,Md.enc,hk,hvk,e0,e2,hz,hr',e1]
theorem QyZ (m:Md)(hm:m.ok)(t:Ty)(ht:t.wid<=67108864)(v:Val)(hv:v.size<=67108864)(b:Ty)(hb:beh m 21 t=some b)(hb1:b.wid<=67108864)(hvk:v.kind=b.kind)(sub:Ty->Val->Bool)(hk1:b.kids.length=1)(hsub: ∀x∈v.items,∀ws h,Qb cfg ws 49 [m.enc,(b.kids.headD Ty.zero).enc,x.enc] h=some (.bool (sub (b.kids.headD Ty.zero) x),h))(hk:b.kind=7)(ws:Nat)(h:Avm.H):Qb cfg ws 49 [m.enc,t.enc,v.enc] h=some (.bool (QL false false true v&&(ZB b (v.items.length:Int) 200&&v.items.all (sub (b.kids.headD Ty.zero)))),h):=by
 have hwi:=b.Qe;have hws:IntKind.wrap .i64 ((b.items.length:Int)-1)=(b.items.length:Int)-1:=QU (by omega) (by omega)
 have hvb:=v.QJ;have hbb:((v.bytes.size:Int)<=4000)↔v.bytes.size<=4000:=by omega
 have hvi:=v.Qw;have hvk0:=hvk;rw[hk]at hvk;have e0:=fun ws h=>QlE v ws h
 have e1:=fun ws h=>QdD b (v.items.length:Int) 200 ws h
 have e2:=Qvt m t v hv b hb1 sub hsub hk1 h.length h;obtain⟨A,hA⟩: ∃A,v.items.all (sub (b.kids.headD Ty.zero))=A:=⟨_,rfl⟩;rw[hA]at e2 ⊢;simp[hk,hvk,Md.enc]at e0 e1;simp only[Md.enc,Ty.ZO,Val.ZO,hk,hvk]at e2;try simp at e2
 refine QnO m hm t ht v b hb hvk0 hk ws h _ [] ?_
 cases p0:QL false false true v
 ·rw[p0]at e0;simp[Qcu,Md.enc,hk,hvk,e0]
 ·rw[p0]at e0;cases p1:ZB b (v.items.length:Int) 200
  ·rw[p1]at e1;simp[Qcu,Md.enc,hk,hvk,e0,e1]
  ·rw[p1]at e1;simp[Qcu,Md.enc,hk,hvk,e0,e1,e2]
end Go.Proofs.YtflbneepngjglaaGreatDoor
namespace Go.Proofs.YtflbneepngjglaaGreatDoor
open Go Go.Avm
theorem QyX (m:Md)(hm:m.ok)(t:Ty)(ht:t.wid<=67108864)(v:Val)(hv:v.size<=67108864)(b:Ty)(hb:beh m 21 t=some b)(hb1:b.wid<=67108864)(hvk:v.kind=b.kind)(sub:Ty->Val->Bool)(hsub: ∀i∈b.items,∀x∈v.items,∀ws h,Qb cfg ws 49 [m.enc,i.of.enc,x.enc] h=some (.bool (sub i.of x),h))(hk:b.kind=9)(ws:Nat)(h:Avm.H):Qb cfg ws 49 [m.enc,t.enc,v.enc] h=some (.bool (QL true false true v&&(inP v.int 0 ((b.items.length:Int)-1)&&(decide (v.items.length=1)&&sub ((b.items[v.int.toNat]?.map It.of).getD Ty.zero) (v.items.headD (.mk 0 0 ⟨#[]⟩ []))))),h):=by
 have hwi:=b.Qe;have hws:IntKind.wrap .i64 ((b.items.length:Int)-1)=(b.items.length:Int)-1:=QU (by omega) (by omega)
 have hvb:=v.QJ;have hbb:((v.bytes.size:Int)<=4000)↔v.bytes.size<=4000:=by omega
 have hvi:=v.Qw;have hvk0:=hvk;rw[hk]at hvk;have e0:=fun ws h=>Qvl v ws h
 have e1:=fun ws h=>Qga v.int 0 ((b.items.length:Int)-1) ws h
 simp[hk,hvk,Md.enc]at e0 e1;refine QnN m hm t ht v b hb hvk0 hk ws h _ [] ?_
 cases p0:QL true false true v
 ·rw[p0]at e0;simp[QaQ,Md.enc,hk,hvk,hws,e0]
 ·rw[p0]at e0;cases p1:inP v.int 0 ((b.items.length:Int)-1)
  ·rw[p1]at e1;simp[QaQ,Md.enc,hk,hvk,hws,e0,e1]
  ·rw[p1]at e1;simp only[inP,Bool.and_eq_true,decide_eq_true_eq]at p1;by_cases p2:v.items.length=1
   ·obtain⟨x,hx⟩:=List.length_eq_one_iff.1 p2;obtain⟨n,hn⟩:=Int.eq_ofNat_of_zero_le p1.1;have hnb:n<b.items.length:=by omega
    obtain⟨y,hy⟩: ∃y,b.items[n]=y:=⟨_,rfl⟩;have e2:=fun ws h=>hsub y (by rw[←hy]; exact List.getElem_mem hnb) x (by rw[hx]; simp) ws h
    simp[Md.enc,hx,hn]at e0 e1 e2;simp[QaQ,Md.enc,hk,hvk,hws,e0,e1,hx,hn,hnb,hy,e2]
   ·have p2': ¬((v.items.length:Nat):Int)=1:=by omega
    simp[QaQ,Md.enc,hk,hvk,hws,e0,e1,p2,p2']
theorem QyY (m:Md)(hm:m.ok)(t:Ty)(ht:t.wid<=67108864)(v:Val)(hv:v.size<=67108864)(b:Ty)(hb:beh m 21 t=some b)(hb1:b.wid<=67108864)(hvk:v.kind=b.kind)(sub:Ty->Val->Bool)(hsub: ∀i∈b.items,∀x∈v.items,∀ws h,Qb cfg ws 49 [m.enc,i.of.enc,x.enc] h=some (.bool (sub i.of x),h))(hk:b.kind=8)(ws:Nat)(h:Avm.H):Qb cfg ws 49 [m.enc,t.enc,v.enc] h=some (.bool (QL false false true v&&(decide (v.items.length=b.items.length)&&(b.items.zip v.items).all (Zn sub))),h):=by
 have hwi:=b.Qe;have hws:IntKind.wrap .i64 ((b.items.length:Int)-1)=(b.items.length:Int)-1:=QU (by omega) (by omega)
 have hvb:=v.QJ;have hbb:((v.bytes.size:Int)<=4000)↔v.bytes.size<=4000:=by omega
 have hvi:=v.Qw;have hvk0:=hvk;rw[hk]at hvk;have e0:=fun ws h=>QlE v ws h
 simp[hk,hvk,Md.enc]at e0;cases p0:QL false false true v
 ·rw[p0]at e0;refine Wx m hm t ht v b hb hvk0 hk ws h _ [] ?_
  simp[Qdp,Md.enc,hk,hvk,e0]
 ·rw[p0]at e0;by_cases p1:v.items.length=b.items.length
  ·obtain⟨g,e1⟩:=QsN m b v p1 (by omega) sub hsub h
   simp only[Md.enc,Ty.ZO,Val.ZO,hk,hvk]at e1;cases p2:(b.items.zip v.items).all (Zn sub)
   ·rw[p2]at e1;simp[p1]at e1;refine Wx m hm t ht v b hb hvk0 hk ws h _ g ?_
    simp[Qdp,Md.enc,hk,hvk,e0,p1,e1]
   ·rw[p2]at e1;simp[p1]at e1;refine Wx m hm t ht v b hb hvk0 hk ws h _ g ?_
    simp[Qdp,Md.enc,hk,hvk,e0,p1,e1]
  ·have p1': ¬((v.items.length:Nat):Int)=(b.items.length:Nat):=by omega
   refine Wx m hm t ht v b hb hvk0 hk ws h _ [] ?_
   simp[Qdp,Md.enc,hk,hvk,e0,p1,p1']
theorem QsM (m:Md)(hm:m.ok)(t:Ty)(ht:t.wid<=67108864)(v:Val)(hb:beh m 21 t=none)(ws:Nat)(h:Avm.H):Qb cfg ws 49 [m.enc,t.enc,v.enc] h=some (.bool false,h):=by
 have hbe:=fun ws h=>Zy m hm t ht ws h
 rw[hb]at hbe;simp[Md.enc,Ty.zero]at hbe;refine Qc rfl rfl ?_
 simp[F49,c49,Md.enc,Ty.zero,hbe]
theorem Qxr (m:Md)(hm:m.ok)(t:Ty)(ht:t.wid<=67108864)(v:Val)(b:Ty)(hb:beh m 21 t=some b)(hvk: ¬v.kind=b.kind)(ws:Nat)(h:Avm.H):Qb cfg ws 49 [m.enc,t.enc,v.enc] h=some (.bool false,h):=by
 have hbe:=fun ws h=>Zy m hm t ht ws h
 rw[hb]at hbe;simp[Md.enc,Ty.zero]at hbe;refine Qc rfl rfl ?_
 simp[F49,c49,Md.enc,Ty.zero,hbe,hvk]
end Go.Proofs.YtflbneepngjglaaGreatDoor
namespace Go.Proofs.YtflbneepngjglaaGreatDoor
open Go Go.Avm
theorem Qhs {t:Ty}(h:Qk t=true)(hk:t.kind=7):t.kids.length=1:=by
 unfold Qk at h;simp[hk]at h;exact h.2.2
theorem Qhr {t:Ty}(h:Qk t=true)(h10:t.kind≠10)(n0: ¬t.kind=0)(n1: ¬t.kind=1)(n2: ¬t.kind=2)(n3: ¬t.kind=3)(n4: ¬t.kind=4)(n5: ¬t.kind=5)(n6: ¬t.kind=6)(n11: ¬t.kind=11)(n7: ¬t.kind=7)(n9: ¬t.kind=9):t.kind=8:=by
 unfold Qk at h;rw[if_neg n0,if_neg n1,if_neg n6,if_neg n11,if_neg n2,if_neg n3,if_neg n4,if_neg n5,if_neg n7]at h;by_cases q8:t.kind=8
 ·exact q8
 ·rw[if_neg q8,if_neg n9]at h;simp[h10]at h
theorem QgE (m:Md)(hm:m.ok)(hf:m.fm): ∀(n:Nat) (v:Val),v.size<=n->v.size<=67108864-> ∀t:Ty,t.wid<=67108864->t.Qz Qk=true-> ∀ws h,Qb cfg ws 49 [m.enc,t.enc,v.enc] h=some (.bool (Xn m n t v),h)
 | 0,v,hn,_,_,_,_,_,_=>by have:=v.size_pos; omega
 | n+1,v,hn,hv,t,ht,hr,ws,h=>by
  rw[Xn];cases hb:beh m 21 t with
  | none=>exact QsM m hm t ht v hb ws h
  | some b=>
   dsimp only;obtain⟨hbw,hbr,hb10⟩:=Qes m hm hf ht hr hb;have hbs:=QO hbr;by_cases hvk:v.kind=b.kind
   ·rw[decide_eq_true hvk,Bool.true_and]
    have hsubI:b.comp=true-> ∀i∈b.items,∀x∈v.items,∀ws h,Qb cfg ws 49 [m.enc,i.of.enc,x.enc] h=some (.bool (Xn m n i.of x),h):=fun hc i hi x hx ws h=>
     QgE m hm hf n x (by have:=Val.Qu hx; omega) (by have:=Val.Qu hx; omega) i.of (Nat.le_trans (Ty.ZI hi) hbw) (Qs hbr (by unfold Ty.inner; rw[if_pos hc]; exact List.mem_append_right _ (List.mem_map_of_mem hi))) ws h
    unfold JO;by_cases q0:b.kind=0
    ·rw[if_pos q0]; exact Qzg m hm t ht v hv b hb hbw hvk q0 ws h
    rw[if_neg q0];by_cases q1:b.kind=1
    ·rw[if_pos q1]; exact Qzf m hm t ht v hv b hb hbw hvk q1 ws h
    rw[if_neg q1];by_cases q2:b.kind=2
    ·rw[if_pos q2]; exact Qze m hm t ht v hv b hb hbw hvk q2 ws h
    rw[if_neg q2];by_cases q3:b.kind=3
    ·rw[if_pos q3]; exact Qzd m hm t ht v hv b hb hbw hvk q3 ws h
    rw[if_neg q3];by_cases q4:b.kind=4
    ·rw[if_pos q4]; exact Qzc m hm t ht v hv b hb hbw hvk q4 ws h
    rw[if_neg q4];by_cases q5:b.kind=5
    ·rw[if_pos q5]; exact Qzb m hm t ht v hv b hb hbw hvk q5 ws h
    rw[if_neg q5];by_cases q6:b.kind=6
    ·rw[if_pos q6]; exact Qza m hm t ht v hv b hb hbw hvk q6 ws h
    rw[if_neg q6];by_cases q11:b.kind=11
    ·rw[if_pos q11]; exact Qxs m hm t ht v hv b hb hbw hvk q11 ws h
    rw[if_neg q11];by_cases q7:b.kind=7
    ·rw[if_pos q7];have hk1:=Qhs hbs q7;obtain⟨kd,hkd⟩:=List.length_eq_one_iff.1 hk1;have hkm:b.kids.headD Ty.zero∈b.kids:=by rw[hkd]; simp
     exact QyZ m hm t ht v hv b hb hbw hvk (Xn m n) hk1 (fun x hx ws h=>QgE m hm hf n x (by have:=Val.Qu hx; omega) (by have:=Val.Qu hx; omega) _ (Nat.le_trans (Ty.ZT hkm) hbw) (Qs hbr (List.mem_append_left _ hkm)) ws h) q7 ws h
    rw[if_neg q7];by_cases q9:b.kind=9
    ·rw[if_pos q9]; exact QyX m hm t ht v hv b hb hbw hvk (Xn m n) (hsubI (by unfold Ty.comp; simp[q9])) q9 ws h
    rw[if_neg q9];have q8:=Qhr hbs hb10 q0 q1 q2 q3 q4 q5 q6 q11 q7 q9;exact QyY m hm t ht v hv b hb hbw hvk (Xn m n) (hsubI (by unfold Ty.comp; simp[q8])) q8 ws h
   ·rw[decide_eq_false hvk,Bool.false_and];exact Qxr m hm t ht v b hb hvk ws h
end Go.Proofs.YtflbneepngjglaaGreatDoor
namespace Go.Proofs.YtflbneepngjglaaGreatDoor
open Go Go.Avm
def Ty.JN(ps:List ByteArray)(args:List Ty)(t:Ty):Ty:=match t.par ps with
 | some i=>args[i]?.getD Ty.zero
 | none=>.mk t.kind t.name t.lo t.hi t.free t.ext (t.items.attach.map fun x=>if t.comp then x.1.QR (x.1.of.JN ps args)else x.1) (t.kids.attach.map fun x=>x.1.JN ps args)
termination_by t.size
decreasing_by
 ·exact Ty.mem_of x.2
 ·exact Ty.Xa x.2
theorem Ty.Qcc(ps:List ByteArray)(args:List Ty)(t:Ty):t.JN ps args=match t.par ps with
 | some i=>args[i]?.getD Ty.zero
 | none=>.mk t.kind t.name t.lo t.hi t.free t.ext (t.items.map fun x=>if t.comp then x.QR (x.of.JN ps args)else x) (t.kids.map fun x=>x.JN ps args):=by
 rw[Ty.JN,Yh t.items (fun x=>if t.comp then x.QR (x.of.JN ps args)else x),Yh t.kids (fun x=>x.JN ps args)]
theorem Qpb (t:Ty)(ht:t.wid<=67108864)(ps:List ByteArray)(args:List Ty)(h:Avm.H)(hp:ps.length<=67108864)(hpa:ps.length=args.length):
    Qa (evC (Qb cfg) Qa cfg.pol h.length h.length Qdw) [1,2,3,6,7] [(1,.isl (ps.map .str)),(2,.isl (args.map Ty.enc)),(3,.ptr h.length 0 8 0 0),(6,.ptr (h.length+1) 0 8 0 0),(7,.int .i64 (0:Nat))] (h++ [.arr 0 8 [t.enc],.arr 0 8 [.agg [.int .i64 0,.str ⟨#[]⟩,.int .i64 0,.int .i64 0,.bool false,.bool false,.esl,.esl]]])=some (match (ps).findIdx? (fun p=>eqS p t.name)with | some j=>(.ret,[(6,.ptr (h.length+1) 0 8 0 0)],h++ [.arr 0 8 [t.enc],.arr 0 8 [(args[j]?.getD Ty.zero).enc]]) | none=>(.exit 0,[(1,.isl (ps.map .str)),(2,.isl (args.map Ty.enc)),(3,.ptr h.length 0 8 0 0),(6,.ptr (h.length+1) 0 8 0 0),(7,.int .i64 ps.length)],h++ [.arr 0 8 [t.enc],.arr 0 8 [.agg [.int .i64 0,.str ⟨#[]⟩,.int .i64 0,.int .i64 0,.bool false,.bool false,.esl,.esl]]])):=by
 have hlp:=QE (f:=evC (Qb cfg) Qa cfg.pol h.length h.length Qdw) (keep:=[1,2,3,6,7]) ps (fun i=>[(1,.isl (ps.map .str)),(2,.isl (args.map Ty.enc)),(3,.ptr h.length 0 8 0 0),(6,.ptr (h.length+1) 0 8 0 0),(7,.int .i64 i)]) (fun _=>h++ [.arr 0 8 [t.enc],.arr 0 8 [.agg [.int .i64 0,.str ⟨#[]⟩,.int .i64 0,.int .i64 0,.bool false,.bool false,.esl,.esl]]])
      (fun i r=>match (r).findIdx? (fun p=>eqS p t.name)with | some j=>(.ret,[(6,.ptr (h.length+1) 0 8 0 0)],h++ [.arr 0 8 [t.enc],.arr 0 8 [(args[(i+j)]?.getD Ty.zero).enc]]) | none=>(.exit 0,[(1,.isl (ps.map .str)),(2,.isl (args.map Ty.enc)),(3,.ptr h.length 0 8 0 0),(6,.ptr (h.length+1) 0 8 0 0),(7,.int .i64 ps.length)],h++ [.arr 0 8 [t.enc],.arr 0 8 [.agg [.int .i64 0,.str ⟨#[]⟩,.int .i64 0,.int .i64 0,.bool false,.bool false,.esl,.esl]]])) ?_ ?_
 ·simp only[Nat.zero_add]at hlp;exact hlp
 ·intro i x r hd hi hx K hK;have hw:=Qd (n:=i+1) (by omega)
  simp at hw;have hia:i<args.length:=by omega
  rw[List.findIdx?_cons]
  by_cases hv:x.toList=t.name.toList
  ·have hv':eqS x t.name=true:=by unfold eqS; exact decide_eq_true hv
   simp only[hv',if_true];simp[Qdw,hi,hx,hv,hia]
  ·have hv':eqS x t.name=false:=by unfold eqS; exact decide_eq_false hv
   simp only[hv',Bool.false_eq_true,if_false];cases hq:r.findIdx? (fun p=>eqS p t.name)with
   | none=>
    rw[hq]at hK;simp at hK;simp[Qdw,hi,hx,hv,hw,hK]
   | some j=>
    rw[hq]at hK;dsimp only at hK;rw[show i+1+j=i+(j+1)by omega]at hK
    simp at hK;simp[Qdw,hi,hx,hv,hw,hK]
 ·intro K;simp[Qdw]
theorem Qpa (t:Ty)(ht:t.wid<=67108864)(ps:List ByteArray)(args:List Ty)(h:Avm.H)(P:Ty->Ty)(Q:It->It)(hQ: ∀x,Q x=if t.comp then x.QR (P x.of)else x)(hP:t.comp=true-> ∀x∈t.items,∀ws h,Qb cfg ws 142 [x.of.enc,.isl (ps.map .str),.isl (args.map Ty.enc)] h=some ((P x.of).enc,h)):
    Qa (evC (Qb cfg) Qa cfg.pol h.length h.length Qdv) [1,2,3,6,8,9] [(1,.isl (ps.map .str)),(2,.isl (args.map Ty.enc)),(3,.ptr h.length 0 8 0 0),(6,.ptr (h.length+1) 0 8 0 0),(8,.ptr (h.length+2) 0 8 0 0),(9,.int .i64 (0:Nat))] (h++ [.arr 0 8 [t.enc],.arr 0 8 [.agg [.int .i64 0,.str ⟨#[]⟩,.int .i64 0,.int .i64 0,.bool false,.bool false,.esl,.esl]],.arr 0 8 [.agg [.int .i64 t.kind,.str t.name,.int .i64 t.lo,.int .i64 t.hi,.bool t.free,.bool t.ext,.osl (h.length+3) 1 12 0 t.items.length,.isl (t.kids.map Ty.enc)]],.arr 1 12 ((upto Q t.items 0).map It.enc)])=some (.exit 2,[(1,.isl (ps.map .str)),(2,.isl (args.map Ty.enc)),(3,.ptr h.length 0 8 0 0),(6,.ptr (h.length+1) 0 8 0 0),(8,.ptr (h.length+2) 0 8 0 0),(9,.int .i64 t.items.length)],h++ [.arr 0 8 [t.enc],.arr 0 8 [.agg [.int .i64 0,.str ⟨#[]⟩,.int .i64 0,.int .i64 0,.bool false,.bool false,.esl,.esl]],.arr 0 8 [.agg [.int .i64 t.kind,.str t.name,.int .i64 t.lo,.int .i64 t.hi,.bool t.free,.bool t.ext,.osl (h.length+3) 1 12 0 t.items.length,.isl (t.kids.map Ty.enc)]],.arr 1 12 ((upto Q t.items t.items.length).map It.enc)]):=by
 have hwk:=t.Qe;refine QE (f:=evC (Qb cfg) Qa cfg.pol h.length h.length Qdv) (keep:=[1,2,3,6,8,9]) t.items (fun i=>[(1,.isl (ps.map .str)),(2,.isl (args.map Ty.enc)),(3,.ptr h.length 0 8 0 0),(6,.ptr (h.length+1) 0 8 0 0),(8,.ptr (h.length+2) 0 8 0 0),(9,.int .i64 i)]) (fun i=>h++ [.arr 0 8 [t.enc],.arr 0 8 [.agg [.int .i64 0,.str ⟨#[]⟩,.int .i64 0,.int .i64 0,.bool false,.bool false,.esl,.esl]],.arr 0 8 [.agg [.int .i64 t.kind,.str t.name,.int .i64 t.lo,.int .i64 t.hi,.bool t.free,.bool t.ext,.osl (h.length+3) 1 12 0 t.items.length,.isl (t.kids.map Ty.enc)]],.arr 1 12 ((upto Q t.items i).map It.enc)]) (fun _ _=>(.exit 2,[(1,.isl (ps.map .str)),(2,.isl (args.map Ty.enc)),(3,.ptr h.length 0 8 0 0),(6,.ptr (h.length+1) 0 8 0 0),(8,.ptr (h.length+2) 0 8 0 0),(9,.int .i64 t.items.length)],h++ [.arr 0 8 [t.enc],.arr 0 8 [.agg [.int .i64 0,.str ⟨#[]⟩,.int .i64 0,.int .i64 0,.bool false,.bool false,.esl,.esl]],.arr 0 8 [.agg [.int .i64 t.kind,.str t.name,.int .i64 t.lo,.int .i64 t.hi,.bool t.free,.bool t.ext,.osl (h.length+3) 1 12 0 t.items.length,.isl (t.kids.map Ty.enc)]],.arr 1 12 ((upto Q t.items t.items.length).map It.enc)])) ?_ ?_
 ·intro i x r hd hi hx K hK;have hw:=Qd (n:=i+1) (by omega)
  simp at hw;have hm:x∈t.items:=by rw[←hx]; exact List.getElem_mem hi
  have hget:=QdJ Q It.enc t.items i hi;have hset:=QdI Q It.enc t.items i hi;have hln:=QgU Q t.items i;have hln1:=QgU Q t.items (i+1);rw[hx]at hget hset;rw[hQ x]at hset;cases hc:t.comp
  ·have hsame:(upto Q t.items (i+1)).map It.enc=(upto Q t.items i).map It.enc:=by
     rw[←hset,hc];simp only[Bool.false_eq_true,if_false];refine List.ext_getElem? fun k=>?_
     rw[List.getElem?_set]
     split
     ·rename_i e; subst e; rw[hget]; split<;>simp_all
     ·rfl
   rw[hsame]at hK;generalize (upto Q t.items i).map It.enc=els at hget hK ⊢;unfold Ty.comp at hc;simp at hc;simp at hK;simp[Qdv,hi,hc.1,hc.2,hw,hK]
  ·have hcl:=fun h'=>hP hc x hm h.length h'
   rw[hc]at hset;simp only[if_true]at hset;generalize (upto Q t.items i).map It.enc=els at hget hset ⊢;simp[It.QR]at hcl hget hset hK;unfold Ty.comp at hc;by_cases q8:t.kind=8
   ·simp[q8]at hK;simp[Qdv,hi,hx,q8,hcl,hget,hset,hw,hK]
   ·have q9:t.kind=9:=by simpa[q8]using hc
    simp[q9]at hK;simp[Qdv,hi,hx,q9,hcl,hget,hset,hw,hK]
 ·intro K;simp[Qdv]
theorem QoZ (t:Ty)(ht:t.wid<=67108864)(ps:List ByteArray)(args:List Ty)(h:Avm.H)(P:Ty->Ty)(Q:It->It)(hP: ∀x∈t.kids,∀ws h,Qb cfg ws 142 [x.enc,.isl (ps.map .str),.isl (args.map Ty.enc)] h=some ((P x).enc,h)):
    Qa (evC (Qb cfg) Qa cfg.pol h.length h.length Qiw) [1,2,3,6,8,10] [(1,.isl (ps.map .str)),(2,.isl (args.map Ty.enc)),(3,.ptr h.length 0 8 0 0),(6,.ptr (h.length+1) 0 8 0 0),(8,.ptr (h.length+2) 0 8 0 0),(10,.int .i64 (0:Nat))] (h++ [.arr 0 8 [t.enc],.arr 0 8 [.agg [.int .i64 0,.str ⟨#[]⟩,.int .i64 0,.int .i64 0,.bool false,.bool false,.esl,.esl]],.arr 0 8 [.agg [.int .i64 t.kind,.str t.name,.int .i64 t.lo,.int .i64 t.hi,.bool t.free,.bool t.ext,.osl (h.length+3) 1 12 0 t.items.length,.osl (h.length+4) 1 8 0 t.kids.length]],.arr 1 12 ((t.items.map Q).map It.enc),.arr 1 8 ((upto P t.kids 0).map Ty.enc)])=some (.exit 4,[(1,.isl (ps.map .str)),(2,.isl (args.map Ty.enc)),(3,.ptr h.length 0 8 0 0),(6,.ptr (h.length+1) 0 8 0 0),(8,.ptr (h.length+2) 0 8 0 0),(10,.int .i64 t.kids.length)],h++ [.arr 0 8 [t.enc],.arr 0 8 [.agg [.int .i64 0,.str ⟨#[]⟩,.int .i64 0,.int .i64 0,.bool false,.bool false,.esl,.esl]],.arr 0 8 [.agg [.int .i64 t.kind,.str t.name,.int .i64 t.lo,.int .i64 t.hi,.bool t.free,.bool t.ext,.osl (h.length+3) 1 12 0 t.items.length,.osl (h.length+4) 1 8 0 t.kids.length]],.arr 1 12 ((t.items.map Q).map It.enc),.arr 1 8 ((upto P t.kids t.kids.length).map Ty.enc)]):=by
 have hwk:=t.ZH;refine QE (f:=evC (Qb cfg) Qa cfg.pol h.length h.length Qiw) (keep:=[1,2,3,6,8,10]) t.kids (fun i=>[(1,.isl (ps.map .str)),(2,.isl (args.map Ty.enc)),(3,.ptr h.length 0 8 0 0),(6,.ptr (h.length+1) 0 8 0 0),(8,.ptr (h.length+2) 0 8 0 0),(10,.int .i64 i)]) (fun i=>h++ [.arr 0 8 [t.enc],.arr 0 8 [.agg [.int .i64 0,.str ⟨#[]⟩,.int .i64 0,.int .i64 0,.bool false,.bool false,.esl,.esl]],.arr 0 8 [.agg [.int .i64 t.kind,.str t.name,.int .i64 t.lo,.int .i64 t.hi,.bool t.free,.bool t.ext,.osl (h.length+3) 1 12 0 t.items.length,.osl (h.length+4) 1 8 0 t.kids.length]],.arr 1 12 ((t.items.map Q).map It.enc),.arr 1 8 ((upto P t.kids i).map Ty.enc)]) (fun _ _=>(.exit 4,[(1,.isl (ps.map .str)),(2,.isl (args.map Ty.enc)),(3,.ptr h.length 0 8 0 0),(6,.ptr (h.length+1) 0 8 0 0),(8,.ptr (h.length+2) 0 8 0 0),(10,.int .i64 t.kids.length)],h++ [.arr 0 8 [t.enc],.arr 0 8 [.agg [.int .i64 0,.str ⟨#[]⟩,.int .i64 0,.int .i64 0,.bool false,.bool false,.esl,.esl]],.arr 0 8 [.agg [.int .i64 t.kind,.str t.name,.int .i64 t.lo,.int .i64 t.hi,.bool t.free,.bool t.ext,.osl (h.length+3) 1 12 0 t.items.length,.osl (h.length+4) 1 8 0 t.kids.length]],.arr 1 12 ((t.items.map Q).map It.enc),.arr 1 8 ((upto P t.kids t.kids.length).map Ty.enc)])) ?_ ?_
 ·intro i x r hd hi hx K hK;have hw:=Qd (n:=i+1) (by omega)
  simp at hw;have hm:x∈t.kids:=by rw[←hx]; exact List.getElem_mem hi
  have hcl:=fun h'=>hP x hm h.length h'
  have hget:=QdJ P Ty.enc t.kids i hi;have hset:=QdI P Ty.enc t.kids i hi;rw[hx]at hget hset;generalize (upto P t.kids i).map Ty.enc=els at hget hset ⊢;generalize (t.items.map Q).map It.enc=its at hK ⊢;simp at hcl hget hset hK;simp[Qiw,hi,hx,hcl,hget,hset,hw,hK]
 ·intro K;simp[Qiw]
theorem Qle (ps:List ByteArray)(args:List Ty)(hp:ps.length<=67108864)(hpa:ps.length=args.length): ∀(n:Nat) (t:Ty),t.size<=n->t.wid<=67108864-> ∀ws h,Qb cfg ws 142 [t.enc,.isl (ps.map .str),.isl (args.map Ty.enc)] h=some ((t.JN ps args).enc,h)
 | 0,t,ht,_,_,_=>by have:=t.size_pos; omega
 | n+1,t,ht,hw0,ws,h=>by
  have hwk:=t.ZH;have hwi:=t.Qe;have hli:t.items.length<=4294967296:=by omega
  have hlk:t.kids.length<=4294967296:=by omega
  have l0:=Qpb t hw0 ps args h hp hpa;have l1:=Qpa t hw0 ps args h (fun x=>x.JN ps args) (fun x=>if t.comp then x.QR (x.of.JN ps args)else x) (fun _=>rfl) (fun _ x hx ws h=>Qle ps args hp hpa n x.of (by have:=Ty.mem_of hx; omega) (Nat.le_trans (Ty.ZI hx) hw0) ws h)
  have l2:=QoZ t hw0 ps args h (fun x=>x.JN ps args) (fun x=>if t.comp then x.QR (x.of.JN ps args)else x) (fun x hx ws h=>Qle ps args hp hpa n x (by have:=Ty.Xa hx; omega) (Nat.le_trans (Ty.ZT hx) hw0) ws h)
  rw[QeE,QgV]at l1 l2;have hfi:ps.findIdx? (fun p=>eqS p t.name)=ps.findIdx? (eqS t.name):=by congr 1; funext p; exact QhX _ _
  rw[hfi]at l0;refine Qc rfl rfl ?_
  rw[Ty.Qcc];generalize (fun x:It=>if t.comp then x.QR (x.of.JN ps args)else x)=Q at l1 l2 ⊢
  simp[-List.map_map]at l1 l2;by_cases q10:t.kind=10
  ·by_cases qk:t.kids=[]
   ·cases qi:ps.findIdx? (eqS t.name)with
    | some i=>
     have hpar:t.par ps=some i:=by simp[Ty.par,q10,qk,qi]
     rw[hpar];rw[qi]at l0;simp[q10,qk]at l0;simp[Qwp,QvY,q10,qk,l0]
    | none=>
     have hpar:t.par ps=none:=by simp[Ty.par,q10,qk,qi]
     rw[hpar];rw[qi]at l0;simp[q10,qk,-List.map_map]at l0 l1 l2;simp[Qwp,QvY,q10,qk,l0,l1,l2,hli,hlk,QS,appended,Zv,look,Ju,-List.map_map,YH]
   ·have hpar:t.par ps=none:=by simp[Ty.par,qk]
    rw[hpar];simp[q10,-List.map_map]at l1 l2;simp[Qwp,QvY,q10,qk,l1,l2,hli,hlk,QS,appended,Zv,look,Ju,-List.map_map,YH]
  ·have hpar:t.par ps=none:=by simp[Ty.par,q10]
   rw[hpar];simp[Qwp,QvY,q10,l1,l2,hli,hlk,QS,appended,Zv,look,Ju,-List.map_map,YH]
end Go.Proofs.YtflbneepngjglaaGreatDoor
