/- Whether a value fits a type: the document agrees with the program. -/
import Derived.Test.YtflbneepngjglaaGreatDoorO41
set_option linter.all false
namespace Go.Proofs.YtflbneepngjglaaGreatDoor
open Go Go.Avm
theorem QwO (m:Md)(hm:m.ok)(hl:m.lim)(hf:m.fm)(t:Ty)(ht:t.wid<=67108864)(hn:t.nodes<=600)(v:Val)(b:Ty)(hb:beh m 21 t=some b)(hvk:v.kind=b.kind)(hv:v.size<=67108864)(hbs:Qk b=true)(hk:b.kind=0)(ws:Nat)(h:Avm.H):Qb cfg ws 139 [m.enc,t.enc,v.enc] h=some (.bool (QL false false false v),h):=by
 have hvb:=v.QJ;have hvi:=v.Qw;have hvk0:=hvk;rw[hk]at hvk;have e0:=fun ws h=>Zm v false false false ws h
 simp[hk,hvk]at e0;refine Qlo m hm hl hf t ht hn v b hb hvk0 hk ws h _ [] ?_
 simp[QgN,Md.enc,hk,hvk,e0]
theorem QwN (m:Md)(hm:m.ok)(hl:m.lim)(hf:m.fm)(t:Ty)(ht:t.wid<=67108864)(hn:t.nodes<=600)(v:Val)(b:Ty)(hb:beh m 21 t=some b)(hvk:v.kind=b.kind)(hv:v.size<=67108864)(hbs:Qk b=true)(hk:b.kind=1)(ws:Nat)(h:Avm.H):Qb cfg ws 139 [m.enc,t.enc,v.enc] h=some (.bool (QL true false false v&&inP v.int 0 1),h):=by
 have hvb:=v.QJ;have hvi:=v.Qw;have hvk0:=hvk;rw[hk]at hvk;have e0:=fun ws h=>Zm v true false false ws h
 simp[hk,hvk]at e0;refine Qln m hm hl hf t ht hn v b hb hvk0 hk ws h _ [] ?_
 cases p0:QL true false false v
 ·rw[p0]at e0;simp[QaS,Md.enc,hk,hvk,e0]
 ·rw[p0]at e0;by_cases p1:v.int=0
  ·simp[p1]at e0;simp[QaS,Md.enc,hk,hvk,e0,p1,inP]
  ·by_cases p2:v.int=1
   ·simp[p2]at e0;simp[QaS,Md.enc,hk,hvk,e0,p2,inP]
   ·have p3:inP v.int 0 1=false:=by
      unfold inP;simp;omega
    simp[QaS,Md.enc,hk,hvk,e0,p1,p2,p3]
theorem QwM (m:Md)(hm:m.ok)(hl:m.lim)(hf:m.fm)(t:Ty)(ht:t.wid<=67108864)(hn:t.nodes<=600)(v:Val)(b:Ty)(hb:beh m 21 t=some b)(hvk:v.kind=b.kind)(hv:v.size<=67108864)(hbs:Qk b=true)(hk:b.kind=2)(ws:Nat)(h:Avm.H):Qb cfg ws 139 [m.enc,t.enc,v.enc] h=some (.bool (QL true false false v&&(inP v.int (-1000000000000000) 1000000000000000&&(b.free||(b.ext||inP v.int b.lo b.hi)))),h):=by
 have hvb:=v.QJ;have hvi:=v.Qw;have hvk0:=hvk;rw[hk]at hvk
 have hr:XI b (-1000000000000000) 1000000000000000=true:=by
  unfold Qk at hbs;simp[hk]at hbs;exact hbs.2
 have e0:=fun ws h=>Zm v true false false ws h
 simp[hk,hvk]at e0;refine Qlm m hm hl hf t ht hn v b hb hvk0 hk ws h _ [] ?_
 unfold XI at hr;cases p0:QL true false false v
 ·rw[p0]at e0;by_cases p1:b.lo<=v.int
  ·simp[XC,Md.enc,hk,hvk,e0,p1]
  ·simp[XC,Md.enc,hk,hvk,e0,p1]
 ·rw[p0]at e0;unfold inP;cases p1:b.free
  ·rw[p1]at hr;simp at hr;cases p2:b.ext
   ·by_cases p3:b.lo<=v.int
    ·by_cases p4:v.int<=b.hi
     ·have p5: -1000000000000000<=v.int:=by omega
      have p6:v.int<=1000000000000000:=by omega
      simp[XC,Md.enc,hk,hvk,e0,p1,p2,p3,p4,p5,p6]
     ·simp[XC,Md.enc,hk,hvk,e0,p1,p2,p3,p4]
    ·simp[XC,Md.enc,hk,hvk,e0,p1,p2,p3]
   ·by_cases p5: -1000000000000000<=v.int
    ·by_cases p6:v.int<=1000000000000000
     ·by_cases p3:b.lo<=v.int
      ·by_cases p4:v.int<=b.hi
       ·simp[XC,Md.enc,hk,hvk,e0,p1,p2,p3,p4,p5,p6]
       ·simp[XC,Md.enc,hk,hvk,e0,p1,p2,p3,p4,p5,p6]
      ·simp[XC,Md.enc,hk,hvk,e0,p1,p2,p3,p5,p6]
     ·have p4: ¬v.int<=b.hi:=by omega
      by_cases p3:b.lo<=v.int
      ·simp[XC,Md.enc,hk,hvk,e0,p1,p2,p3,p4,p5,p6]
      ·simp[XC,Md.enc,hk,hvk,e0,p1,p2,p3,p5,p6]
    ·have p3: ¬b.lo<=v.int:=by omega
     simp[XC,Md.enc,hk,hvk,e0,p1,p2,p3,p5]
  ·rw[p1]at hr;simp at hr;by_cases p5: -1000000000000000<=v.int
   ·by_cases p6:v.int<=1000000000000000
    ·by_cases p3:b.lo<=v.int
     ·by_cases p4:v.int<=b.hi
      ·simp[XC,Md.enc,hk,hvk,e0,p1,p3,p4,p5,p6]
      ·simp[XC,Md.enc,hk,hvk,e0,p1,p3,p4,p5,p6]
     ·simp[XC,Md.enc,hk,hvk,e0,p1,p3,p5,p6]
    ·have p4: ¬v.int<=b.hi:=by omega
     by_cases p3:b.lo<=v.int
     ·simp[XC,Md.enc,hk,hvk,e0,p1,p3,p4,p5,p6]
     ·simp[XC,Md.enc,hk,hvk,e0,p1,p3,p5,p6]
   ·have p3: ¬b.lo<=v.int:=by omega
    simp[XC,Md.enc,hk,hvk,e0,p1,p3,p5]
theorem QwL (m:Md)(hm:m.ok)(hl:m.lim)(hf:m.fm)(t:Ty)(ht:t.wid<=67108864)(hn:t.nodes<=600)(v:Val)(b:Ty)(hb:beh m 21 t=some b)(hvk:v.kind=b.kind)(hv:v.size<=67108864)(hbs:Qk b=true)(hk:b.kind=3)(ws:Nat)(h:Avm.H):Qb cfg ws 139 [m.enc,t.enc,v.enc] h=some (.bool (QL true false false v&&inP v.int 0 ((b.items.length:Int)-1)),h):=by
 have hvb:=v.QJ;have hvi:=v.Qw;have hvk0:=hvk;rw[hk]at hvk;have e0:=fun ws h=>Zm v true false false ws h
 simp[hk,hvk]at e0;refine Qll m hm hl hf t ht hn v b hb hvk0 hk ws h _ [] ?_
 unfold inP;cases p0:QL true false false v
 ·rw[p0]at e0;simp[QaR,Md.enc,hk,hvk,e0]
 ·rw[p0]at e0;by_cases p1:0<=v.int
  ·by_cases p2:v.int<b.items.length
   ·have p3:v.int<=(b.items.length:Int)-1:=by omega
    simp[QaR,Md.enc,hk,hvk,e0,p1,p2,p3]
   ·have p3: ¬v.int<=(b.items.length:Int)-1:=by omega
    simp[QaR,Md.enc,hk,hvk,e0,p1,p2,p3]
  ·simp[QaR,Md.enc,hk,hvk,e0,p1]
theorem QwK (m:Md)(hm:m.ok)(hl:m.lim)(hf:m.fm)(t:Ty)(ht:t.wid<=67108864)(hn:t.nodes<=600)(v:Val)(b:Ty)(hb:beh m 21 t=some b)(hvk:v.kind=b.kind)(hv:v.size<=67108864)(hbs:Qk b=true)(hk:b.kind=4)(ws:Nat)(h:Avm.H):Qb cfg ws 139 [m.enc,t.enc,v.enc] h=some (.bool (QL false true false v&&ZB b (v.bytes.size:Int) 4000),h):=by
 have hvb:=v.QJ;have hvi:=v.Qw;have hvk0:=hvk;rw[hk]at hvk;have e0:=fun ws h=>Zm v false true false ws h
 have e1:=fun ws h=>Qlz b (v.bytes.size:Int) ws h
 simp[hk,hvk,Wt]at e0 e1;refine Qlk m hm hl hf t ht hn v b hb hvk0 hk ws h _ [] ?_
 cases p0:QL false true false v
 ·rw[p0]at e0;simp[QbR,Md.enc,hk,hvk,e0]
 ·rw[p0]at e0;simp[QbR,Md.enc,hk,hvk,e0,e1]
theorem QwJ (m:Md)(hm:m.ok)(hl:m.lim)(hf:m.fm)(t:Ty)(ht:t.wid<=67108864)(hn:t.nodes<=600)(v:Val)(b:Ty)(hb:beh m 21 t=some b)(hvk:v.kind=b.kind)(hv:v.size<=67108864)(hbs:Qk b=true)(hk:b.kind=5)(ws:Nat)(h:Avm.H):Qb cfg ws 139 [m.enc,t.enc,v.enc] h=some (.bool (QL false true false v&&(v.bytes.data.toList.all d01&&ZB b (v.bytes.size:Int) 32000)),h):=by
 have hvb:=v.QJ;have hvi:=v.Qw;have hvk0:=hvk;rw[hk]at hvk;have e0:=fun ws h=>Zm v false true false ws h
 have e1:=fun ws h=>Qlz b (v.bytes.size:Int) ws h
 have e2:=fun ws h=>QyC v.bytes (by omega) ws h
 simp only[hk,Wt]at e1;obtain⟨A,hA⟩: ∃A,v.bytes.data.toList.all d01=A:=⟨_,rfl⟩;rw[hA];simp only[hA]at e2;simp[hk,hvk]at e0 e1 e2;refine Qlj m hm hl hf t ht hn v b hb hvk0 hk ws h _ [] ?_
 cases p0:QL false true false v
 ·rw[p0]at e0;simp[Qal,Md.enc,hk,hvk,e0]
 ·rw[p0]at e0;cases A
  ·simp[Qal,Md.enc,hk,hvk,e0,e2]
  ·simp[Qal,Md.enc,hk,hvk,e0,e2,e1]
theorem Qul (m:Md)(hm:m.ok)(hl:m.lim)(hf:m.fm)(t:Ty)(ht:t.wid<=67108864)(hn:t.nodes<=600)(v:Val)(b:Ty)(hb:beh m 21 t=some b)(hvk:v.kind=b.kind)(hv:v.size<=67108864)(hbs:Qk b=true)(hk:b.kind=11)(ws:Nat)(h:Avm.H):Qb cfg ws 139 [m.enc,t.enc,v.enc] h=some (.bool (QL false true false v&&decide (v.bytes.size<=4000)),h):=by
 have hvb:=v.QJ;have hvi:=v.Qw;have hvk0:=hvk;rw[hk]at hvk;have hbb:((v.bytes.size:Int)<=4000)↔v.bytes.size<=4000:=by omega
 have e0:=fun ws h=>Zm v false true false ws h
 simp[hk,hvk]at e0;refine QiV m hm hl hf t ht hn v b hb hvk0 hk ws h _ [] ?_
 cases p0:QL false true false v
 ·rw[p0]at e0;simp[QbQ,Md.enc,hk,hvk,e0]
 ·rw[p0]at e0;simp[QbQ,Md.enc,hk,hvk,e0,hbb]
end Go.Proofs.YtflbneepngjglaaGreatDoor
namespace Go.Proofs.YtflbneepngjglaaGreatDoor
open Go Go.Avm
theorem QtN {h pre g:Avm.H}{sz:Nat}{acc:List AV}{v:AV}(hI:Qy h.length pre.length sz g acc v)(hp:Qv acc=true)(n:Nat):snap (h++(pre++g)) (n+1) v=some (.isl acc):=by
 rcases hI with⟨rfl,rfl⟩ | ⟨j,ver,rfl,h2⟩
 ·rfl
 ·have e:(h++(pre++g))[h.length+(j+pre.length)]? =some (.arr ver sz acc):=by
    rw[Zh,Nat.add_comm,Zh,h2]
  simp[look,e,Qx hp]
def Qgo (x:Val):Bool:=decide (x.kind=2)&&QL true false false x
def ints (l:List Val):List AV:=(l.map Val.int).map (.int .i64)
theorem QuS (m:Md)(b:Ty)(v:Val)(hv:v.size<=67108864)(h:Avm.H): ∃o,Qa (evC (Qb cfg) Qa cfg.pol h.length h.length Qdx) [5,9,10] [(5,.ptr (h.length+2) 0 4 0 0),(9,.osl (h.length+3) 0 1 0 0),(10,.int .i64 (0:Nat))] (h++([.arr 0 2 [m.enc],.arr 0 8 [b.enc],.arr 0 4 [v.enc]]++ [.arr 0 1 []]))=some o/\((v.items.all Qgo=true/\ ∃w g,Qy h.length 3 1 g (ints v.items) w/\o=(.exit 1,[(5,.ptr (h.length+2) 0 4 0 0),(9,w),(10,.int .i64 v.items.length)],h++([.arr 0 2 [m.enc],.arr 0 8 [b.enc],.arr 0 4 [v.enc]]++g)))\/(v.items.all Qgo=false/\ ∃g,o=(.ret,[(6,.bool false)],h++([.arr 0 2 [m.enc],.arr 0 8 [b.enc],.arr 0 4 [v.enc]]++g)))):=by
 have hl:v.items.length<=67108864:=by have:=v.Qw; omega
 refine Qg (γ:=AV×Avm.H) (f:=evC (Qb cfg) Qa cfg.pol h.length h.length Qdx) (keep:=[5,9,10]) v.items
     (fun i c=>Qy h.length 3 1 c.2 (ints (v.items.take i)) c.1)
     (fun i c=>[(5,.ptr (h.length+2) 0 4 0 0),(9,c.1),(10,.int .i64 i)]) (fun _ c=>h++([.arr 0 2 [m.enc],.arr 0 8 [b.enc],.arr 0 4 [v.enc]]++c.2))
     (fun _ r o=>(r.all Qgo=true/\ ∃w g,Qy h.length 3 1 g (ints v.items) w/\o=(.exit 1,[(5,.ptr (h.length+2) 0 4 0 0),(9,w),(10,.int .i64 v.items.length)],h++([.arr 0 2 [m.enc],.arr 0 8 [b.enc],.arr 0 4 [v.enc]]++g)))\/(r.all Qgo=false/\ ∃g,o=(.ret,[(6,.bool false)],h++([.arr 0 2 [m.enc],.arr 0 8 [b.enc],.arr 0 4 [v.enc]]++g)))) ?_ ?_ (.osl (h.length+3) 0 1 0 0,[.arr 0 1 []]) (.inr ⟨0,0,by simp[ints],by simp[ints]⟩)
 ·intro i x r c hd hi hx hI K hK;have hw:=Qd (n:=i+1) (by omega)
  simp at hw;have htk:v.items.take (i+1)=v.items.take i++ [x]:=by rw[List.take_succ_eq_append_getElem hi,hx]
  rw[htk]at hK;obtain⟨w,g⟩:=c;dsimp only at hI;have e0:=fun ws h=>Zm x true false false ws h
  simp at e0;by_cases q1:x.kind=2
  ·cases q2:QL true false false x
   ·refine⟨_,?_,.inr ⟨by simp[Qgo,q1,q2],g,rfl⟩⟩
    rw[q2]at e0;simp[q1]at e0;simp[Qdx,Qmh,hi,hx,q1,e0]
   ·rw[q2]at e0;simp[q1]at e0;simp[-Prod.exists,Qdx,Qmh,hi,hx,hw,q1,e0,QS,appended];generalize hA:Ju _ _ _ _ _ _ _=r';obtain⟨v',g',rfl,h2⟩:=Qy.use (pre:=[_,_,_]) hI hA (by simp[ints]; omega) (by simp)
    obtain⟨o,h4,h5⟩:=hK (v',g') (by simpa[ints]using h2)
    refine⟨o,?_,by simpa[Qgo,q1,q2]using h5⟩
    simp at h4;simp[h4,hw]
  ·refine⟨_,?_,.inr ⟨by simp[Qgo,q1],g,rfl⟩⟩
   simp[Qdx,Qmh,hi,hx,q1]
 ·intro c K hI;rw[List.take_length]at hI;refine⟨_,?_,.inl ⟨rfl,c.1,c.2,hI,rfl⟩⟩
  simp[Qdx]
end Go.Proofs.YtflbneepngjglaaGreatDoor
namespace Go.Proofs.YtflbneepngjglaaGreatDoor
open Go Go.Avm
theorem Qwi (l:List Val):l.all Qeu=(l.all Qgo&&(l.map Val.int).all Qjk):=by
 induction l with
 | nil=>rfl
 | cons x l ih=>
  simp only[List.all_cons,List.map_cons,ih,Qeu,Qgo,Qjk];cases decide (x.kind=2)<;>cases QL true false false x<;>cases inP x.int 0 1000000000<;>cases l.all Qgo<;>simp
theorem QxV (v:Val):QfH v=(v.items.all Qgo&&(QL false false true v&&QfX (v.items.map Val.int))):=by
 unfold QfH;rw[Qwi];generalize QL false false true v=P
 match hi:v.items with
 | []=>simp[QfX,inP]
 | [a]=>simp[QfX,inP]
 | a::b::r=>
  have e1:inP ((a::b::r).length:Int) 2 10=decide (r.length<=8):=by
   unfold inP;rw[←Bool.decide_and];exact decide_eq_decide.2 (by simp only[List.length_cons]; omega)
  have e2:Qqk (a::b::r)=(decide (a.int<=2)&&(decide (a.int=2)||decide (b.int<=39))):=by
   unfold Qqk;by_cases q1:a.int=2
   ·simp[q1]
   ·by_cases q2:a.int<2
    ·have:a.int<=2:=by omega
     simp[q1,q2,this]
    ·have: ¬a.int<=2:=by omega
     simp[q1,q2,this]
  rw[e1,e2];unfold QfX;simp only[List.map_cons,List.length_map];generalize (a::b::r).all Qgo=A;generalize (a.int::b.int::r.map Val.int).all Qjk=N;generalize decide (r.length<=8)=X;generalize (decide (a.int<=2)&&(decide (a.int=2)||decide (b.int<=39)))=Y
  cases P<;>cases A<;>cases N<;>cases X<;>cases Y<;>rfl
theorem QwI (m:Md)(hm:m.ok)(hl:m.lim)(hf:m.fm)(t:Ty)(ht:t.wid<=67108864)(hn:t.nodes<=600)(v:Val)(b:Ty)(hb:beh m 21 t=some b)(hvk:v.kind=b.kind)(hv:v.size<=67108864)(hbs:Qk b=true)(hk:b.kind=6)(ws:Nat)(h:Avm.H):Qb cfg ws 139 [m.enc,t.enc,v.enc] h=some (.bool (QfH v),h):=by
 have hvb:=v.QJ;have hvi:=v.Qw;have hvk0:=hvk;rw[hk]at hvk;rw[QxV];have e0:=fun ws h=>Zm v false false true ws h
 obtain⟨o,hlp,ho⟩:=QuS m b v hv h;simp[Md.enc,hk,hvk]at e0 hlp;rcases ho with⟨hA,w,g,hI,rfl⟩ | ⟨hA,g,rfl⟩
 ·rw[hA];have hsn:snap (h++([.arr 0 2 [m.enc],.arr 0 8 [b.enc],.arr 0 4 [v.enc]]++g)) deep w=some (.isl (ints v.items)):=QtN (pre:=[.arr 0 2 [m.enc],.arr 0 8 [b.enc],.arr 0 4 [v.enc]]) hI (JS _) 7
  have e1:Qb cfg h.length 223 [w] (h++([.arr 0 2 [m.enc],.arr 0 8 [b.enc],.arr 0 4 [v.enc]]++g))=some (.bool (QfX (v.items.map Val.int)),h++([.arr 0 2 [m.enc],.arr 0 8 [b.enc],.arr 0 4 [v.enc]]++g)):=by
   rw[Qdo (F:=QmE) rfl rfl rfl (args':=[.isl (ints v.items)]) (by
    have h2:snap (h++([.arr 0 2 [m.enc],.arr 0 8 [b.enc],.arr 0 4 [v.enc]]++g)) deep (.isl (ints v.items))=some (.isl (ints v.items)):=Zc (by simpa[ints,-List.map_map]using JS (v.items.map Val.int))
    simp only[QH,hsn,h2])]
   exact QuE (v.items.map Val.int) (by simp; omega) h.length _
  simp[Md.enc,hk,hvk]at e1;refine QdT m hm hl hf t ht hn v b hb hvk0 hk ws h _ g ?_
  simp[Md.enc]at hlp;cases p0:QL false false true v
  ·rw[p0]at e0;simp[Qak,Md.enc,hk,hvk,e0,hlp]
  ·rw[p0]at e0;generalize QfX (v.items.map Val.int)=R at e1 ⊢;simp[Qak,Md.enc,hk,hvk,e0,hlp,e1]
 ·rw[hA];refine QdT m hm hl hf t ht hn v b hb hvk0 hk ws h _ g ?_
  simp[Md.enc]at hlp;simp[Qak,Md.enc,hk,hvk,hlp]
theorem Qpf (m:Md)(b:Ty)(v:Val)(hv:v.size<=67108864)(k0:Ty)(hk:b.kids=[k0])(p:Val->Bool)(hsub: ∀x∈v.items,∀ws h,Qb cfg ws 139 [m.enc,k0.enc,x.enc] h=some (.bool (p x),h))(h:Avm.H):
    Qa (evC (Qb cfg) Qa cfg.pol h.length h.length Qfu) [3,4,5,11] [(3,.ptr h.length 0 2 0 0),(4,.ptr (h.length+1) 0 8 0 0),(5,.ptr (h.length+2) 0 4 0 0),(11,.int .i64 (0:Nat))] (h++ [.arr 0 2 [m.enc],.arr 0 8 [b.enc],.arr 0 4 [v.enc]])=some (if v.items.all p=true then(.exit 3,[(3,.ptr h.length 0 2 0 0),(4,.ptr (h.length+1) 0 8 0 0),(5,.ptr (h.length+2) 0 4 0 0),(11,.int .i64 v.items.length)],h++ [.arr 0 2 [m.enc],.arr 0 8 [b.enc],.arr 0 4 [v.enc]])else(.ret,[(6,.bool false)],h++ [.arr 0 2 [m.enc],.arr 0 8 [b.enc],.arr 0 4 [v.enc]])):=by
 have hl:v.items.length<=67108864:=by have:=v.Qw; omega
 refine QE (f:=evC (Qb cfg) Qa cfg.pol h.length h.length Qfu) (keep:=[3,4,5,11]) v.items (fun i=>[(3,.ptr h.length 0 2 0 0),(4,.ptr (h.length+1) 0 8 0 0),(5,.ptr (h.length+2) 0 4 0 0),(11,.int .i64 i)]) (fun _=>h++ [.arr 0 2 [m.enc],.arr 0 8 [b.enc],.arr 0 4 [v.enc]])
     (fun _ r=>if r.all p=true then(.exit 3,[(3,.ptr h.length 0 2 0 0),(4,.ptr (h.length+1) 0 8 0 0),(5,.ptr (h.length+2) 0 4 0 0),(11,.int .i64 v.items.length)],h++ [.arr 0 2 [m.enc],.arr 0 8 [b.enc],.arr 0 4 [v.enc]])else(.ret,[(6,.bool false)],h++ [.arr 0 2 [m.enc],.arr 0 8 [b.enc],.arr 0 4 [v.enc]])) ?_ ?_
 ·intro i x r hd hi hx K hK;have hw:=Qd (n:=i+1) (by omega)
  simp at hw;have hm:x∈v.items:=by rw[←hx]; exact List.getElem_mem hi
  have e0:=fun ws h=>hsub x hm ws h
  simp[Md.enc]at e0;cases hp:p x
  ·simp only[List.all_cons,hp,Bool.false_and,Bool.false_eq_true,if_false];simp[Qfu,Qqe,Md.enc,hk,hi,hx,e0,hp]
  ·simp only[List.all_cons,hp,Bool.true_and];simp[Md.enc,hk]at hK;simp[Qfu,Qqe,Md.enc,hk,hi,hx,e0,hp,hw,hK]
 ·intro K;simp[Qfu,Md.enc]
theorem QwH (m:Md)(hm:m.ok)(hl:m.lim)(hf:m.fm)(t:Ty)(ht:t.wid<=67108864)(hn:t.nodes<=600)(v:Val)(b:Ty)(hb:beh m 21 t=some b)(hvk:v.kind=b.kind)(hv:v.size<=67108864)(hbs:Qk b=true)(sub:Ty->Val->Bool)(hk1:b.kids.length=1)(hsub: ∀x∈v.items,∀ws h,Qb cfg ws 139 [m.enc,(b.kids.headD Ty.zero).enc,x.enc] h=some (.bool (sub (b.kids.headD Ty.zero) x),h))(hk:b.kind=7)(ws:Nat)(h:Avm.H):Qb cfg ws 139 [m.enc,t.enc,v.enc] h=some (.bool (QL false false true v&&(ZB b (v.items.length:Int) 200&&v.items.all (sub (b.kids.headD Ty.zero)))),h):=by
 have hvb:=v.QJ;have hvi:=v.Qw;have hvk0:=hvk;rw[hk]at hvk;have e0:=fun ws h=>Zm v false false true ws h
 have e1:=fun ws h=>Qlz b (v.items.length:Int) ws h
 obtain⟨k0,hk0⟩:=List.length_eq_one_iff.1 hk1;have hh0:b.kids.headD Ty.zero=k0:=by rw[hk0]; rfl
 rw[hh0]at hsub ⊢;have e2:=Qpf m b v hv k0 hk0 (sub k0) hsub h;simp only[hk,Wt]at e1;simp[hk,hvk,hk0,Md.enc]at e0 e1;refine Qli m hm hl hf t ht hn v b hb hvk0 hk ws h _ [] ?_
 cases p0:QL false false true v
 ·rw[p0]at e0;simp[Wh,Md.enc,hk,hvk,hk0,e0]
 ·rw[p0]at e0;cases p1:ZB b (v.items.length:Int) 200
  ·rw[p1]at e1;simp[Wh,Md.enc,hk,hvk,hk0,e0,e1]
  ·rw[p1]at e1;cases p2:v.items.all (sub k0)
   ·rw[p2]at e2;simp[hk,hvk,hk0,Md.enc]at e2;simp[Wh,Md.enc,hk,hvk,hk0,e0,e1,e2]
   ·rw[p2]at e2;simp[hk,hvk,hk0,Md.enc]at e2;simp[Wh,Md.enc,hk,hvk,hk0,e0,e1,e2]
theorem QwF (m:Md)(hm:m.ok)(hl:m.lim)(hf:m.fm)(t:Ty)(ht:t.wid<=67108864)(hn:t.nodes<=600)(v:Val)(b:Ty)(hb:beh m 21 t=some b)(hvk:v.kind=b.kind)(hv:v.size<=67108864)(hbs:Qk b=true)(sub:Ty->Val->Bool)(hsub: ∀i∈b.items,∀x∈v.items,∀ws h,Qb cfg ws 139 [m.enc,i.of.enc,x.enc] h=some (.bool (sub i.of x),h))(hk:b.kind=9)(ws:Nat)(h:Avm.H):Qb cfg ws 139 [m.enc,t.enc,v.enc] h=some (.bool (QL true false true v&&(inP v.int 0 ((b.items.length:Int)-1)&&(decide (v.items.length=1)&&sub ((b.items[v.int.toNat]?.map It.of).getD Ty.zero) (v.items.headD (.mk 0 0 ⟨#[]⟩ []))))),h):=by
 have hvb:=v.QJ;have hvi:=v.Qw;have hvk0:=hvk;rw[hk]at hvk;have e0:=fun ws h=>Zm v true false true ws h
 simp[hk,hvk]at e0;refine Qlh m hm hl hf t ht hn v b hb hvk0 hk ws h _ [] ?_
 unfold inP;cases p0:QL true false true v
 ·rw[p0]at e0;simp[Yp,Md.enc,hk,hvk,e0]
 ·rw[p0]at e0;by_cases p1:0<=v.int
  ·by_cases p2:v.int<b.items.length
   ·have p3:v.int<=(b.items.length:Int)-1:=by omega
    by_cases p4:v.items.length=1
    ·obtain⟨x,hx⟩:=List.length_eq_one_iff.1 p4;obtain⟨n,hn⟩:=Int.eq_ofNat_of_zero_le p1;have hnb:n<b.items.length:=by omega
     obtain⟨y,hy⟩: ∃y,b.items[n]=y:=⟨_,rfl⟩;have e2:=fun ws h=>hsub y (by rw[←hy]; exact List.getElem_mem hnb) x (by rw[hx]; simp) ws h
     have p3':(n:Int)<=(b.items.length:Int)-1:=by omega
     simp[Md.enc,hx,hn]at e0 e2;simp[Yp,Md.enc,hk,hvk,e0,hx,hn,hnb,hy,e2,p3']
    ·have p4': ¬((v.items.length:Nat):Int)=1:=by omega
     simp[Yp,Md.enc,hk,hvk,e0,p1,p2,p3,p4,p4']
   ·have p3: ¬v.int<=(b.items.length:Int)-1:=by omega
    simp[Yp,Md.enc,hk,hvk,e0,p1,p2,p3]
  ·simp[Yp,Md.enc,hk,hvk,e0,p1]
end Go.Proofs.YtflbneepngjglaaGreatDoor
namespace Go.Proofs.YtflbneepngjglaaGreatDoor
open Go Go.Avm
theorem QrR (m:Md)(b:Ty)(v:Val)(hlen:v.items.length=b.items.length)(hvl:v.items.length<=67108864)(sub:Ty->Val->Bool)(h12: ∀i∈b.items,∀x:Val,x.kind=12->sub i.of x=false)(hsub: ∀i∈b.items,∀x∈v.items,∀ws h,Qb cfg ws 139 [m.enc,i.of.enc,x.enc] h=some (.bool (sub i.of x),h))(h:Avm.H):
    ∃g,Qa (evC (Qb cfg) Qa cfg.pol h.length h.length Wi) [3,4,5,12] [(3,.ptr h.length 0 2 0 0),(4,.ptr (h.length+1) 0 8 0 0),(5,.ptr (h.length+2) 0 4 0 0),(12,.int .i64 (0:Nat))] (h++([.arr 0 2 [m.enc],.arr 0 8 [b.enc],.arr 0 4 [v.enc]]++ []))=some (if(b.items.zip v.items).all (Zn sub)=true then(.exit 5,[(3,.ptr h.length 0 2 0 0),(4,.ptr (h.length+1) 0 8 0 0),(5,.ptr (h.length+2) 0 4 0 0),(12,.int .i64 v.items.length)],h++([.arr 0 2 [m.enc],.arr 0 8 [b.enc],.arr 0 4 [v.enc]]++g))else(.ret,[(6,.bool false)],h++([.arr 0 2 [m.enc],.arr 0 8 [b.enc],.arr 0 4 [v.enc]]++g))):=by
 have hzl:(b.items.zip v.items).length=v.items.length:=by simp[hlen]
 have hl:(b.items.zip v.items).length<=67108864:=by omega
 have hlp:=Qg (γ:=Avm.H) (f:=evC (Qb cfg) Qa cfg.pol h.length h.length Wi) (keep:=[3,4,5,12]) (b.items.zip v.items) (fun _ _=>True)
      (fun i _=>[(3,.ptr h.length 0 2 0 0),(4,.ptr (h.length+1) 0 8 0 0),(5,.ptr (h.length+2) 0 4 0 0),(12,.int .i64 i)]) (fun _ g=>h++([.arr 0 2 [m.enc],.arr 0 8 [b.enc],.arr 0 4 [v.enc]]++g))
      (fun _ r o=>∃g,o=if r.all (Zn sub)=true then(.exit 5,[(3,.ptr h.length 0 2 0 0),(4,.ptr (h.length+1) 0 8 0 0),(5,.ptr (h.length+2) 0 4 0 0),(12,.int .i64 v.items.length)],h++([.arr 0 2 [m.enc],.arr 0 8 [b.enc],.arr 0 4 [v.enc]]++g))else(.ret,[(6,.bool false)],h++([.arr 0 2 [m.enc],.arr 0 8 [b.enc],.arr 0 4 [v.enc]]++g))) ?_ ?_ [] trivial
 ·obtain⟨o,h1,g,h2⟩:=hlp;exact⟨g,h2▸h1⟩
 ·intro i x r g hd hi hx _ K hK;have hw:=Qd (n:=i+1) (by omega)
  simp at hw;have hiv:i<v.items.length:=by omega
  have hib:i<b.items.length:=by omega
  obtain⟨y,x⟩:=x;rw[List.getElem_zip]at hx;have hxv:v.items[i]=x:=congrArg Prod.snd hx;have hxb:b.items[i]=y:=congrArg Prod.fst hx;have hmx:x∈v.items:=by rw[←hxv]; exact List.getElem_mem hiv
  have hmy:y∈b.items:=by rw[←hxb]; exact List.getElem_mem hib
  have e1:=fun ws h=>hsub y hmy x hmx ws h
  have e2:=fun ws h=>Zm x false false false ws h
  have hpe: ∀p:Bool,Zn sub (y,x)=p->((if x.kind=12 then(QL false false false x&&QiY y)else sub y.of x)=p):=fun p hp=>by
   unfold Zn at hp;by_cases q:x.kind=12
   ·rw[if_pos q]; simpa[q,h12 y hmy x q]using hp
   ·rw[if_neg q]; simpa[q]using hp
  simp[Md.enc]at e1 e2;cases hv:Zn sub (y,x)
  ·refine⟨_,?_,g++ [.arr 0 12 [y.enc],.arr 0 4 [x.enc]],by simp only[List.all_cons,hv,Bool.false_and,Bool.false_eq_true,if_false]; rfl⟩
   have hv2:=hpe _ hv;by_cases q1:x.kind=12
   ·rw[if_pos q1]at hv2;simp[q1]at e2;cases q2:QL false false false x
    ·rw[q2]at e2;simp[Wi,Wz,Yo,Yq,Md.enc,hiv,hib,hxv,hxb,e2,q1]
    ·rw[q2]at e2 hv2;simp only[Bool.true_and,QiY,Bool.or_eq_false_iff,Bool.not_eq_false',List.isEmpty_iff]at hv2;simp[Wi,Wz,Yo,Yq,Md.enc,hiv,hib,hxv,hxb,e2,q1,hv2.1,hv2.2.1,hv2.2.2]
   ·rw[if_neg q1]at hv2;rw[hv2]at e1;simp[Wi,Wz,Yo,Yq,Md.enc,hiv,hib,hxv,hxb,e1,q1]
  ·obtain⟨o,h4,g2,h5⟩:=hK (g++ [.arr 0 12 [y.enc],.arr 0 4 [x.enc]]) trivial;refine⟨o,?_,g2,by simp only[List.all_cons,hv,Bool.true_and]; exact h5⟩
   have hv2:=hpe _ hv;by_cases q1:x.kind=12
   ·rw[if_pos q1]at hv2;simp[q1]at e2;simp[Md.enc,q1]at h4;rw[Bool.and_eq_true]at hv2;rw[hv2.1]at e2;have hm:=hv2.2;unfold QiY at hm;cases c1:y.opt
    ·cases c2:y.extra
     ·have c3: ¬y.QA=[]:=by simpa[c1,c2]using hm
      have c3':((y.QA.length:Int) == 0)=false:=by rw[Qnv]; simpa using c3
      simp[c1,c2]at h4;simp[Wi,Wz,Yo,Yq,Md.enc,hiv,hib,hxv,hxb,e2,q1,c1,c2,c3,c3',hw,h4]
     ·simp[c1,c2]at h4;simp[Wi,Wz,Yo,Yq,Md.enc,hiv,hib,hxv,hxb,e2,q1,c1,c2,hw,h4]
    ·simp[c1]at h4;simp[Wi,Wz,Yo,Yq,Md.enc,hiv,hib,hxv,hxb,e2,q1,c1,hw,h4]
   ·rw[if_neg q1]at hv2;rw[hv2]at e1;simp[Md.enc]at h4;simp[Wi,Wz,Yo,Yq,Md.enc,hiv,hib,hxv,hxb,e1,q1,hw,h4]
 ·intro g K _;refine⟨_,?_,g,by simp only[List.all_nil,if_true]; rfl⟩
  simp[Wi,Md.enc,hlen]
theorem QwG (m:Md)(hm:m.ok)(hl:m.lim)(hf:m.fm)(t:Ty)(ht:t.wid<=67108864)(hn:t.nodes<=600)(v:Val)(b:Ty)(hb:beh m 21 t=some b)(hvk:v.kind=b.kind)(hv:v.size<=67108864)(hbs:Qk b=true)(sub:Ty->Val->Bool)(h12: ∀i∈b.items,∀x:Val,x.kind=12->sub i.of x=false)(hsub: ∀i∈b.items,∀x∈v.items,∀ws h,Qb cfg ws 139 [m.enc,i.of.enc,x.enc] h=some (.bool (sub i.of x),h))(hk:b.kind=8)(ws:Nat)(h:Avm.H):Qb cfg ws 139 [m.enc,t.enc,v.enc] h=some (.bool (QL false false true v&&(decide (v.items.length=b.items.length)&&(b.items.zip v.items).all (Zn sub))),h):=by
 have hvb:=v.QJ;have hvi:=v.Qw;have hvk0:=hvk;rw[hk]at hvk;have e0:=fun ws h=>Zm v false false true ws h
 simp[hk,hvk,Md.enc]at e0;cases p0:QL false false true v
 ·rw[p0]at e0;refine YB m hm hl hf t ht hn v b hb hvk0 hk ws h _ [] ?_
  simp[QaT,Md.enc,hk,hvk,e0]
 ·rw[p0]at e0;by_cases p1:v.items.length=b.items.length
  ·obtain⟨g,e1⟩:=QrR m b v p1 (by omega) sub h12 hsub h
   simp only[Md.enc,Ty.ZO,Val.ZO,hk,hvk]at e1;cases p2:(b.items.zip v.items).all (Zn sub)
   ·rw[p2]at e1;simp[p1]at e1;refine YB m hm hl hf t ht hn v b hb hvk0 hk ws h _ g ?_
    simp[QaT,Md.enc,hk,hvk,e0,p1,e1]
   ·rw[p2]at e1;simp[p1]at e1;refine YB m hm hl hf t ht hn v b hb hvk0 hk ws h _ g ?_
    simp[QaT,Md.enc,hk,hvk,e0,p1,e1]
  ·have p1': ¬((v.items.length:Nat):Int)=(b.items.length:Nat):=by omega
   refine YB m hm hl hf t ht hn v b hb hvk0 hk ws h _ [] ?_
   simp[QaT,Md.enc,hk,hvk,e0,p1,p1']
theorem QnX (m:Md)(hm:m.ok)(hf:m.fm)(n:Nat)(u:Ty)(x:Val)(hu:u.wid<=67108864)(hr:u.Qz Qk=true)(hx:x.kind=12):Xn m n u x=false:=by
 cases n with
 | zero=>rfl
 | succ n=>
  rw[Xn];cases hb:beh m 21 u with
  | none=>rfl
  | some b=>
   dsimp only;obtain⟨hbw,hbr,hb10⟩:=Qes m hm hf hu hr hb;have hbs:=QO hbr
   have: ¬x.kind=b.kind:=fun e=>by
    rw[hx]at e;unfold Qk at hbs;simp[←e]at hbs
   rw[decide_eq_false this,Bool.false_and]
end Go.Proofs.YtflbneepngjglaaGreatDoor
namespace Go.Proofs.YtflbneepngjglaaGreatDoor
open Go Go.Avm
theorem Qht (m:Md)(hm:m.ok)(hl:m.lim)(hf:m.fm): ∀(n:Nat) (v:Val),v.size<=n->v.size<=67108864-> ∀t:Ty,t.wid<=67108864->t.nodes<=600->t.Qz Qk=true-> ∀ws h,Qb cfg ws 139 [m.enc,t.enc,v.enc] h=some (.bool (Xn m n t v),h)
 | 0,v,hn,_,_,_,_,_,_,_=>by have:=v.size_pos; omega
 | n+1,v,hvn,hv,t,ht,hn,hr,ws,h=>by
  rw[Xn];cases hb:beh m 21 t with
  | none=>exact Qpk m hm hl hf t ht hn v hb ws h
  | some b=>
   dsimp only;obtain⟨hbw,hbr,hb10⟩:=Qes m hm hf ht hr hb;have hbs:=QO hbr;have hbn:=QkL m hl hn hb;by_cases hvk:v.kind=b.kind
   ·rw[decide_eq_true hvk,Bool.true_and];have hin:b.comp=true-> ∀i∈b.items,i.of∈b.inner:=fun hc i hi=>by unfold Ty.inner; rw[if_pos hc]; exact List.mem_append_right _ (List.mem_map_of_mem hi)
    have hsubI:b.comp=true-> ∀i∈b.items,∀x∈v.items,∀ws h,Qb cfg ws 139 [m.enc,i.of.enc,x.enc] h=some (.bool (Xn m n i.of x),h):=fun hc i hi x hx ws h=>
     Qht m hm hl hf n x (by have:=Val.Qu hx; omega) (by have:=Val.Qu hx; omega) i.of (Nat.le_trans (Ty.ZI hi) hbw) (by have:=Ty.Xx (hin hc i hi); omega) (Qs hbr (hin hc i hi)) ws h
    unfold JO;by_cases q0:b.kind=0
    ·rw[if_pos q0]; exact QwO m hm hl hf t ht hn v b hb hvk hv hbs q0 ws h
    rw[if_neg q0];by_cases q1:b.kind=1
    ·rw[if_pos q1]; exact QwN m hm hl hf t ht hn v b hb hvk hv hbs q1 ws h
    rw[if_neg q1];by_cases q2:b.kind=2
    ·rw[if_pos q2]; exact QwM m hm hl hf t ht hn v b hb hvk hv hbs q2 ws h
    rw[if_neg q2];by_cases q3:b.kind=3
    ·rw[if_pos q3]; exact QwL m hm hl hf t ht hn v b hb hvk hv hbs q3 ws h
    rw[if_neg q3];by_cases q4:b.kind=4
    ·rw[if_pos q4]; exact QwK m hm hl hf t ht hn v b hb hvk hv hbs q4 ws h
    rw[if_neg q4];by_cases q5:b.kind=5
    ·rw[if_pos q5]; exact QwJ m hm hl hf t ht hn v b hb hvk hv hbs q5 ws h
    rw[if_neg q5];by_cases q6:b.kind=6
    ·rw[if_pos q6]; exact QwI m hm hl hf t ht hn v b hb hvk hv hbs q6 ws h
    rw[if_neg q6];by_cases q11:b.kind=11
    ·rw[if_pos q11]; exact Qul m hm hl hf t ht hn v b hb hvk hv hbs q11 ws h
    rw[if_neg q11];by_cases q7:b.kind=7
    ·rw[if_pos q7];have hk1:=Qhs hbs q7;obtain⟨kd,hkd⟩:=List.length_eq_one_iff.1 hk1;have hkm:b.kids.headD Ty.zero∈b.kids:=by rw[hkd]; simp
     have hki:b.kids.headD Ty.zero∈b.inner:=List.mem_append_left _ hkm;exact QwH m hm hl hf t ht hn v b hb hvk hv hbs (Xn m n) hk1 (fun x hx ws h=>Qht m hm hl hf n x (by have:=Val.Qu hx; omega) (by have:=Val.Qu hx; omega) _ (Nat.le_trans (Ty.ZT hkm) hbw) (by have:=Ty.Xx hki; omega) (Qs hbr hki) ws h) q7 ws h
    rw[if_neg q7];by_cases q9:b.kind=9
    ·rw[if_pos q9]; exact QwF m hm hl hf t ht hn v b hb hvk hv hbs (Xn m n) (hsubI (by unfold Ty.comp; simp[q9])) q9 ws h
    rw[if_neg q9];have q8:=Qhr hbs hb10 q0 q1 q2 q3 q4 q5 q6 q11 q7 q9;have hc:b.comp=true:=by unfold Ty.comp; simp[q8]
    exact QwG m hm hl hf t ht hn v b hb hvk hv hbs (Xn m n) (fun i hi x hx=>QnX m hm hf n i.of x (Nat.le_trans (Ty.ZI hi) hbw) (Qs hbr (hin hc i hi)) hx) (hsubI hc) q8 ws h
   ·rw[decide_eq_false hvk,Bool.false_and];exact Quk m hm hl hf t ht hn v b hb hvk ws h
theorem QpL (m:Md)(hm:m.ok)(hl:m.lim)(hf:m.fm)(t:Ty)(ht:t.wid<=67108864)(hn:t.nodes<=600)(hr:t.Qz Qk=true)(v:Val)(hv:v.size<=67108864)(ws:Nat)(h:Avm.H):Qb cfg ws 75 [m.enc,t.enc,v.enc] h=some (.bool (Wd v&&Xn m v.size t v),h):=by
 have e1:=fun ws h=>QjG _ v (Nat.le_refl _) hv ws h
 have e2:=fun ws h=>Qht m hm hl hf _ v (Nat.le_refl _) hv t ht hn hr ws h
 simp[Md.enc]at e1 e2;refine Qc rfl rfl ?_
 unfold Wd;by_cases q1:v.nodes<=600
 ·by_cases q2:v.depth<=30
  ·have q1':(v.nodes:Int)<=600:=by omega
   have q2':(v.depth:Int)<=30:=by omega
   simp[F75,c75,Md.enc,e1,e2,q1,q2,q1',q2']
  ·have q1':(v.nodes:Int)<=600:=by omega
   have q2': ¬(v.depth:Int)<=30:=by omega
   simp[F75,c75,Md.enc,e1,q1,q2,q1',q2']
 ·have q1': ¬(v.nodes:Int)<=600:=by omega
  simp[F75,c75,Md.enc,e1,q1,q1']
end Go.Proofs.YtflbneepngjglaaGreatDoor
