/- The contents of a record, the program: the loop. -/
import Derived.Test.YtflbneepngjglaaGreatDoorE49
import Derived.Test.YtflbneepngjglaaGreatDoorE32
import Derived.Test.YtflbneepngjglaaGreatDoorE38
set_option linter.all false
namespace Go.Proofs.YtflbneepngjglaaGreatDoor
open Go Go.Avm
def QaC (m:Md)(t:Ty)(v:Val):Int:=if WO m t=0 then QB (Yu v&&Xu m v.size t v) 1 else WO m t
theorem QwB (m:Md)(hm:m.ok)(t:Ty)(hs:t.size<=67108864)(v:Val)(hv:v.size<=67108864)(ws:Nat)(h:Avm.H):Qb cfg ws 38 [m.enc,t.enc,v.enc] h=some (.int .i64 (QaC m t v),h):=by
 have hw:t.wid<=67108864:=Nat.le_trans t.XE hs;have e1:=fun ws h=>QtC m hm t hs ws h
 have e2:=fun ws h=>QrA v hv ws h
 unfold QaC;refine Qc rfl rfl ?_
 by_cases q:WO m t=0
 ·obtain⟨q1,q2⟩:=Qcz q;have e3:=fun ws h=>Qhh m hm (Qeq (Jc q1).2) v.size v (Nat.le_refl _) hv t hw (YV q2).2 ws h
  have e4:=fun b ws h=>Ja b 1 ws h
  rw[q]at e1 ⊢;simp[Md.enc]at e1 e2 e3;simp[F38,c38,Md.enc,e1,e2,e3,e4]
 ·simp[Md.enc]at e1;simp[F38,c38,Md.enc,e1,q]
theorem Qsy (m:Md)(hm:m.ok)(t:Ty)(hs:t.size<=67108864)(v:Val)(hv:v.size<=67108864)(ws:Nat)(h:Avm.H):Qb cfg ws 41 [m.enc,t.enc,v.enc] h=some (.int .i64 (QaC m t v),h):=by
 have hw:t.wid<=67108864:=Nat.le_trans t.XE hs;have e1:=fun ws h=>Qdi m hm t hs ws h
 unfold QaC;refine Qc rfl rfl ?_
 by_cases q:WO m t=0
 ·obtain⟨q1,q2⟩:=Qcz q;have e3:=fun ws h=>Qmf m hm (Qdo (Jc q1).1) (Qeq (Jc q1).2) t hw (JA (YV q2).1) (YV q2).2 v hv ws h
  rw[q]at e1 ⊢;generalize (Yu v&&Xu m v.size t v)=B at*;simp[Md.enc]at e1 e3;cases B
  ·simp[F41,c41,Md.enc,e1,e3,QB]
  ·simp[F41,c41,Md.enc,e1,e3,QB]
 ·simp[Md.enc]at e1;simp[F41,c41,Md.enc,e1,q]
theorem QcK {m:Md}{t:Ty}{v:Val}(h:QaC m t v=0):WO m t=0/\Yu v=true/\Xu m v.size t v=true:=by
 unfold QaC at h;by_cases q:WO m t=0
 ·rw[if_pos q]at h;refine⟨q,?_⟩
  cases q2:(Yu v&&Xu m v.size t v)
  ·rw[q2]at h; simp[QB]at h
  ·simpa using q2
 ·rw[if_neg q]at h; exact absurd h q
def zeroV :Val:=.mk 0 0 ⟨#[]⟩ []
def QkH (v:Val):Nat:=67108863*(67108864+2)+v.size
def ZR (m:Md)(t:Ty)(v:Val):Val:=(Xc m (QkH v) [] t v).getD zeroV
theorem QeZ {m:Md}{S:List (Ty×Val)}(M:m.ZJ S)(hS:S.length<=67108863)(hSs: ∀q∈S,q.2.size<=67108864){t:Ty}(T:t.ZJ m S)(v:Val):Xc m (QkH v) [] t v=some (ZR m t v):=by
 obtain⟨r,hr⟩:=QbG M hSs (QkH v) [] t v T (by
  have h1:rest S []<=S.length:=List.length_filter_le _ _;unfold QkH;exact Nat.add_le_add_right (Nat.mul_le_mul_right _ (Nat.le_trans h1 hS)) _)
 unfold ZR;rw[hr]; rfl
def QbH (m:Md)(t:Ty)(v:Val):Val×Int:=if QaC m t v=0 then(ZR m t v,0)else(zeroV,QaC m t v)
theorem WM : ∀(n:Nat) (v:Val),v.size<=n->v.nodes<=v.size
 | 0,v,h=>by have:=v.size_pos; omega
 | n+1,v,h=>by
  rw[v.QD,v.size_eq]
  have: ∀l:List Val,(∀x∈l,x.nodes<=x.size)->(l.map Val.nodes).sum<=Val.QO l:=by
   intro l
   induction l with
   | nil=>intro _; simp[Val.QO]
   | cons x l ih=>
    intro hl;have h1:=hl x (by simp)
    have h2:=ih fun y hy=>hl y (by simp[hy])
    simp only[List.map_cons,List.sum_cons,Val.QO];omega
  have:=this v.items fun x hx=>WM n x (by have:=Val.Qu hx; omega)
  omega
theorem QsC (m:Md)(hm:m.ok)(t:Ty)(hs:t.size<=67108864)(v:Val)(hv:v.size<=67108864)(ws:Nat)(h:Avm.H):Qb cfg ws 11 [m.enc,t.enc,v.enc] h=some (.tup [(QbH m t v).1.enc,.int .i64 (QbH m t v).2],h):=by
 have e1:=fun ws h=>QwB m hm t hs v hv ws h
 unfold QbH;refine Qc rfl rfl ?_
 by_cases q:QaC m t v=0
 ·obtain⟨q1,q2,q3⟩:=QcK q;obtain⟨M,T,hS,hSs⟩:=Qmi hm hs q1;have hpl:=QeZ M hS hSs T v;have hr:rest (QmT m t) []<=(QmT m t).length:=List.length_filter_le _ _;have e2:=fun ws h'=>Qif M hS hSs (QkH v) [] t v (ZR m t v) hpl T ⟨_,q3⟩ hv (by simp) (by simpa using hr) (.ptr (h.length+4) 0 3 0 0) (h++([.arr 0 2 [m.enc],.arr 0 8 [t.enc],.arr 0 4 [v.enc],.arr 0 4 [.agg [.int .i64 0,.int .i64 0,.str ⟨#[]⟩,.isl []]],.arr 0 3 [.agg [.str m.name,.isl (m.defs.map Df.enc),.isl []]]]++h')) ⟨h.length+4,.isl [],rfl,by simp,by simp,.inl rfl⟩ ws
  have e2:=fun ws=>e2 ws []
  have hsz:=Yp hpl;have e3:=fun ws h=>QiH _ (ZR m t v) (Nat.le_refl _) (by have:=WM _ (ZR m t v) (Nat.le_refl _); omega) ws h
  rw[q]at e1 ⊢;generalize ZR m t v=r at*;simp at e2 e3;simp only[Md.enc]at e1 e2;simp at e1;simp[F11,c11,Md.enc,e1,e2,e3]
 ·simp only[Md.enc]at e1;simp at e1;simp[F11,c11,Md.enc,e1,q,zeroV]
theorem Qsp (m:Md)(hm:m.ok)(t:Ty)(hs:t.size<=67108864)(v:Val)(hv:v.size<=67108864)(ws:Nat)(h:Avm.H):Qb cfg ws 12 [m.enc,t.enc,v.enc] h=some (.tup [(QbH m t v).1.enc,.int .i64 (QbH m t v).2],h):=by
 have e1:=fun ws h=>Qsy m hm t hs v hv ws h
 unfold QbH;refine Qc rfl rfl ?_
 by_cases q:QaC m t v=0
 ·obtain⟨q1,q2,q3⟩:=QcK q;obtain⟨M,T,hS,hSs⟩:=Qmi hm hs q1;have hpl:=QeZ M hS hSs T v;have e2:=fun ws h=>QrZ M hS hSs (QkH v) t v (ZR m t v) hpl T ⟨_,q3⟩ hv ws h
  rw[q]at e1 ⊢;generalize ZR m t v=r at*;simp only[Md.enc]at e1 e2;simp at e1 e2;simp[F12,c12,Md.enc,e1,e2]
 ·simp only[Md.enc]at e1;simp at e1;simp[F12,c12,Md.enc,e1,q,zeroV]
theorem Qkc (v:Val):v.same v=true:=(Val.JJ v v).2 rfl
theorem Qsq (m:Md)(hm:m.ok)(t:Ty)(hs:t.size<=67108864)(v:Val)(hv:v.size<=67108864)(ws:Nat)(h:Avm.H):Qb cfg ws 57 [m.enc,t.enc,v.enc] h=some (.tup [.bool (QtT m t v),.int .i64 (WO m t)],h):=by
 have hw:t.wid<=67108864:=Nat.le_trans t.XE hs;have e1:=fun ws h=>Qdi m hm t hs ws h
 unfold QtT;refine Qc rfl rfl ?_
 by_cases q:WO m t=0
 ·obtain⟨q1,q2⟩:=Qcz q;have e3:=fun ws h=>Qmf m hm (Qdo (Jc q1).1) (Qeq (Jc q1).2) t hw (JA (YV q2).1) (YV q2).2 v hv ws h
  rw[q]at e1 ⊢;simp[Md.enc]at e1 e3;simp[F57,c57,Md.enc,e1,e3]
 ·simp[Md.enc]at e1;simp[F57,c57,Md.enc,e1,q]
end Go.Proofs.YtflbneepngjglaaGreatDoor
namespace Go.Proofs.YtflbneepngjglaaGreatDoor
open Go Go.Avm
def Za :List ByteArray->ByteArray
 | []=>⟨#[]⟩
 | x::r=>x++Za r
def QdK (l:List Val):ByteArray:=XR (40*(l.headD Wv).int+(l.tail.headD Wv).int).toNat++Za ((l.drop 2).map fun x=>XR x.int.toNat)
def JT (b:Ty)(sub:Ty->Val->ByteArray):Nat->List Val->ByteArray
 | _,[]=>⟨#[]⟩
 | i,x::r=>(if x.kind=12 then⟨#[]⟩else elS (128+i) (sub (b.items[i]?.getD It.zero).of x))++JT b sub (i+1) r
def Zn (b:Ty)(v:Val)(sub:Ty->Val->ByteArray):ByteArray:=
 if b.kind=1 then JR (255*v.int)
 else if b.kind=2\/b.kind=3 then QcM v.int
 else if b.kind=4\/b.kind=11 then v.bytes
 else if b.kind=5 then JR (QaP v.bytes.size)++XQ v.bytes
 else if b.kind=6 then QdK v.items
 else if b.kind=7 then Za (v.items.map (sub (b.kids.headD Ty.zero)))
 else if b.kind=8 then JT b sub 0 v.items
 else if b.kind=9 then sub ((b.items[v.int.toNat]?.map It.of).getD Ty.zero) (v.items.headD Wv)
 else⟨#[]⟩
def JN (m:Md):Nat->Ty->Val->ByteArray
 | 0,_,_=>⟨#[]⟩
 | n+1,t,v=>elS (ZN ((beh m 21 t).getD Ty.zero).kind+if((beh m 21 t).getD Ty.zero).kind=9 then v.int else 0) (Zn ((beh m 21 t).getD Ty.zero) v (JN m n))
theorem YW : ∀{l:List ByteArray} {f:Nat},(∀x∈l,x.size<=f)->(Za l).size<=l.length*f
 | [],f,_=>by show 0<=_; exact Nat.zero_le _
 | x::l,f,h=>by
  have h1:=h x (by simp)
  have h2:=YW (l:=l) (f:=f) fun y hy=>h y (by simp[hy])
  rw[Za,ByteArray.size_append,List.length_cons,Nat.succ_mul];omega
theorem ZB (n:Nat)(h:n<4611686018427387904):(XR n).size<=10:=by
 unfold XR;rw[JI];exact QdX n h
theorem Qfc (n:Int)(h0: -1000000000000000<=n)(h1:n<=1000000000000000):(QcM n).size<=8:=by
 unfold QcM;rw[JI,List.length_map,List.length_reverse];exact QnD n h0 h1
theorem QpX (s:ByteArray):(XQ s).size<=s.size+1:=by
 unfold XQ;rw[JI,List.length_map,YS,show s.data.toList.length=s.size from Array.length_toList];omega
theorem QpR (m:Md)(hm:m.ok)(t:Ty)(hs:t.size<=67108864)(ws:Nat)(h:Avm.H):Qb cfg ws 56 [m.enc,t.enc] h=some (.int .i64 (WO m t),h):=by
 have e1:=fun ws h=>QeW m hm ws h
 have e2:=fun ws h=>Qdi m hm t hs ws h
 refine Qc rfl rfl ?_
 by_cases q:Qbs m=0
 ·rw[q]at e1;simp only[Md.enc]at e1 e2;simp at e1 e2;simp[F56,c56,Md.enc,e1,e2]
 ·have hc:WO m t=Qbs m:=by unfold WO; rw[if_neg q]
  rw[hc];simp only[Md.enc]at e1 e2;simp at e1 e2;simp[F56,c56,Md.enc,e1,q]
end Go.Proofs.YtflbneepngjglaaGreatDoor
namespace Go.Proofs.YtflbneepngjglaaGreatDoor
open Go Go.Avm
theorem QjK (m:Md)(b:Ty)(v:Val)(hk:b.kind=1)(hv:v.int=0\/v.int=1)(sub:Ty->Val->ByteArray)(ws:Nat)(h:Avm.H):Qb cfg ws 101 [m.enc,b.enc,v.enc] h=some (.str (Zn b v sub),h):=by
 have w:IntKind.wrap .i64 (255*v.int)=255*v.int:=Qo (by omega) (by omega)
 have w2:=Yl (255*v.int);unfold Zn;rw[if_pos hk];unfold JR;refine Qc rfl rfl ?_
 simp[QjR,QjM,Md.enc,hk,w,w2,QN,XH]
theorem Qmr (m:Md)(b:Ty)(v:Val)(hk:b.kind=2\/b.kind=3)(h0: -1000000000000000<=v.int)(h1:v.int<=1000000000000000)(sub:Ty->Val->ByteArray)(ws:Nat)(h:Avm.H):Qb cfg ws 101 [m.enc,b.enc,v.enc] h=some (.str (Zn b v sub),h):=by
 have e1:=fun ws h=>QsL v.int h0 h1 ws h
 unfold Zn;rw[if_neg (by omega),if_pos hk]
 refine Qc rfl rfl ?_
 rcases hk with hk | hk<;>simp[QjR,QjM,Md.enc,hk,e1]
theorem QiI (m:Md)(b:Ty)(v:Val)(hk:b.kind=4\/b.kind=11)(sub:Ty->Val->ByteArray)(ws:Nat)(h:Avm.H):Qb cfg ws 101 [m.enc,b.enc,v.enc] h=some (.str (Zn b v sub),h):=by
 unfold Zn;rw[if_neg (by omega),if_neg (by omega),if_pos hk]
 refine Qc rfl rfl ?_
 rcases hk with hk | hk<;>simp[QjR,QjM,Md.enc,hk]
theorem QjL (m:Md)(b:Ty)(v:Val)(hk:b.kind=5)(hs:v.bytes.size<=32000)(h01:v.bytes.data.toList.all d01=true)(sub:Ty->Val->ByteArray)(ws:Nat)(h:Avm.H):Qb cfg ws 101 [m.enc,b.enc,v.enc] h=some (.str (Zn b v sub),h):=by
 have e1:=fun ws h=>Qww v.bytes hs h01 ws h
 have hps:(XQ v.bytes).size=(v.bytes.size+7)/8:=by
  unfold XQ;rw[JI,List.length_map,YS,show v.bytes.data.toList.length=v.bytes.size from Array.length_toList]
 have hpad:8*((XQ v.bytes).size:Int)-(v.bytes.size:Int)=(QaP v.bytes.size:Nat):=by rw[hps]; unfold QaP; omega
 have w1:IntKind.wrap .i64 (8*((XQ v.bytes).size:Int))=8*((XQ v.bytes).size:Int):=Qo (by omega) (by omega)
 have w2:IntKind.wrap .i64 (8*((XQ v.bytes).size:Int)-(v.bytes.size:Int))=(QaP v.bytes.size:Nat):=by rw[hpad]; exact Qd (by unfold QaP; omega)
 have w3:=Yl (QaP v.bytes.size:Nat);have hsz:(JR (QaP v.bytes.size:Nat)).size+(XQ v.bytes).size<=9223372036854775807:=by rw[ZA,hps]; omega
 unfold Zn;rw[if_neg (by omega),if_neg (by omega),if_neg (by omega),if_pos hk]
 unfold JR at*;generalize XQ v.bytes=p at*;generalize QaP v.bytes.size=q at*;refine Qc rfl rfl ?_
 try simp at w3
 try simp at hsz
 simp[QjR,QjM,Md.enc,hk,e1,w1,w2,w3,QN,XH,hsz]
theorem Qhr (m:Md)(b:Ty)(v:Val)(h:Avm.H):Bld (h++ [.arr 0 2 [m.enc],.arr 0 8 [b.enc],.arr 0 4 [v.enc],.buf 5 ⟨#[]⟩,.arr 0 2 [.agg [.nilp,.nbuf (h.length+3)]],.tyd (h.length+4) 0 111 2]) (h.length+3) .nilp ⟨#[]⟩:=by
 refine⟨by simp,?_,?_,.inl rfl⟩
 ·show(h++ [.arr 0 2 [m.enc],.arr 0 8 [b.enc],.arr 0 4 [v.enc],.buf 5 ⟨#[]⟩,.arr 0 2 [.agg [.nilp,.nbuf (h.length+3)]],.tyd (h.length+4) 0 111 2]:Avm.H)[h.length+4]? =some (.arr 0 2 [.agg [.nilp,.nbuf (h.length+3)]]);simp
 ·show(h++ [.arr 0 2 [m.enc],.arr 0 8 [b.enc],.arr 0 4 [v.enc],.buf 5 ⟨#[]⟩,.arr 0 2 [.agg [.nilp,.nbuf (h.length+3)]],.tyd (h.length+4) 0 111 2]:Avm.H)[h.length+5]? =some (.tyd (h.length+4) 0 111 2);simp
theorem QjI (m:Md)(b:Ty)(v:Val)(hk:b.kind=0)(sub:Ty->Val->ByteArray)(ws:Nat)(h:Avm.H):Qb cfg ws 101 [m.enc,b.enc,v.enc] h=some (.str (Zn b v sub),h):=by
 have hB:=Qhr m b v h;obtain⟨H',e1⟩:=Qbi hB (by show 0<=_; omega) h.length (by omega)
 unfold Zn;rw[if_neg (by omega),if_neg (by omega),if_neg (by omega),if_neg (by omega),if_neg (by omega),if_neg (by omega),if_neg (by omega),if_neg (by omega)]
 unfold YB at e1;refine Qc rfl rfl ?_
 simp[Md.enc,hk]at e1;simp[QjR,QjM,Md.enc,hk,e1]
end Go.Proofs.YtflbneepngjglaaGreatDoor
namespace Go.Proofs.YtflbneepngjglaaGreatDoor
open Go Go.Avm
theorem Bld.app{H:Avm.H}{B:Nat}{q:AV}{s:ByteArray}(h:Bld H B q s)(X:Avm.H):Bld (H++X) B q s:=by
 obtain⟨h0,h1,h2,h3⟩:=h;refine⟨?_,?_,?_,h3⟩
 ·rw[List.getElem?_append_left (List.getElem?_eq_some_iff.1 h0).1]; exact h0
 ·rw[List.getElem?_append_left (List.getElem?_eq_some_iff.1 h1).1]; exact h1
 ·rw[List.getElem?_append_left (List.getElem?_eq_some_iff.1 h2).1]; exact h2
theorem Qew (x:ByteArray): ∀l:List ByteArray,Za (l++ [x])=Za l++x
 | []=>by show x++ByteArray.empty=ByteArray.empty++x; simp
 | y::l=>by rw[List.cons_append,Za,Za,Qew x l,ByteArray.append_assoc]
theorem QzP (base B:Nat)(hB:base<=B)(l:List Val)(hl:l.length<=600)(hr: ∀x∈l,0<=x.int/\x.int<=1000000000)(H:Avm.H)(q:AV)(s:ByteArray)(hs:s.size<=100)(hb:Bld H B q s):
    ∃H' q',Bld H' B q' (s++Za (l.map fun x=>XR x.int.toNat))/\Qa (evC (Qb cfg) Qa cfg.pol base base Qjg) [7,81,82,83] [(7,YB B),(81,.isl (l.map Val.enc)),(82,.int .i64 l.length),(83,.int .i64 (0:Nat))] H=
     some (.exit 1,[(7,YB B),(81,.isl (l.map Val.enc)),(82,.int .i64 l.length),(83,.int .i64 l.length)],H'):=by
 have hlp:=Qg (γ:=Avm.H×AV×ByteArray) (f:=evC (Qb cfg) Qa cfg.pol base base Qjg) (keep:=[7,81,82,83]) l
  (fun i c=>Bld c.1 B c.2.1 c.2.2/\c.2.2=s++Za ((l.take i).map fun x=>XR x.int.toNat)/\c.2.2.size<=100+10*i)
  (fun i _=>[(7,YB B),(81,.isl (l.map Val.enc)),(82,.int .i64 l.length),(83,.int .i64 i)]) (fun _ c=>c.1)
  (fun _ _ o=>∃H' q',Bld H' B q' (s++Za (l.map fun x=>XR x.int.toNat))/\o=(.exit 1,[(7,YB B),(81,.isl (l.map Val.enc)),(82,.int .i64 l.length),(83,.int .i64 l.length)],H')) ?_ ?_ (H,q,s) ⟨hb,by show s=s++ByteArray.empty; simp,by dsimp only; omega⟩
 ·obtain⟨o,h1,H',q',h2,rfl⟩:=hlp;exact⟨H',q',h2,h1⟩
 ·intro i x r c hd hi hx hI K hK;obtain⟨HH,q,t⟩:=c;obtain⟨hI1,hI2,hI3⟩:=hI;dsimp only at hI1 hI2 hI3;have hm1:x∈l:=by rw[←hx]; exact List.getElem_mem hi
  obtain⟨x0,x1⟩:=hr x hm1;have hxn:((x.int.toNat:Nat):Int)=x.int:=by omega
  have e1:=fun ws h=>QhN x.int.toNat (by omega) ws h
  rw[hxn]at e1;have hss:=ZB x.int.toNat (by omega)
  have hbx:=hI1.app [Qp.arr 0 4 [x.enc]];have e2:=fun ws hw=>QdM hbx (XR x.int.toNat) (by omega) ws hw
  have e2:=e2 base hB;have hw:=Qd (n:=i+1) (by omega)
  have ht:l.take (i+1)=l.take i++ [x]:=by rw[List.take_succ_eq_append_getElem hi,hx]
  obtain⟨o,h4,h5⟩:=hK (((HH++ [Qp.arr 0 4 [x.enc]]:Avm.H).set B (.buf 5 (t++XR x.int.toNat))).set (B+1) (QmM B (t++XR x.int.toNat)),.ptr (B+1) 0 2 0 0,t++XR x.int.toNat) ⟨hbx.wrote _,by dsimp only; rw[ht,hI2,List.map_append,List.map_cons,List.map_nil,Qew,ByteArray.append_assoc],by dsimp only; rw[ByteArray.size_append]; omega⟩
  refine⟨o,?_,h5⟩
  dsimp only at h4;have hBl:=(List.getElem?_eq_some_iff.1 hI1.buf).1
  have hb1:base<=HH.length:=by omega
  have hb2: ¬HH.length<base:=by omega
  generalize XR x.int.toNat=u at*;unfold YB at*;simp at hw h4 e2;simp[Qjg,hi,hx,hb1,hb2,e1,e2,hw,h4]
 ·intro c K hI;obtain⟨HH,q,t⟩:=c;obtain⟨hI1,hI2,hI3⟩:=hI;dsimp only at hI1 hI2;refine⟨_,?_,HH,q,by rw[List.take_length]at hI2; rw[←hI2]; exact hI1,rfl⟩
  simp[Qjg]
end Go.Proofs.YtflbneepngjglaaGreatDoor
namespace Go.Proofs.YtflbneepngjglaaGreatDoor
open Go Go.Avm
theorem Qmq (m:Md)(b:Ty)(v:Val)(hk:b.kind=6)(h2:2<=v.items.length)(hl:v.items.length<=10)(hr: ∀x∈v.items,0<=x.int/\x.int<=1000000000)(hr0:(v.items.headD Wv).int<=2)(sub:Ty->Val->ByteArray)(ws:Nat)(h:Avm.H):Qb cfg ws 101 [m.enc,b.enc,v.enc] h=some (.str (Zn b v sub),h):=by
 obtain⟨x,y,l,hv⟩: ∃x y l,v.items=x::y::l:=by
  match hq:v.items with
  | []=>rw[hq]at h2; simp at h2
  | [a]=>rw[hq]at h2; simp at h2
  | a::c::l=>exact⟨a,c,l,rfl⟩
 rw[hv]at hr hr0 hl;have hx:=hr x (by simp)
 have hy:=hr y (by simp)
 have hx2:x.int<=2:=hr0;have hB:=Qhr m b v h;have hn:(((40*x.int+y.int).toNat:Nat):Int)=40*x.int+y.int:=by omega
 have e1:=fun ws h=>QhN (40*x.int+y.int).toNat (by omega) ws h
 rw[hn]at e1;have hss:=ZB (40*x.int+y.int).toNat (by omega)
 have e2:=QdM hB (XR (40*x.int+y.int).toNat) (by show 0+_<=_; omega) h.length (by omega)
 have hB2:=hB.wrote (XR (40*x.int+y.int).toNat);have he:(⟨#[]⟩:ByteArray)++XR (40*x.int+y.int).toNat=XR (40*x.int+y.int).toNat:=by show ByteArray.empty++_=_; simp
 rw[he]at e2 hB2;obtain⟨H',q',hB3,e3⟩:=QzP h.length (h.length+3) (by omega) l (by simp at hl; omega) (fun z hz=>hr z (by simp[hz])) _ _ _ (by omega) hB2
 have hsz3:(XR (40*x.int+y.int).toNat++Za (l.map fun x=>XR x.int.toNat)).size<=4294967296:=by
  have:=YW (l:=l.map fun x=>XR x.int.toNat) (f:=10) (fun z hz=>by
   obtain⟨w,hw,rfl⟩:=List.mem_map.1 hz;have:=hr w (by simp[hw])
   exact ZB _ (by omega))
  simp at this hl;rw[ByteArray.size_append];omega
 obtain⟨H2,e4⟩:=Qbi hB3 hsz3 h.length (by omega)
 have hen:Zn b v sub=XR (40*x.int+y.int).toNat++Za (l.map fun x=>XR x.int.toNat):=by
  unfold Zn QdK;rw[if_neg (by omega),if_neg (by omega),if_neg (by omega),if_neg (by omega),if_pos hk,hv]
  rfl
 rw[hen];clear hen hB hB2 hB3 hss hsz3 he hr hr0;generalize XR (40*x.int+y.int).toNat=u at*;generalize Za (l.map fun x=>XR x.int.toNat)=c at*
 have w1:IntKind.wrap .i64 (40*x.int)=40*x.int:=Qo (by omega) (by omega)
 have w2:IntKind.wrap .i64 (40*x.int+y.int)=40*x.int+y.int:=Qo (by omega) (by omega)
 unfold YB QmM at*;refine Qc rfl rfl ?_
 simp[Md.enc,hk,hv,Nat.add_assoc]at e2 e3 e4;simp[QjR,QjM,Md.enc,hk,hv,w1,w2,e1,e2,e3,e4,Nat.add_assoc,QcL,Qlv]
end Go.Proofs.YtflbneepngjglaaGreatDoor
namespace Go.Proofs.YtflbneepngjglaaGreatDoor
open Go Go.Avm
theorem Qya (m:Md)(b:Ty)(k0:Ty)(kr:List Ty)(hkk:b.kids=k0::kr)(base B bm bt:Nat)(hB:base<=B)(hbm:bm<B)(hbt:bt<B)(l:List Val)(hl:l.length<=600)(f:Val->ByteArray)(F:Nat)(hF:F<=3000000)(hf: ∀x∈l,(f x).size<=F)
    (hel: ∀x∈l,∀ws h,Qb cfg ws 55 [m.enc,k0.enc,x.enc] h=some (.str (f x),h)) (H:Avm.H) (h1:H[bm]? =some (.arr 0 2 [m.enc])) (h2:H[bt]? =some (.arr 0 8 [b.enc])) (q:AV) (s:ByteArray) (hs:s.size=0) (hb:Bld H B q s):
    ∃H' q',Bld H' B q' (s++Za (l.map f))/\Qa (evC (Qb cfg) Qa cfg.pol base base Qjf) [3,4,7,95,96,97] [(3,.ptr bm 0 2 0 0),(4,.ptr bt 0 8 0 0),(7,YB B),(95,.isl (l.map Val.enc)),(96,.int .i64 l.length),(97,.int .i64 (0:Nat))] H=
     some (.exit 3,[(3,.ptr bm 0 2 0 0),(4,.ptr bt 0 8 0 0),(7,YB B),(95,.isl (l.map Val.enc)),(96,.int .i64 l.length),(97,.int .i64 l.length)],H'):=by
 have hlp:=Qg (γ:=Avm.H×AV×ByteArray) (f:=evC (Qb cfg) Qa cfg.pol base base Qjf) (keep:=[3,4,7,95,96,97]) l
  (fun i c=>Bld c.1 B c.2.1 c.2.2/\c.2.2=s++Za ((l.take i).map f)/\c.2.2.size<=F*i/\c.1[bm]? =some (.arr 0 2 [m.enc])/\c.1[bt]? =some (.arr 0 8 [b.enc]))
  (fun i _=>[(3,.ptr bm 0 2 0 0),(4,.ptr bt 0 8 0 0),(7,YB B),(95,.isl (l.map Val.enc)),(96,.int .i64 l.length),(97,.int .i64 i)]) (fun _ c=>c.1)
  (fun _ _ o=>∃H' q',Bld H' B q' (s++Za (l.map f))/\o=(.exit 3,[(3,.ptr bm 0 2 0 0),(4,.ptr bt 0 8 0 0),(7,YB B),(95,.isl (l.map Val.enc)),(96,.int .i64 l.length),(97,.int .i64 l.length)],H')) ?_ ?_ (H,q,s) ⟨hb,by show s=s++ByteArray.empty; simp,by dsimp only; omega,h1,h2⟩
 ·obtain⟨o,h1,H',q',h2,rfl⟩:=hlp;exact⟨H',q',h2,h1⟩
 ·intro i x r c hd hi hx hI K hK;obtain⟨HH,q,t⟩:=c;obtain⟨hI1,hI2,hI3,hI4,hI5⟩:=hI;dsimp only at hI1 hI2 hI3 hI4 hI5;have hm1:x∈l:=by rw[←hx]; exact List.getElem_mem hi
  have e1:=fun ws h=>hel x hm1 ws h
  have hss:=hf x hm1;have hFi:F*i<=3000000*600:=Nat.mul_le_mul hF (by omega)
  have hbx:=hI1.app [Qp.arr 0 4 [x.enc]];have e2:=QdM hbx (f x) (by omega) base hB
  have hw:=Qd (n:=i+1) (by omega)
  have ht:l.take (i+1)=l.take i++ [x]:=by rw[List.take_succ_eq_append_getElem hi,hx]
  have hBl:=(List.getElem?_eq_some_iff.1 hI1.buf).1
  have g4: ∀X,(HH++X)[bm]? =some (.arr 0 2 [m.enc]):=fun X=>by rw[List.getElem?_append_left (by omega)]; exact hI4
  have g5: ∀X,(HH++X)[bt]? =some (.arr 0 8 [b.enc]):=fun X=>by rw[List.getElem?_append_left (by omega)]; exact hI5
  obtain⟨o,h4,h5⟩:=hK (((HH++ [Qp.arr 0 4 [x.enc]]:Avm.H).set B (.buf 5 (t++f x))).set (B+1) (QmM B (t++f x)),.ptr (B+1) 0 2 0 0,t++f x) ⟨hbx.wrote _,by dsimp only; rw[ht,hI2,List.map_append,List.map_cons,List.map_nil,Qew,ByteArray.append_assoc],by dsimp only; rw[ByteArray.size_append,Nat.mul_succ]; omega,
   by dsimp only; rw[List.getElem?_set_ne (by omega),List.getElem?_set_ne (by omega)]; exact g4 _,by dsimp only; rw[List.getElem?_set_ne (by omega),List.getElem?_set_ne (by omega)]; exact g5 _⟩
  refine⟨o,?_,h5⟩
  dsimp only at h4;have hb1:base<=HH.length:=by omega
  have hb2: ¬HH.length<base:=by omega
  generalize f x=u at*;unfold YB at*;simp only[Md.enc]at*;simp[hkk]at hw h4 e1 e2 g4 g5;simp[Qjf,hi,hx,hb1,hb2,g4,g5,e1,e2,hw,h4]
 ·intro c K hI;obtain⟨HH,q,t⟩:=c;obtain⟨hI1,hI2,hI3,hI4,hI5⟩:=hI;dsimp only at hI1 hI2;refine⟨_,?_,HH,q,by rw[List.take_length]at hI2; rw[←hI2]; exact hI1,rfl⟩
  simp[Qjf]
end Go.Proofs.YtflbneepngjglaaGreatDoor
namespace Go.Proofs.YtflbneepngjglaaGreatDoor
open Go Go.Avm
theorem QbC (b:Ty)(sub:Ty->Val->ByteArray)(x:Val): ∀(l:List Val) (i:Nat),JT b sub i (l++ [x])=JT b sub i l++(if x.kind=12 then⟨#[]⟩else elS (128+((i+l.length:Nat):Int)) (sub (b.items[i+l.length]?.getD It.zero).of x))
 | [],i=>by
  show(if x.kind=12 then⟨#[]⟩else _)++ByteArray.empty=ByteArray.empty++_
  simp
 | y::l,i=>by
  rw[List.cons_append,JT,JT,QbC b sub x l (i+1),ByteArray.append_assoc];rw[show i+1+l.length=i+(y::l).length by simp only[List.length_cons]; omega]
theorem QzA (m:Md)(b:Ty)(base B bm bt:Nat)(hB:base<=B)(hbm:bm<B)(hbt:bt<B)(l:List Val)(hl:l.length<=600)(hlb:l.length=b.items.length)(sub:Ty->Val->ByteArray)(F:Nat)(hF:F<=3000000)(hf: ∀(i:Nat) x,l[i]? =some x->x.kind≠12->(sub (b.items[i]?.getD It.zero).of x).size<=F)
    (hel: ∀(i:Nat) x,l[i]? =some x->x.kind≠12-> ∀ws h,Qb cfg ws 55 [m.enc,(b.items[i]?.getD It.zero).of.enc,x.enc] h=some (.str (sub (b.items[i]?.getD It.zero).of x),h)) (H:Avm.H) (h1:H[bm]? =some (.arr 0 2 [m.enc])) (h2:H[bt]? =some (.arr 0 8 [b.enc])) (q:AV) (s:ByteArray) (hs:s.size=0) (hb:Bld H B q s):
    ∃H' q',Bld H' B q' (s++JT b sub 0 l)/\Qa (evC (Qb cfg) Qa cfg.pol base base QfU) [3,4,7,113,114,115] [(3,.ptr bm 0 2 0 0),(4,.ptr bt 0 8 0 0),(7,YB B),(113,.isl (l.map Val.enc)),(114,.int .i64 l.length),(115,.int .i64 (0:Nat))] H=
     some (.exit 5,[(3,.ptr bm 0 2 0 0),(4,.ptr bt 0 8 0 0),(7,YB B),(113,.isl (l.map Val.enc)),(114,.int .i64 l.length),(115,.int .i64 l.length)],H'):=by
 have hlp:=Qg (γ:=Avm.H×AV×ByteArray) (f:=evC (Qb cfg) Qa cfg.pol base base QfU) (keep:=[3,4,7,113,114,115]) l
  (fun i c=>Bld c.1 B c.2.1 c.2.2/\c.2.2=s++JT b sub 0 (l.take i)/\c.2.2.size<=(F+4)*i/\c.1[bm]? =some (.arr 0 2 [m.enc])/\c.1[bt]? =some (.arr 0 8 [b.enc]))
  (fun i _=>[(3,.ptr bm 0 2 0 0),(4,.ptr bt 0 8 0 0),(7,YB B),(113,.isl (l.map Val.enc)),(114,.int .i64 l.length),(115,.int .i64 i)]) (fun _ c=>c.1)
  (fun _ _ o=>∃H' q',Bld H' B q' (s++JT b sub 0 l)/\o=(.exit 5,[(3,.ptr bm 0 2 0 0),(4,.ptr bt 0 8 0 0),(7,YB B),(113,.isl (l.map Val.enc)),(114,.int .i64 l.length),(115,.int .i64 l.length)],H')) ?_ ?_ (H,q,s) ⟨hb,by show s=s++ByteArray.empty; simp,by dsimp only; omega,h1,h2⟩
 ·obtain⟨o,h1,H',q',h2,rfl⟩:=hlp;exact⟨H',q',h2,h1⟩
 ·intro i x r c hd hi hx hI K hK;obtain⟨HH,q,t⟩:=c;obtain⟨hI1,hI2,hI3,hI4,hI5⟩:=hI;dsimp only at hI1 hI2 hI3 hI4 hI5;have hm1:x∈l:=by rw[←hx]; exact List.getElem_mem hi
  have hgi:l[i]? =some x:=by rw[List.getElem?_eq_getElem hi,hx]
  have hib:i<b.items.length:=by omega
  have hit:b.items[i]?.getD It.zero=b.items[i]:=by rw[List.getElem?_eq_getElem hib]; rfl
  have hFi:(F+4)*i<=3000004*600:=Nat.mul_le_mul (by omega) (by omega)
  have hbx:=hI1.app [Qp.arr 0 4 [x.enc]];have hw:=Qd (n:=i+1) (by omega)
  have hw2:IntKind.wrap .i64 (128+(i:Int))=128+(i:Int):=Qo (by omega) (by omega)
  have ht:l.take (i+1)=l.take i++ [x]:=by rw[List.take_succ_eq_append_getElem hi,hx]
  have hll:(l.take i).length=i:=by simp; omega
  have hBl:=(List.getElem?_eq_some_iff.1 hI1.buf).1
  have g4: ∀X,(HH++X)[bm]? =some (.arr 0 2 [m.enc]):=fun X=>by rw[List.getElem?_append_left (by omega)]; exact hI4
  have g5: ∀X,(HH++X)[bt]? =some (.arr 0 8 [b.enc]):=fun X=>by rw[List.getElem?_append_left (by omega)]; exact hI5
  have hb1:base<=HH.length:=by omega
  have hb2: ¬HH.length<base:=by omega
  by_cases q12:x.kind=12
  ·obtain⟨o,h4,h5⟩:=hK (HH++ [Qp.arr 0 4 [x.enc]],q,t) ⟨hbx,by dsimp only; rw[ht,QbC,hll,if_pos q12,hI2]; show _=s++(JT b sub 0 (l.take i)++ByteArray.empty); simp,by dsimp only; rw[Nat.mul_succ]; omega,g4 _,g5 _⟩
   refine⟨o,?_,h5⟩
   dsimp only at h4;unfold YB at*;simp only[Md.enc]at*;simp[q12]at hw h4;simp[QfU,hi,hx,hb1,hb2,g4,g5,q12,hw,h4]
  ·have e1:=fun ws h=>hel i x hgi q12 ws h
   have hss:=hf i x hgi q12;rw[hit]at e1 hss;have e0:=fun ws h=>QiC (128+(i:Int)) (sub b.items[i].of x) (by omega) ws h
   have hes:=(Jk (128+(i:Int)) (sub b.items[i].of x)).2;have e2:=QdM hbx (elS (128+(i:Int)) (sub b.items[i].of x)) (by omega) base hB
   obtain⟨o,h4,h5⟩:=hK (((HH++ [Qp.arr 0 4 [x.enc]]:Avm.H).set B (.buf 5 (t++elS (128+(i:Int)) (sub b.items[i].of x)))).set (B+1) (QmM B (t++elS (128+(i:Int)) (sub b.items[i].of x))),.ptr (B+1) 0 2 0 0,t++elS (128+(i:Int)) (sub b.items[i].of x)) ⟨hbx.wrote _,by dsimp only; rw[ht,QbC,hll,if_neg q12,hI2,Nat.zero_add,hit,ByteArray.append_assoc],by dsimp only; rw[ByteArray.size_append,Nat.mul_succ]; omega,
    by dsimp only; rw[List.getElem?_set_ne (by omega),List.getElem?_set_ne (by omega)]; exact g4 _,by dsimp only; rw[List.getElem?_set_ne (by omega),List.getElem?_set_ne (by omega)]; exact g5 _⟩
   refine⟨o,?_,h5⟩
   dsimp only at h4;generalize elS (128+(i:Int)) (sub b.items[i].of x)=u at*;generalize sub b.items[i].of x=y at*;unfold YB at*;simp only[Md.enc]at*;simp at hw h4 e1 e2 e0 g4 g5;simp[QfU,hi,hx,hib,hb1,hb2,g4,g5,q12,e1,e0,e2,hw,hw2,h4]
 ·intro c K hI;obtain⟨HH,q,t⟩:=c;obtain⟨hI1,hI2,hI3,hI4,hI5⟩:=hI;dsimp only at hI1 hI2;refine⟨_,?_,HH,q,by rw[List.take_length]at hI2; rw[←hI2]; exact hI1,rfl⟩
  simp[QfU]
end Go.Proofs.YtflbneepngjglaaGreatDoor
