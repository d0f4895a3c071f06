/- The contents of a record, the program: the loop. -/
import Derived.Test.YtflbneepngjglaaGreatDoorO49
import Derived.Test.YtflbneepngjglaaGreatDoorO31
import Derived.Test.YtflbneepngjglaaGreatDoorO37
set_option linter.all false
namespace Go.Proofs.YtflbneepngjglaaGreatDoor
open Go Go.Avm
def Qbh (m:Md)(t:Ty)(v:Val):Int:=if QeX m t=0 then QD (Wd v&&Xn m v.size t v) 1 else QeX m t
theorem Qwd (m:Md)(hm:m.ok)(t:Ty)(hs:t.size<=67108864)(v:Val)(hv:v.size<=67108864)(ws:Nat)(h:Avm.H):Qb cfg ws 38 [m.enc,t.enc,v.enc] h=some (.int .i64 (Qbh m t v),h):=by
 have hw:t.wid<=67108864:=Nat.le_trans t.XF hs;have e1:=fun ws h=>Qtd m hm t hs ws h
 have e2:=fun ws h=>Qrf v hv ws h
 unfold Qbh;refine Qc rfl rfl ?_
 by_cases q:QeX m t=0
 ·obtain⟨q1,q2⟩:=Qcq q;have e3:=fun ws h=>QgE m hm (Qge (Jz q1).2) v.size v (Nat.le_refl _) hv t hw (Qaf q2).2 ws h
  have e4:=fun b ws h=>ZW b 1 ws h
  rw[q]at e1 ⊢;simp[Md.enc]at e1 e2 e3;simp[F38,c38,Md.enc,e1,e2,e3,e4]
 ·simp[Md.enc]at e1;simp[F38,c38,Md.enc,e1,q]
theorem QrY (m:Md)(hm:m.ok)(t:Ty)(hs:t.size<=67108864)(v:Val)(hv:v.size<=67108864)(ws:Nat)(h:Avm.H):Qb cfg ws 41 [m.enc,t.enc,v.enc] h=some (.int .i64 (Qbh m t v),h):=by
 have hw:t.wid<=67108864:=Nat.le_trans t.XF hs;have e1:=fun ws h=>Qpo m hm t hs ws h
 unfold Qbh;refine Qc rfl rfl ?_
 by_cases q:QeX m t=0
 ·obtain⟨q1,q2⟩:=Qcq q;have e3:=fun ws h=>QpL m hm (QeT (Jz q1).1) (Qge (Jz q1).2) t hw (JT (Qaf q2).1) (Qaf q2).2 v hv ws h
  rw[q]at e1 ⊢;generalize (Wd v&&Xn m v.size t v)=B at*;simp[Md.enc]at e1 e3;cases B
  ·simp[F41,c41,Md.enc,e1,e3,QD]
  ·simp[F41,c41,Md.enc,e1,e3,QD]
 ·simp[Md.enc]at e1;simp[F41,c41,Md.enc,e1,q]
theorem Qas {m:Md}{t:Ty}{v:Val}(h:Qbh m t v=0):QeX m t=0/\Wd v=true/\Xn m v.size t v=true:=by
 unfold Qbh at h;by_cases q:QeX m t=0
 ·rw[if_pos q]at h;refine⟨q,?_⟩
  cases q2:(Wd v&&Xn m v.size t v)
  ·rw[q2]at h; simp[QD]at h
  ·simpa using q2
 ·rw[if_neg q]at h; exact absurd h q
def zeroV :Val:=.mk 0 0 ⟨#[]⟩ []
def Qkh (v:Val):Nat:=67108863*(67108864+2)+v.size
def XL (m:Md)(t:Ty)(v:Val):Val:=(Xd m (Qkh v) [] t v).getD zeroV
theorem Qcg {m:Md}{S:List (Ty×Val)}(M:m.Zz S)(hS:S.length<=67108863)(hSs: ∀q∈S,q.2.size<=67108864){t:Ty}(T:t.Zz m S)(v:Val):Xd m (Qkh v) [] t v=some (XL m t v):=by
 obtain⟨r,hr⟩:=Qbv M hSs (Qkh v) [] t v T (by
  have h1:rest S []<=S.length:=List.length_filter_le _ _;unfold Qkh;exact Nat.add_le_add_right (Nat.mul_le_mul_right _ (Nat.le_trans h1 hS)) _)
 unfold XL;rw[hr]; rfl
def YW (m:Md)(t:Ty)(v:Val):Val×Int:=if Qbh m t v=0 then(XL m t v,0)else(zeroV,Qbh m t v)
theorem WC : ∀(n:Nat) (v:Val),v.size<=n->v.nodes<=v.size
 | 0,v,h=>by have:=v.size_pos; omega
 | n+1,v,h=>by
  rw[v.QC,v.size_eq]
  have: ∀l:List Val,(∀x∈l,x.nodes<=x.size)->(l.map Val.nodes).sum<=Val.QM l:=by
   intro l
   induction l with
   | nil=>intro _; simp[Val.QM]
   | cons x l ih=>
    intro hl;have h1:=hl x (by simp)
    have h2:=ih fun y hy=>hl y (by simp[hy])
    simp only[List.map_cons,List.sum_cons,Val.QM];omega
  have:=this v.items fun x hx=>WC n x (by have:=Val.Qu hx; omega)
  omega
theorem Qsc (m:Md)(hm:m.ok)(t:Ty)(hs:t.size<=67108864)(v:Val)(hv:v.size<=67108864)(ws:Nat)(h:Avm.H):Qb cfg ws 11 [m.enc,t.enc,v.enc] h=some (.tup [(YW m t v).1.enc,.int .i64 (YW m t v).2],h):=by
 have e1:=fun ws h=>Qwd m hm t hs v hv ws h
 unfold YW;refine Qc rfl rfl ?_
 by_cases q:Qbh m t v=0
 ·obtain⟨q1,q2,q3⟩:=Qas q;obtain⟨M,T,hS,hSs⟩:=QgF hm hs q1;have hpl:=Qcg M hS hSs T v;have hr:rest (Qmz m t) []<=(Qmz m t).length:=List.length_filter_le _ _;have e2:=fun ws h'=>QhC M hS hSs (Qkh v) [] t v (XL m t v) hpl T ⟨_,q3⟩ hv (by simp) (by simpa using hr) (.ptr (h.length+4) 0 3 0 0) (h++([.arr 0 2 [m.enc],.arr 0 8 [t.enc],.arr 0 4 [v.enc],.arr 0 4 [.agg [.int .i64 0,.int .i64 0,.str ⟨#[]⟩,.isl []]],.arr 0 3 [.agg [.str m.name,.isl (m.defs.map Df.enc),.isl []]]]++h')) ⟨h.length+4,.isl [],rfl,by simp,by simp,.inl rfl⟩ ws
  have e2:=fun ws=>e2 ws []
  have hsz:=Jw hpl;have e3:=fun ws h=>Qid _ (XL m t v) (Nat.le_refl _) (by have:=WC _ (XL m t v) (Nat.le_refl _); omega) ws h
  rw[q]at e1 ⊢;generalize XL m t v=r at*;simp at e2 e3;simp only[Md.enc]at e1 e2;simp at e1;simp[F11,c11,Md.enc,e1,e2,e3]
 ·simp only[Md.enc]at e1;simp at e1;simp[F11,c11,Md.enc,e1,q,zeroV]
theorem Qjy (m:Md)(hm:m.ok)(t:Ty)(hs:t.size<=67108864)(v:Val)(hv:v.size<=67108864)(ws:Nat)(h:Avm.H):Qb cfg ws 12 [m.enc,t.enc,v.enc] h=some (.tup [(YW m t v).1.enc,.int .i64 (YW m t v).2],h):=by
 have e1:=fun ws h=>QrY m hm t hs v hv ws h
 unfold YW;refine Qc rfl rfl ?_
 by_cases q:Qbh m t v=0
 ·obtain⟨q1,q2,q3⟩:=Qas q;obtain⟨M,T,hS,hSs⟩:=QgF hm hs q1;have hpl:=Qcg M hS hSs T v;have e2:=fun ws h=>QrE M hS hSs (Qkh v) t v (XL m t v) hpl T ⟨_,q3⟩ hv ws h
  rw[q]at e1 ⊢;generalize XL m t v=r at*;simp only[Md.enc]at e1 e2;simp at e1 e2;simp[F12,c12,Md.enc,e1,e2]
 ·simp only[Md.enc]at e1;simp at e1;simp[F12,c12,Md.enc,e1,q,zeroV]
theorem QhD {m:Md}(hm:m.ok){t:Ty}(hs:t.size<=67108864){v:Val}(hv:v.size<=67108864):(YW m t v).1.nodes<=67108864:=by
 unfold YW;split
 ·rename_i q;obtain⟨q1,q2,q3⟩:=Qas q;obtain⟨M,T,hS,hSs⟩:=QgF hm hs q1;have:=Jw (Qcg M hS hSs T v);have:=WC _ (XL m t v) (Nat.le_refl _);dsimp only;omega
 ·have:zeroV.nodes=1:=by rw[zeroV,Val.QC]; rfl
  dsimp only;omega
theorem QrN (v:Val):v.same v=true:=(Val.Jh v v).2 rfl
end Go.Proofs.YtflbneepngjglaaGreatDoor
namespace Go.Proofs.YtflbneepngjglaaGreatDoor
open Go Go.Avm
def XY :List ByteArray->ByteArray
 | []=>⟨#[]⟩
 | x::r=>x++XY r
def Qts (l:List Val):ByteArray:=Jg (40*(l.headD QaY).int+(l.tail.headD QaY).int).toNat++XY ((l.drop 2).map fun x=>Jg x.int.toNat)
def ZE (b:Ty)(sub:Ty->Val->ByteArray):Nat->List Val->ByteArray
 | _,[]=>⟨#[]⟩
 | i,x::r=>(if x.kind=12 then⟨#[]⟩else elS (128+i) (sub (b.items[i]?.getD It.zero).of x))++ZE b sub (i+1) r
def ZG (b:Ty)(v:Val)(sub:Ty->Val->ByteArray):ByteArray:=
 if b.kind=1 then QcU (255*v.int)
 else if b.kind=2\/b.kind=3 then Qnh v.int
 else if b.kind=4\/b.kind=11 then v.bytes
 else if b.kind=5 then QcU (QeN v.bytes.size)++Jb v.bytes
 else if b.kind=6 then Qts v.items
 else if b.kind=7 then XY (v.items.map (sub (b.kids.headD Ty.zero)))
 else if b.kind=8 then ZE b sub 0 v.items
 else if b.kind=9 then sub ((b.items[v.int.toNat]?.map It.of).getD Ty.zero) (v.items.headD QaY)
 else⟨#[]⟩
def Zr (m:Md):Nat->Ty->Val->ByteArray
 | 0,_,_=>⟨#[]⟩
 | n+1,t,v=>elS (QkV ((beh m 21 t).getD Ty.zero).kind+if((beh m 21 t).getD Ty.zero).kind=9 then v.int else 0) (ZG ((beh m 21 t).getD Ty.zero) v (Zr m n))
theorem Qct : ∀{l:List ByteArray} {f:Nat},(∀x∈l,x.size<=f)->(XY l).size<=l.length*f
 | [],f,_=>by show 0<=_; exact Nat.zero_le _
 | x::l,f,h=>by
  have h1:=h x (by simp)
  have h2:=Qct (l:=l) (f:=f) fun y hy=>h y (by simp[hy])
  rw[XY,ByteArray.size_append,List.length_cons,Nat.succ_mul];omega
theorem WV (n:Nat)(h:n<4611686018427387904):(Jg n).size<=10:=by
 unfold Jg;rw[Qbp];exact Qhk n h
theorem Qsn (n:Int)(h0: -1000000000000000<=n)(h1:n<=1000000000000000):(Qnh n).size<=8:=by
 unfold Qnh;rw[Qbp,List.length_map,List.length_reverse];exact Qnj n h0 h1
end Go.Proofs.YtflbneepngjglaaGreatDoor
namespace Go.Proofs.YtflbneepngjglaaGreatDoor
open Go Go.Avm
theorem Qjf (m:Md)(b:Ty)(v:Val)(hk:b.kind=1)(hv:v.int=0\/v.int=1)(sub:Ty->Val->ByteArray)(ws:Nat)(h:Avm.H):Qb cfg ws 101 [m.enc,b.enc,v.enc] h=some (.str (ZG b v sub),h):=by
 have w:IntKind.wrap .i64 (255*v.int)=255*v.int:=QU (by omega) (by omega)
 have w2:=Qbj (255*v.int);unfold ZG;rw[if_pos hk];unfold QcU;refine Qc rfl rfl ?_
 simp[Qjm,Qjh,Md.enc,hk,w,w2,QS,Js]
theorem QlR (m:Md)(b:Ty)(v:Val)(hk:b.kind=2\/b.kind=3)(h0: -1000000000000000<=v.int)(h1:v.int<=1000000000000000)(sub:Ty->Val->ByteArray)(ws:Nat)(h:Avm.H):Qb cfg ws 101 [m.enc,b.enc,v.enc] h=some (.str (ZG b v sub),h):=by
 have e1:=fun ws h=>Qsm v.int h0 h1 ws h
 unfold ZG;rw[if_neg (by omega),if_pos hk]
 refine Qc rfl rfl ?_
 rcases hk with hk | hk<;>simp[Qjm,Qjh,Md.enc,hk,e1]
theorem Qie (m:Md)(b:Ty)(v:Val)(hk:b.kind=4\/b.kind=11)(sub:Ty->Val->ByteArray)(ws:Nat)(h:Avm.H):Qb cfg ws 101 [m.enc,b.enc,v.enc] h=some (.str (ZG b v sub),h):=by
 unfold ZG;rw[if_neg (by omega),if_neg (by omega),if_pos hk]
 refine Qc rfl rfl ?_
 rcases hk with hk | hk<;>simp[Qjm,Qjh,Md.enc,hk]
theorem Qjg (m:Md)(b:Ty)(v:Val)(hk:b.kind=5)(hs:v.bytes.size<=32000)(h01:v.bytes.data.toList.all d01=true)(sub:Ty->Val->ByteArray)(ws:Nat)(h:Avm.H):Qb cfg ws 101 [m.enc,b.enc,v.enc] h=some (.str (ZG b v sub),h):=by
 have e1:=fun ws h=>QvZ v.bytes hs h01 ws h
 have hps:(Jb v.bytes).size=(v.bytes.size+7)/8:=by
  unfold Jb;rw[Qbp,List.length_map,Qch,show v.bytes.data.toList.length=v.bytes.size from Array.length_toList]
 have hpad:8*((Jb v.bytes).size:Int)-(v.bytes.size:Int)=(QeN v.bytes.size:Nat):=by rw[hps]; unfold QeN; omega
 have w1:IntKind.wrap .i64 (8*((Jb v.bytes).size:Int))=8*((Jb v.bytes).size:Int):=QU (by omega) (by omega)
 have w2:IntKind.wrap .i64 (8*((Jb v.bytes).size:Int)-(v.bytes.size:Int))=(QeN v.bytes.size:Nat):=by rw[hpad]; exact Qd (by unfold QeN; omega)
 have w3:=Qbj (QeN v.bytes.size:Nat);have hsz:(QcU (QeN v.bytes.size:Nat)).size+(Jb v.bytes).size<=9223372036854775807:=by rw[WR,hps]; omega
 unfold ZG;rw[if_neg (by omega),if_neg (by omega),if_neg (by omega),if_pos hk]
 unfold QcU at*;generalize Jb v.bytes=p at*;generalize QeN v.bytes.size=q at*;refine Qc rfl rfl ?_
 try simp at w3
 try simp at hsz
 simp[Qjm,Qjh,Md.enc,hk,e1,w1,w2,w3,QS,Js,hsz]
theorem QgO (m:Md)(b:Ty)(v:Val)(h:Avm.H):Bld (h++ [.arr 0 2 [m.enc],.arr 0 8 [b.enc],.arr 0 4 [v.enc],.buf 5 ⟨#[]⟩,.arr 0 2 [.agg [.nilp,.nbuf (h.length+3)]],.tyd (h.length+4) 0 111 2]) (h.length+3) .nilp ⟨#[]⟩:=by
 refine⟨by simp,?_,?_,.inl rfl⟩
 ·show(h++ [.arr 0 2 [m.enc],.arr 0 8 [b.enc],.arr 0 4 [v.enc],.buf 5 ⟨#[]⟩,.arr 0 2 [.agg [.nilp,.nbuf (h.length+3)]],.tyd (h.length+4) 0 111 2]:Avm.H)[h.length+4]? =some (.arr 0 2 [.agg [.nilp,.nbuf (h.length+3)]]);simp
 ·show(h++ [.arr 0 2 [m.enc],.arr 0 8 [b.enc],.arr 0 4 [v.enc],.buf 5 ⟨#[]⟩,.arr 0 2 [.agg [.nilp,.nbuf (h.length+3)]],.tyd (h.length+4) 0 111 2]:Avm.H)[h.length+5]? =some (.tyd (h.length+4) 0 111 2);simp
theorem Qjd (m:Md)(b:Ty)(v:Val)(hk:b.kind=0)(sub:Ty->Val->ByteArray)(ws:Nat)(h:Avm.H):Qb cfg ws 101 [m.enc,b.enc,v.enc] h=some (.str (ZG b v sub),h):=by
 have hB:=QgO m b v h;obtain⟨H',e1⟩:=QaV hB (by show 0<=_; omega) h.length (by omega)
 unfold ZG;rw[if_neg (by omega),if_neg (by omega),if_neg (by omega),if_neg (by omega),if_neg (by omega),if_neg (by omega),if_neg (by omega),if_neg (by omega)]
 unfold Yr at e1;refine Qc rfl rfl ?_
 simp[Md.enc,hk]at e1;simp[Qjm,Qjh,Md.enc,hk,e1]
end Go.Proofs.YtflbneepngjglaaGreatDoor
namespace Go.Proofs.YtflbneepngjglaaGreatDoor
open Go Go.Avm
theorem Bld.app{H:Avm.H}{B:Nat}{q:AV}{s:ByteArray}(h:Bld H B q s)(X:Avm.H):Bld (H++X) B q s:=by
 obtain⟨h0,h1,h2,h3⟩:=h;refine⟨?_,?_,?_,h3⟩
 ·rw[List.getElem?_append_left (List.getElem?_eq_some_iff.1 h0).1]; exact h0
 ·rw[List.getElem?_append_left (List.getElem?_eq_some_iff.1 h1).1]; exact h1
 ·rw[List.getElem?_append_left (List.getElem?_eq_some_iff.1 h2).1]; exact h2
theorem Qii (x:ByteArray): ∀l:List ByteArray,XY (l++ [x])=XY l++x
 | []=>by show x++ByteArray.empty=ByteArray.empty++x; simp
 | y::l=>by rw[List.cons_append,XY,XY,Qii x l,ByteArray.append_assoc]
theorem QyR (base B:Nat)(hB:base<=B)(l:List Val)(hl:l.length<=600)(hr: ∀x∈l,0<=x.int/\x.int<=1000000000)(H:Avm.H)(q:AV)(s:ByteArray)(hs:s.size<=100)(hb:Bld H B q s):
    ∃H' q',Bld H' B q' (s++XY (l.map fun x=>Jg x.int.toNat))/\Qa (evC (Qb cfg) Qa cfg.pol base base QiA) [7,81,82,83] [(7,Yr B),(81,.isl (l.map Val.enc)),(82,.int .i64 l.length),(83,.int .i64 (0:Nat))] H=
     some (.exit 1,[(7,Yr B),(81,.isl (l.map Val.enc)),(82,.int .i64 l.length),(83,.int .i64 l.length)],H'):=by
 have hlp:=Qg (γ:=Avm.H×AV×ByteArray) (f:=evC (Qb cfg) Qa cfg.pol base base QiA) (keep:=[7,81,82,83]) l
  (fun i c=>Bld c.1 B c.2.1 c.2.2/\c.2.2=s++XY ((l.take i).map fun x=>Jg x.int.toNat)/\c.2.2.size<=100+10*i)
  (fun i _=>[(7,Yr B),(81,.isl (l.map Val.enc)),(82,.int .i64 l.length),(83,.int .i64 i)]) (fun _ c=>c.1)
  (fun _ _ o=>∃H' q',Bld H' B q' (s++XY (l.map fun x=>Jg x.int.toNat))/\o=(.exit 1,[(7,Yr B),(81,.isl (l.map Val.enc)),(82,.int .i64 l.length),(83,.int .i64 l.length)],H')) ?_ ?_ (H,q,s) ⟨hb,by show s=s++ByteArray.empty; simp,by dsimp only; omega⟩
 ·obtain⟨o,h1,H',q',h2,rfl⟩:=hlp;exact⟨H',q',h2,h1⟩
 ·intro i x r c hd hi hx hI K hK;obtain⟨HH,q,t⟩:=c;obtain⟨hI1,hI2,hI3⟩:=hI;dsimp only at hI1 hI2 hI3;have hm1:x∈l:=by rw[←hx]; exact List.getElem_mem hi
  obtain⟨x0,x1⟩:=hr x hm1;have hxn:((x.int.toNat:Nat):Int)=x.int:=by omega
  have e1:=fun ws h=>Qhj x.int.toNat (by omega) ws h
  rw[hxn]at e1;have hss:=WV x.int.toNat (by omega)
  have hbx:=hI1.app [Qq.arr 0 4 [x.enc]];have e2:=fun ws hw=>QdF hbx (Jg x.int.toNat) (by omega) ws hw
  have e2:=e2 base hB;have hw:=Qd (n:=i+1) (by omega)
  have ht:l.take (i+1)=l.take i++ [x]:=by rw[List.take_succ_eq_append_getElem hi,hx]
  obtain⟨o,h4,h5⟩:=hK (((HH++ [Qq.arr 0 4 [x.enc]]:Avm.H).set B (.buf 5 (t++Jg x.int.toNat))).set (B+1) (Qmk B (t++Jg x.int.toNat)),.ptr (B+1) 0 2 0 0,t++Jg x.int.toNat) ⟨hbx.wrote _,by dsimp only; rw[ht,hI2,List.map_append,List.map_cons,List.map_nil,Qii,ByteArray.append_assoc],by dsimp only; rw[ByteArray.size_append]; omega⟩
  refine⟨o,?_,h5⟩
  dsimp only at h4;have hBl:=(List.getElem?_eq_some_iff.1 hI1.buf).1
  have hb1:base<=HH.length:=by omega
  have hb2: ¬HH.length<base:=by omega
  generalize Jg x.int.toNat=u at*;unfold Yr at*;simp at hw h4 e2;simp[QiA,hi,hx,hb1,hb2,e1,e2,hw,h4]
 ·intro c K hI;obtain⟨HH,q,t⟩:=c;obtain⟨hI1,hI2,hI3⟩:=hI;dsimp only at hI1 hI2;refine⟨_,?_,HH,q,by rw[List.take_length]at hI2; rw[←hI2]; exact hI1,rfl⟩
  simp[QiA]
end Go.Proofs.YtflbneepngjglaaGreatDoor
namespace Go.Proofs.YtflbneepngjglaaGreatDoor
open Go Go.Avm
theorem QlQ (m:Md)(b:Ty)(v:Val)(hk:b.kind=6)(h2:2<=v.items.length)(hl:v.items.length<=10)(hr: ∀x∈v.items,0<=x.int/\x.int<=1000000000)(hr0:(v.items.headD QaY).int<=2)(sub:Ty->Val->ByteArray)(ws:Nat)(h:Avm.H):Qb cfg ws 101 [m.enc,b.enc,v.enc] h=some (.str (ZG b v sub),h):=by
 obtain⟨x,y,l,hv⟩: ∃x y l,v.items=x::y::l:=by
  match hq:v.items with
  | []=>rw[hq]at h2; simp at h2
  | [a]=>rw[hq]at h2; simp at h2
  | a::c::l=>exact⟨a,c,l,rfl⟩
 rw[hv]at hr hr0 hl;have hx:=hr x (by simp)
 have hy:=hr y (by simp)
 have hx2:x.int<=2:=hr0;have hB:=QgO m b v h;have hn:(((40*x.int+y.int).toNat:Nat):Int)=40*x.int+y.int:=by omega
 have e1:=fun ws h=>Qhj (40*x.int+y.int).toNat (by omega) ws h
 rw[hn]at e1;have hss:=WV (40*x.int+y.int).toNat (by omega)
 have e2:=QdF hB (Jg (40*x.int+y.int).toNat) (by show 0+_<=_; omega) h.length (by omega)
 have hB2:=hB.wrote (Jg (40*x.int+y.int).toNat);have he:(⟨#[]⟩:ByteArray)++Jg (40*x.int+y.int).toNat=Jg (40*x.int+y.int).toNat:=by show ByteArray.empty++_=_; simp
 rw[he]at e2 hB2;obtain⟨H',q',hB3,e3⟩:=QyR h.length (h.length+3) (by omega) l (by simp at hl; omega) (fun z hz=>hr z (by simp[hz])) _ _ _ (by omega) hB2
 have hsz3:(Jg (40*x.int+y.int).toNat++XY (l.map fun x=>Jg x.int.toNat)).size<=4294967296:=by
  have:=Qct (l:=l.map fun x=>Jg x.int.toNat) (f:=10) (fun z hz=>by
   obtain⟨w,hw,rfl⟩:=List.mem_map.1 hz;have:=hr w (by simp[hw])
   exact WV _ (by omega))
  simp at this hl;rw[ByteArray.size_append];omega
 obtain⟨H2,e4⟩:=QaV hB3 hsz3 h.length (by omega)
 have hen:ZG b v sub=Jg (40*x.int+y.int).toNat++XY (l.map fun x=>Jg x.int.toNat):=by
  unfold ZG Qts;rw[if_neg (by omega),if_neg (by omega),if_neg (by omega),if_neg (by omega),if_pos hk,hv]
  rfl
 rw[hen];clear hen hB hB2 hB3 hss hsz3 he hr hr0;generalize Jg (40*x.int+y.int).toNat=u at*;generalize XY (l.map fun x=>Jg x.int.toNat)=c at*
 have w1:IntKind.wrap .i64 (40*x.int)=40*x.int:=QU (by omega) (by omega)
 have w2:IntKind.wrap .i64 (40*x.int+y.int)=40*x.int+y.int:=QU (by omega) (by omega)
 unfold Yr Qmk at*;refine Qc rfl rfl ?_
 simp[Md.enc,hk,hv,Nat.add_assoc]at e2 e3 e4;simp[Qjm,Qjh,Md.enc,hk,hv,w1,w2,e1,e2,e3,e4,Nat.add_assoc,QdL,QkW]
end Go.Proofs.YtflbneepngjglaaGreatDoor
namespace Go.Proofs.YtflbneepngjglaaGreatDoor
open Go Go.Avm
theorem Qxn (m:Md)(b:Ty)(k0:Ty)(kr:List Ty)(hkk:b.kids=k0::kr)(base B bm bt:Nat)(hB:base<=B)(hbm:bm<B)(hbt:bt<B)(l:List Val)(hl:l.length<=600)(f:Val->ByteArray)(F:Nat)(hF:F<=3000000)(hf: ∀x∈l,(f x).size<=F)
    (hel: ∀x∈l,∀ws h,Qb cfg ws 55 [m.enc,k0.enc,x.enc] h=some (.str (f x),h)) (H:Avm.H) (h1:H[bm]? =some (.arr 0 2 [m.enc])) (h2:H[bt]? =some (.arr 0 8 [b.enc])) (q:AV) (s:ByteArray) (hs:s.size=0) (hb:Bld H B q s):
    ∃H' q',Bld H' B q' (s++XY (l.map f))/\Qa (evC (Qb cfg) Qa cfg.pol base base Qiz) [3,4,7,95,96,97] [(3,.ptr bm 0 2 0 0),(4,.ptr bt 0 8 0 0),(7,Yr B),(95,.isl (l.map Val.enc)),(96,.int .i64 l.length),(97,.int .i64 (0:Nat))] H=
     some (.exit 3,[(3,.ptr bm 0 2 0 0),(4,.ptr bt 0 8 0 0),(7,Yr B),(95,.isl (l.map Val.enc)),(96,.int .i64 l.length),(97,.int .i64 l.length)],H'):=by
 have hlp:=Qg (γ:=Avm.H×AV×ByteArray) (f:=evC (Qb cfg) Qa cfg.pol base base Qiz) (keep:=[3,4,7,95,96,97]) l
  (fun i c=>Bld c.1 B c.2.1 c.2.2/\c.2.2=s++XY ((l.take i).map f)/\c.2.2.size<=F*i/\c.1[bm]? =some (.arr 0 2 [m.enc])/\c.1[bt]? =some (.arr 0 8 [b.enc]))
  (fun i _=>[(3,.ptr bm 0 2 0 0),(4,.ptr bt 0 8 0 0),(7,Yr B),(95,.isl (l.map Val.enc)),(96,.int .i64 l.length),(97,.int .i64 i)]) (fun _ c=>c.1)
  (fun _ _ o=>∃H' q',Bld H' B q' (s++XY (l.map f))/\o=(.exit 3,[(3,.ptr bm 0 2 0 0),(4,.ptr bt 0 8 0 0),(7,Yr B),(95,.isl (l.map Val.enc)),(96,.int .i64 l.length),(97,.int .i64 l.length)],H')) ?_ ?_ (H,q,s) ⟨hb,by show s=s++ByteArray.empty; simp,by dsimp only; omega,h1,h2⟩
 ·obtain⟨o,h1,H',q',h2,rfl⟩:=hlp;exact⟨H',q',h2,h1⟩
 ·intro i x r c hd hi hx hI K hK;obtain⟨HH,q,t⟩:=c;obtain⟨hI1,hI2,hI3,hI4,hI5⟩:=hI;dsimp only at hI1 hI2 hI3 hI4 hI5;have hm1:x∈l:=by rw[←hx]; exact List.getElem_mem hi
  have e1:=fun ws h=>hel x hm1 ws h
  have hss:=hf x hm1;have hFi:F*i<=3000000*600:=Nat.mul_le_mul hF (by omega)
  have hbx:=hI1.app [Qq.arr 0 4 [x.enc]];have e2:=QdF hbx (f x) (by omega) base hB
  have hw:=Qd (n:=i+1) (by omega)
  have ht:l.take (i+1)=l.take i++ [x]:=by rw[List.take_succ_eq_append_getElem hi,hx]
  have hBl:=(List.getElem?_eq_some_iff.1 hI1.buf).1
  have g4: ∀X,(HH++X)[bm]? =some (.arr 0 2 [m.enc]):=fun X=>by rw[List.getElem?_append_left (by omega)]; exact hI4
  have g5: ∀X,(HH++X)[bt]? =some (.arr 0 8 [b.enc]):=fun X=>by rw[List.getElem?_append_left (by omega)]; exact hI5
  obtain⟨o,h4,h5⟩:=hK (((HH++ [Qq.arr 0 4 [x.enc]]:Avm.H).set B (.buf 5 (t++f x))).set (B+1) (Qmk B (t++f x)),.ptr (B+1) 0 2 0 0,t++f x) ⟨hbx.wrote _,by dsimp only; rw[ht,hI2,List.map_append,List.map_cons,List.map_nil,Qii,ByteArray.append_assoc],by dsimp only; rw[ByteArray.size_append,Nat.mul_succ]; omega,
   by dsimp only; rw[List.getElem?_set_ne (by omega),List.getElem?_set_ne (by omega)]; exact g4 _,by dsimp only; rw[List.getElem?_set_ne (by omega),List.getElem?_set_ne (by omega)]; exact g5 _⟩
  refine⟨o,?_,h5⟩
  dsimp only at h4;have hb1:base<=HH.length:=by omega
  have hb2: ¬HH.length<base:=by omega
  generalize f x=u at*;unfold Yr at*;simp only[Md.enc]at*;simp[hkk]at hw h4 e1 e2 g4 g5;simp[Qiz,hi,hx,hb1,hb2,g4,g5,e1,e2,hw,h4]
 ·intro c K hI;obtain⟨HH,q,t⟩:=c;obtain⟨hI1,hI2,hI3,hI4,hI5⟩:=hI;dsimp only at hI1 hI2;refine⟨_,?_,HH,q,by rw[List.take_length]at hI2; rw[←hI2]; exact hI1,rfl⟩
  simp[Qiz]
end Go.Proofs.YtflbneepngjglaaGreatDoor
namespace Go.Proofs.YtflbneepngjglaaGreatDoor
open Go Go.Avm
theorem Qhv (b:Ty)(sub:Ty->Val->ByteArray)(x:Val): ∀(l:List Val) (i:Nat),ZE b sub i (l++ [x])=ZE b sub i l++(if x.kind=12 then⟨#[]⟩else elS (128+((i+l.length:Nat):Int)) (sub (b.items[i+l.length]?.getD It.zero).of x))
 | [],i=>by
  show(if x.kind=12 then⟨#[]⟩else _)++ByteArray.empty=ByteArray.empty++_
  simp
 | y::l,i=>by
  rw[List.cons_append,ZE,ZE,Qhv b sub x l (i+1),ByteArray.append_assoc];rw[show i+1+l.length=i+(y::l).length by simp only[List.length_cons]; omega]
theorem QyD (m:Md)(b:Ty)(base B bm bt:Nat)(hB:base<=B)(hbm:bm<B)(hbt:bt<B)(l:List Val)(hl:l.length<=600)(hlb:l.length=b.items.length)(sub:Ty->Val->ByteArray)(F:Nat)(hF:F<=3000000)(hf: ∀(i:Nat) x,l[i]? =some x->x.kind≠12->(sub (b.items[i]?.getD It.zero).of x).size<=F)
    (hel: ∀(i:Nat) x,l[i]? =some x->x.kind≠12-> ∀ws h,Qb cfg ws 55 [m.enc,(b.items[i]?.getD It.zero).of.enc,x.enc] h=some (.str (sub (b.items[i]?.getD It.zero).of x),h)) (H:Avm.H) (h1:H[bm]? =some (.arr 0 2 [m.enc])) (h2:H[bt]? =some (.arr 0 8 [b.enc])) (q:AV) (s:ByteArray) (hs:s.size=0) (hb:Bld H B q s):
    ∃H' q',Bld H' B q' (s++ZE b sub 0 l)/\Qa (evC (Qb cfg) Qa cfg.pol base base QfE) [3,4,7,113,114,115] [(3,.ptr bm 0 2 0 0),(4,.ptr bt 0 8 0 0),(7,Yr B),(113,.isl (l.map Val.enc)),(114,.int .i64 l.length),(115,.int .i64 (0:Nat))] H=
     some (.exit 5,[(3,.ptr bm 0 2 0 0),(4,.ptr bt 0 8 0 0),(7,Yr B),(113,.isl (l.map Val.enc)),(114,.int .i64 l.length),(115,.int .i64 l.length)],H'):=by
 have hlp:=Qg (γ:=Avm.H×AV×ByteArray) (f:=evC (Qb cfg) Qa cfg.pol base base QfE) (keep:=[3,4,7,113,114,115]) l
  (fun i c=>Bld c.1 B c.2.1 c.2.2/\c.2.2=s++ZE b sub 0 (l.take i)/\c.2.2.size<=(F+4)*i/\c.1[bm]? =some (.arr 0 2 [m.enc])/\c.1[bt]? =some (.arr 0 8 [b.enc]))
  (fun i _=>[(3,.ptr bm 0 2 0 0),(4,.ptr bt 0 8 0 0),(7,Yr B),(113,.isl (l.map Val.enc)),(114,.int .i64 l.length),(115,.int .i64 i)]) (fun _ c=>c.1)
  (fun _ _ o=>∃H' q',Bld H' B q' (s++ZE b sub 0 l)/\o=(.exit 5,[(3,.ptr bm 0 2 0 0),(4,.ptr bt 0 8 0 0),(7,Yr B),(113,.isl (l.map Val.enc)),(114,.int .i64 l.length),(115,.int .i64 l.length)],H')) ?_ ?_ (H,q,s) ⟨hb,by show s=s++ByteArray.empty; simp,by dsimp only; omega,h1,h2⟩
 ·obtain⟨o,h1,H',q',h2,rfl⟩:=hlp;exact⟨H',q',h2,h1⟩
 ·intro i x r c hd hi hx hI K hK;obtain⟨HH,q,t⟩:=c;obtain⟨hI1,hI2,hI3,hI4,hI5⟩:=hI;dsimp only at hI1 hI2 hI3 hI4 hI5;have hm1:x∈l:=by rw[←hx]; exact List.getElem_mem hi
  have hgi:l[i]? =some x:=by rw[List.getElem?_eq_getElem hi,hx]
  have hib:i<b.items.length:=by omega
  have hit:b.items[i]?.getD It.zero=b.items[i]:=by rw[List.getElem?_eq_getElem hib]; rfl
  have hFi:(F+4)*i<=3000004*600:=Nat.mul_le_mul (by omega) (by omega)
  have hbx:=hI1.app [Qq.arr 0 4 [x.enc]];have hw:=Qd (n:=i+1) (by omega)
  have hw2:IntKind.wrap .i64 (128+(i:Int))=128+(i:Int):=QU (by omega) (by omega)
  have ht:l.take (i+1)=l.take i++ [x]:=by rw[List.take_succ_eq_append_getElem hi,hx]
  have hll:(l.take i).length=i:=by simp; omega
  have hBl:=(List.getElem?_eq_some_iff.1 hI1.buf).1
  have g4: ∀X,(HH++X)[bm]? =some (.arr 0 2 [m.enc]):=fun X=>by rw[List.getElem?_append_left (by omega)]; exact hI4
  have g5: ∀X,(HH++X)[bt]? =some (.arr 0 8 [b.enc]):=fun X=>by rw[List.getElem?_append_left (by omega)]; exact hI5
  have hb1:base<=HH.length:=by omega
  have hb2: ¬HH.length<base:=by omega
  by_cases q12:x.kind=12
  ·obtain⟨o,h4,h5⟩:=hK (HH++ [Qq.arr 0 4 [x.enc]],q,t) ⟨hbx,by dsimp only; rw[ht,Qhv,hll,if_pos q12,hI2]; show _=s++(ZE b sub 0 (l.take i)++ByteArray.empty); simp,by dsimp only; rw[Nat.mul_succ]; omega,g4 _,g5 _⟩
   refine⟨o,?_,h5⟩
   dsimp only at h4;unfold Yr at*;simp only[Md.enc]at*;simp[q12]at hw h4;simp[QfE,hi,hx,hb1,hb2,g4,g5,q12,hw,h4]
  ·have e1:=fun ws h=>hel i x hgi q12 ws h
   have hss:=hf i x hgi q12;rw[hit]at e1 hss;have e0:=fun ws h=>QhZ (128+(i:Int)) (sub b.items[i].of x) (by omega) ws h
   have hes:=(Jk (128+(i:Int)) (sub b.items[i].of x)).2;have e2:=QdF hbx (elS (128+(i:Int)) (sub b.items[i].of x)) (by omega) base hB
   obtain⟨o,h4,h5⟩:=hK (((HH++ [Qq.arr 0 4 [x.enc]]:Avm.H).set B (.buf 5 (t++elS (128+(i:Int)) (sub b.items[i].of x)))).set (B+1) (Qmk B (t++elS (128+(i:Int)) (sub b.items[i].of x))),.ptr (B+1) 0 2 0 0,t++elS (128+(i:Int)) (sub b.items[i].of x)) ⟨hbx.wrote _,by dsimp only; rw[ht,Qhv,hll,if_neg q12,hI2,Nat.zero_add,hit,ByteArray.append_assoc],by dsimp only; rw[ByteArray.size_append,Nat.mul_succ]; omega,
    by dsimp only; rw[List.getElem?_set_ne (by omega),List.getElem?_set_ne (by omega)]; exact g4 _,by dsimp only; rw[List.getElem?_set_ne (by omega),List.getElem?_set_ne (by omega)]; exact g5 _⟩
   refine⟨o,?_,h5⟩
   dsimp only at h4;generalize elS (128+(i:Int)) (sub b.items[i].of x)=u at*;generalize sub b.items[i].of x=y at*;unfold Yr at*;simp only[Md.enc]at*;simp at hw h4 e1 e2 e0 g4 g5;simp[QfE,hi,hx,hib,hb1,hb2,g4,g5,q12,e1,e0,e2,hw,hw2,h4]
 ·intro c K hI;obtain⟨HH,q,t⟩:=c;obtain⟨hI1,hI2,hI3,hI4,hI5⟩:=hI;dsimp only at hI1 hI2;refine⟨_,?_,HH,q,by rw[List.take_length]at hI2; rw[←hI2]; exact hI1,rfl⟩
  simp[QfE]
end Go.Proofs.YtflbneepngjglaaGreatDoor
