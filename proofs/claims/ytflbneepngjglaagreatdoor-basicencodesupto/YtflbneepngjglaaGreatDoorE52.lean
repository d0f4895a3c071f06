/- Encode: both sides. -/
import Derived.Test.YtflbneepngjglaaGreatDoorE51
set_option linter.all false
namespace Go.Proofs.YtflbneepngjglaaGreatDoor
open Go Go.Avm
def Jt (x c:ByteArray):Prop:=(x.size<=4000->c=x)/\(4000<x.size->4000<c.size)/\c.size<=9000
theorem Yw {x:ByteArray}(h:x.size<=9000):Jt x x:=⟨fun _=>rfl,fun h=>h,h⟩
theorem QrE {a b c d:ByteArray}(h1:Jt a c)(h2:Jt b d)(h3:c.size<=4000)(h4:d.size<=4100):Jt (a++b) (c++d):=by
 obtain⟨p1,p2,p3⟩:=h1;obtain⟨q1,q2,q3⟩:=h2;unfold Jt;rw[ByteArray.size_append,ByteArray.size_append];refine⟨fun h=>by rw[p1 (by omega),q1 (by omega)],fun h=>?_,by omega⟩
 by_cases q:4000<a.size
 ·have:=p2 q; omega
 ·have e:=p1 (by omega)
  subst e;by_cases q':4000<b.size
  ·have:=q2 q'; omega
  ·have e:=q1 (by omega)
   subst e;exact h
theorem QAo {k:Int}{x c:ByteArray}(h:Jt x c):Jt (elS k x) (elS k c)\/9000<(elS k c).size:=by
 obtain⟨h1,h2,h3⟩:=h;have s1:=Jk k x;have s2:=Jk k c;by_cases q:(elS k c).size<=9000
 ·refine .inl ⟨fun h=>by rw[h1 (by omega)],fun h=>?_,q⟩
  by_cases q':4000<x.size
  ·have:=h2 q'; omega
  ·have e:=h1 (by omega)
   subst e;exact h
 ·exact .inr (by omega)
theorem QtK (l:List ByteArray)(i:Nat):(Za (l.take i)).size<=(Za l).size:=by
 induction l generalizing i with
 | nil=>simp
 | cons x l ih=>
  cases i with
  | zero=>exact Nat.zero_le _
  | succ i=>
   have:=ih i;rw[List.take_succ_cons,Za,Za,ByteArray.size_append,ByteArray.size_append];omega
theorem Qsu (b:Ty)(sub:Ty->Val->ByteArray)(l:List Val)(i k:Nat):(JT b sub k (l.take i)).size<=(JT b sub k l).size:=by
 induction l generalizing i k with
 | nil=>simp
 | cons x l ih=>
  cases i with
  | zero=>exact Nat.zero_le _
  | succ i=>
   have:=ih i (k+1);rw[List.take_succ_cons,JT,JT,ByteArray.size_append,ByteArray.size_append];omega
theorem Qoy {a b c:ByteArray}(h:Jt a c)(hab:a.size<=b.size)(hc:4000<c.size):Jt b c:=by
 obtain⟨h1,h2,h3⟩:=h;refine⟨fun q=>?_,fun _=>hc,h3⟩
 have:=h1 (by omega)
 subst this;omega
theorem QzO (m:Md)(b:Ty)(v:Val)(hl:v.items.length<=10)(h2:2<=v.items.length)(hr: ∀x∈v.items,0<=x.int/\x.int<=1000000000)(u:ByteArray)(hu:u.size<=10)(h:Avm.H):
    Qa (evC (Qb cfg) Qa cfg.pol h.length h.length QoM) [5,7,8,11] [(5,.ptr (h.length+2) 0 4 0 0),(7,.str u),(8,.int .i64 6),(11,.int .i64 2)] (h++ [.arr 0 2 [m.enc],.arr 0 8 [b.enc],.arr 0 4 [v.enc]])=
     some (.exit 1,[(5,.ptr (h.length+2) 0 4 0 0),(7,.str (u++Za ((v.items.drop 2).map fun x=>XR x.int.toNat))),(8,.int .i64 6),(11,.int .i64 v.items.length)],h++ [.arr 0 2 [m.enc],.arr 0 8 [b.enc],.arr 0 4 [v.enc]]):=by
 have hlp:=QaR (γ:=Nat×ByteArray) (f:=evC (Qb cfg) Qa cfg.pol h.length h.length QoM) (keep:=[5,7,8,11]) (fun c=>v.items.length-c.1)
  (fun c=>c.1<=v.items.length/\c.2.size<=10+10*c.1/\c.2++Za ((v.items.drop c.1).map fun x=>XR x.int.toNat)=u++Za ((v.items.drop 2).map fun x=>XR x.int.toNat))
  (fun c=>[(5,.ptr (h.length+2) 0 4 0 0),(7,.str c.2),(8,.int .i64 6),(11,.int .i64 c.1)]) (fun _=>h++ [.arr 0 2 [m.enc],.arr 0 8 [b.enc],.arr 0 4 [v.enc]])
  (fun o=>o=(.exit 1,[(5,.ptr (h.length+2) 0 4 0 0),(7,.str (u++Za ((v.items.drop 2).map fun x=>XR x.int.toNat))),(8,.int .i64 6),(11,.int .i64 v.items.length)],h++ [.arr 0 2 [m.enc],.arr 0 8 [b.enc],.arr 0 4 [v.enc]])) ?_ (2,u) ⟨h2,by dsimp only; omega,rfl⟩
 ·obtain⟨o,h1,rfl⟩:=hlp;exact h1
 ·intro c hI K hK;obtain⟨i,s⟩:=c;obtain⟨hI1,hI2,hI3⟩:=hI;dsimp only at hI1 hI2 hI3;by_cases q:i=v.items.length
  ·subst q;refine⟨_,?_,rfl⟩
   rw[List.drop_length]at hI3;have:s=u++Za ((v.items.drop 2).map fun x=>XR x.int.toNat):=by rw[←hI3]; show s=s++ByteArray.empty; simp
   rw[←this];simp[QoM]
  ·have hi:i<v.items.length:=by omega
   have hx:=hr v.items[i] (List.getElem_mem hi);have hxn:((v.items[i].int.toNat:Nat):Int)=v.items[i].int:=by omega
   have e1:=fun ws h=>QwC v.items[i].int.toNat (by omega) ws h
   rw[hxn]at e1;have hss:=ZB v.items[i].int.toNat (by omega)
   have hw:=Qd (n:=i+1) (by omega)
   have hd:v.items.drop i=v.items[i]::v.items.drop (i+1):=List.drop_eq_getElem_cons hi;have hsz:s.size+(XR v.items[i].int.toNat).size<=9223372036854775807:=by omega
   obtain⟨o,h4,h5⟩:=hK (i+1,s++XR v.items[i].int.toNat) ⟨by dsimp only; omega,by dsimp only; rw[ByteArray.size_append]; omega,by dsimp only; rw[ByteArray.append_assoc,←hI3,hd]; rfl⟩ (by dsimp only; omega)
   refine⟨o,?_,h5⟩
   dsimp only at h4;generalize hxx:v.items[i]=x at*;generalize XR x.int.toNat=y at*;simp at hw h4 e1;simp[QoM,hi,hxx,e1,hw,h4,hsz]
theorem QxZ (m:Md)(b:Ty)(v:Val)(k0:Ty)(kr:List Ty)(hkk:b.kids=k0::kr)(hl:v.items.length<=600)(f:Val->ByteArray)
    (hel: ∀x∈v.items,∀ws h,∃R,Jt (f x) R/\R.size<=4100/\Qb cfg ws 58 [m.enc,k0.enc,x.enc] h=some (.str R,h)) (h:Avm.H):
    ∃c i,Jt (Za (v.items.map f)) c/\Qa (evC (Qb cfg) Qa cfg.pol h.length h.length QkZ) [3,4,5,7,8,12] [(3,.ptr h.length 0 2 0 0),(4,.ptr (h.length+1) 0 8 0 0),(5,.ptr (h.length+2) 0 4 0 0),(7,.str ⟨#[]⟩),(8,.int .i64 48),(12,.int .i64 (0:Nat))] (h++ [.arr 0 2 [m.enc],.arr 0 8 [b.enc],.arr 0 4 [v.enc]])=
     some (.exit 3,[(3,.ptr h.length 0 2 0 0),(4,.ptr (h.length+1) 0 8 0 0),(5,.ptr (h.length+2) 0 4 0 0),(7,.str c),(8,.int .i64 48),(12,.int .i64 i)],h++ [.arr 0 2 [m.enc],.arr 0 8 [b.enc],.arr 0 4 [v.enc]]):=by
 have hlp:=Qg (γ:=ByteArray) (f:=evC (Qb cfg) Qa cfg.pol h.length h.length QkZ) (keep:=[3,4,5,7,8,12]) v.items
  (fun i c=>Jt (Za ((v.items.take i).map f)) c)
  (fun i c=>[(3,.ptr h.length 0 2 0 0),(4,.ptr (h.length+1) 0 8 0 0),(5,.ptr (h.length+2) 0 4 0 0),(7,.str c),(8,.int .i64 48),(12,.int .i64 i)]) (fun _ _=>h++ [.arr 0 2 [m.enc],.arr 0 8 [b.enc],.arr 0 4 [v.enc]])
  (fun _ _ o=>∃c i,Jt (Za (v.items.map f)) c/\o=(.exit 3,[(3,.ptr h.length 0 2 0 0),(4,.ptr (h.length+1) 0 8 0 0),(5,.ptr (h.length+2) 0 4 0 0),(7,.str c),(8,.int .i64 48),(12,.int .i64 i)],h++ [.arr 0 2 [m.enc],.arr 0 8 [b.enc],.arr 0 4 [v.enc]])) ?_ ?_ ⟨#[]⟩ (Yw (by show 0<=_; omega))
 ·obtain⟨o,h1,c,i,h2,rfl⟩:=hlp;exact⟨c,i,h2,h1⟩
 ·intro i x r c hd hi hx hI K hK;have hm1:x∈v.items:=by rw[←hx]; exact List.getElem_mem hi
  have hw:=Qd (n:=i+1) (by omega)
  have ht:v.items.take (i+1)=v.items.take i++ [x]:=by rw[List.take_succ_eq_append_getElem hi,hx]
  by_cases q:c.size<=4000
  ·obtain⟨R,r1,r2,e1⟩:=hel x hm1 h.length (h++ [.arr 0 2 [m.enc],.arr 0 8 [b.enc],.arr 0 4 [v.enc]]);obtain⟨o,h4,h5⟩:=hK (c++R) (by rw[ht,List.map_append,List.map_cons,List.map_nil,Qew]; exact QrE hI r1 q r2)
   refine⟨o,?_,h5⟩
   have hsz:c.size+R.size<=9223372036854775807:=by omega
   have q':(c.size:Int)<=4000:=by omega
   simp only[Md.enc]at*;simp[hkk]at hw h4 e1;simp[QkZ,hi,hx,hkk,q',e1,hw,h4,hsz]
  ·have hcat:(Za ((v.items.take i).map f)).size<=(Za (v.items.map f)).size:=by rw[List.map_take]; exact QtK _ _
   refine⟨_,?_,c,i,Qoy hI hcat (by omega),rfl⟩
   have q': ¬(c.size:Int)<=4000:=by omega
   simp[QkZ,hi,hx,q']
 ·intro c K hI;rw[List.take_length]at hI;refine⟨_,?_,c,v.items.length,hI,rfl⟩
  simp[QkZ]
theorem Qzz (m:Md)(b:Ty)(v:Val)(hl:v.items.length<=600)(hlb:v.items.length=b.items.length)(sub:Ty->Val->ByteArray)
    (hel: ∀(i:Nat) x,v.items[i]? =some x->x.kind≠12-> ∀ws h,∃R,Jt (sub (b.items[i]?.getD It.zero).of x) R/\R.size<=4050/\Qb cfg ws 58 [m.enc,(b.items[i]?.getD It.zero).of.enc,x.enc] h=some (.str R,h)) (h:Avm.H):
    ∃c i,Jt (JT b sub 0 v.items) c/\Qa (evC (Qb cfg) Qa cfg.pol h.length h.length QiO) [3,4,5,7,8,13] [(3,.ptr h.length 0 2 0 0),(4,.ptr (h.length+1) 0 8 0 0),(5,.ptr (h.length+2) 0 4 0 0),(7,.str ⟨#[]⟩),(8,.int .i64 49),(13,.int .i64 (0:Nat))] (h++ [.arr 0 2 [m.enc],.arr 0 8 [b.enc],.arr 0 4 [v.enc]])=
     some (.exit 5,[(3,.ptr h.length 0 2 0 0),(4,.ptr (h.length+1) 0 8 0 0),(5,.ptr (h.length+2) 0 4 0 0),(7,.str c),(8,.int .i64 49),(13,.int .i64 i)],h++ [.arr 0 2 [m.enc],.arr 0 8 [b.enc],.arr 0 4 [v.enc]]):=by
 have hlp:=Qg (γ:=ByteArray) (f:=evC (Qb cfg) Qa cfg.pol h.length h.length QiO) (keep:=[3,4,5,7,8,13]) v.items
  (fun i c=>Jt (JT b sub 0 (v.items.take i)) c)
  (fun i c=>[(3,.ptr h.length 0 2 0 0),(4,.ptr (h.length+1) 0 8 0 0),(5,.ptr (h.length+2) 0 4 0 0),(7,.str c),(8,.int .i64 49),(13,.int .i64 i)]) (fun _ _=>h++ [.arr 0 2 [m.enc],.arr 0 8 [b.enc],.arr 0 4 [v.enc]])
  (fun _ _ o=>∃c i,Jt (JT b sub 0 v.items) c/\o=(.exit 5,[(3,.ptr h.length 0 2 0 0),(4,.ptr (h.length+1) 0 8 0 0),(5,.ptr (h.length+2) 0 4 0 0),(7,.str c),(8,.int .i64 49),(13,.int .i64 i)],h++ [.arr 0 2 [m.enc],.arr 0 8 [b.enc],.arr 0 4 [v.enc]])) ?_ ?_ ⟨#[]⟩ (Yw (by show 0<=_; omega))
 ·obtain⟨o,h1,c,i,h2,rfl⟩:=hlp;exact⟨c,i,h2,h1⟩
 ·intro i x r c hd hi hx hI K hK;have hgi:v.items[i]? =some x:=by rw[List.getElem?_eq_getElem hi,hx]
  have hib:i<b.items.length:=by omega
  have hit:b.items[i]?.getD It.zero=b.items[i]:=by rw[List.getElem?_eq_getElem hib]; rfl
  have hw:=Qd (n:=i+1) (by omega)
  have hw2:IntKind.wrap .i64 (128+(i:Int))=128+(i:Int):=Qo (by omega) (by omega)
  have ht:v.items.take (i+1)=v.items.take i++ [x]:=by rw[List.take_succ_eq_append_getElem hi,hx]
  have hll:(v.items.take i).length=i:=by simp; omega
  by_cases q:c.size<=4000
  ·have q':(c.size:Int)<=4000:=by omega
   by_cases q12:x.kind=12
   ·obtain⟨o,h4,h5⟩:=hK c (by rw[ht,QbC,if_pos q12]; show Jt (JT b sub 0 (v.items.take i)++ByteArray.empty) c; simpa using hI)
    refine⟨o,?_,h5⟩
    simp only[Md.enc]at*;simp at hw h4;simp[QiO,hi,hx,q',q12,hw,h4]
   ·obtain⟨R,r1,r2,e1⟩:=hel i x hgi q12 h.length (h++ [.arr 0 2 [m.enc],.arr 0 8 [b.enc],.arr 0 4 [v.enc]]);have hes:=(Jk (128+(i:Int)) R).2;have r3:Jt (elS (128+(i:Int)) (sub (b.items[i]?.getD It.zero).of x)) (elS (128+(i:Int)) R):=(QAo r1).resolve_right (by omega)
    obtain⟨o,h4,h5⟩:=hK (c++elS (128+(i:Int)) R) (by rw[ht,QbC,hll,if_neg q12,Nat.zero_add]; exact QrE hI r3 q (by omega))
    refine⟨o,?_,h5⟩
    have e0:=fun ws h=>XJ (128+(i:Int)) R (by omega) ws h
    have hsz:c.size+(elS (128+(i:Int)) R).size<=9223372036854775807:=by omega
    rw[hit]at e1;generalize elS (128+(i:Int)) R=u at*;simp only[Md.enc]at*;simp at hw h4 e1 e0;simp[QiO,hi,hx,hib,q',q12,e1,e0,hw,hw2,h4,hsz]
  ·have hcat:=Qsu b sub v.items i 0;refine⟨_,?_,c,i,Qoy hI hcat (by omega),rfl⟩
   have q': ¬(c.size:Int)<=4000:=by omega
   simp[QiO,hi,hx,q']
 ·intro c K hI;rw[List.take_length]at hI;refine⟨_,?_,c,v.items.length,hI,rfl⟩
  simp[QiO]
end Go.Proofs.YtflbneepngjglaaGreatDoor
namespace Go.Proofs.YtflbneepngjglaaGreatDoor
open Go Go.Avm
def JU (k:Int)(c:ByteArray):ByteArray:=if 4000<c.size then c.extract 0 4001 else elS k c
theorem QgT (H:Avm.H)(c:ByteArray)(h:4001<=c.size):QcL H .str (.str c) none (some (.int .i64 4001)) none=some (.str (c.extract 0 4001)):=by
 simp[QcL,bound,h]
theorem QkS (k:Int)(c:ByteArray):(JU k c).size<=4004:=by
 have:=Jk k c;unfold JU;split
 ·rw[ByteArray.size_extract]; omega
 ·omega
theorem Qwl {k:Int}{x c:ByteArray}(h:Jt x c):Jt (elS k x) (JU k c):=by
 obtain⟨h1,h2,h3⟩:=h;have s1:=Jk k x;have s2:=Jk k c;have s3:=QkS k c;unfold JU at*;by_cases q:4000<c.size
 ·rw[if_pos q]at*
  have hx:4000<x.size:=by
   rcases Nat.lt_or_ge 4000 x.size with q' | q'
   ·exact q'
   ·have:=h1 q'; subst this; exact q
  exact⟨fun _=>by omega,fun _=>by rw[ByteArray.size_extract]; omega,by omega⟩
 ·rw[if_neg q]at*
  have hx:x.size<=4000:=by
   rcases Nat.lt_or_ge 4000 x.size with q' | q'
   ·have:=h2 q'; omega
   ·exact q'
  have:=h1 hx;subst this;exact⟨fun _=>rfl,fun h=>h,by omega⟩
section
variable {m : Md} {t b : Ty} {v : Val} (hr : ∀ ws h, Qb cfg ws 77 [m.enc, t.enc] h = some (.tup [b.enc, .bool true], h))
include hr
theorem Qpe (hk:b.kind=0)(ws:Nat)(h:Avm.H):Qb cfg ws 58 [m.enc,t.enc,v.enc] h=some (.str (JU (ZN 0) ⟨#[]⟩),h):=by
 have e1:=QwY;have e2:=fun ws h=>XJ 5 ⟨#[]⟩ (by show 0<=_; omega) ws h
 have hc:JU (ZN 0) ⟨#[]⟩=elS 5 ⟨#[]⟩:=by unfold JU; rw[if_neg (by show¬4000<0; omega)]; rfl
 have hs:((⟨#[]⟩:ByteArray).size:Int)=0:=rfl;rw[hc];generalize elS 5 ⟨#[]⟩=R at*;refine Qc rfl rfl ?_
 simp only[Md.enc]at hr;simp at hr;simp[F58,c58,Md.enc,hr,hk,e1,e2,hs]
theorem Qpg (hk:b.kind=1)(hv:v.int=0\/v.int=1)(ws:Nat)(h:Avm.H):Qb cfg ws 58 [m.enc,t.enc,v.enc] h=some (.str (JU (ZN 1) (JR (255*v.int))),h):=by
 have e1:=QwX;have hz:(JR (255*v.int)).size=1:=ZA _;have e2:=fun ws h=>XJ 1 (JR (255*v.int)) (by omega) ws h
 have hc:JU (ZN 1) (JR (255*v.int))=elS 1 (JR (255*v.int)):=by unfold JU; rw[if_neg (by omega)]; rfl
 have w:IntKind.wrap .i64 (255*v.int)=255*v.int:=Qo (by omega) (by omega)
 have w2:=Yl (255*v.int);rw[hc];generalize elS 1 (JR (255*v.int))=R at*;unfold JR at e2 hz;refine Qc rfl rfl ?_
 simp only[Md.enc]at hr;simp at hr;simp[F58,c58,Md.enc,hr,hk,e1,e2,w,w2,hz,QN,XH]
theorem QrR (hk:b.kind=2\/b.kind=3)(h0: -1000000000000000<=v.int)(h1:v.int<=1000000000000000)(ws:Nat)(h:Avm.H):Qb cfg ws 58 [m.enc,t.enc,v.enc] h=some (.str (JU (ZN b.kind) (QcM v.int)),h):=by
 have e1:=QwW;have e1':=QwV;have hz:=Qfc v.int h0 h1;have hc:JU (ZN b.kind) (QcM v.int)=elS (ZN b.kind) (QcM v.int):=by unfold JU; rw[if_neg (by omega)]
 have hz': ¬4000<((QcM v.int).size:Int):=by omega
 have hz'': ¬(4000:Int)<(QcM v.int).size:=by omega
 rw[hc]
 have e3: ∀ws h,Qb cfg ws 104 [.int .i64 v.int] h=some (.tup [.str (QcM v.int),.int .i64 0],h):=fun ws h=>by
  obtain⟨k,hk,e⟩:=QpF v.int h0 h1 ws h;rw[QxX hk]at e;exact e
 have e2:=fun k ws h=>XJ k (QcM v.int) (by omega) ws h
 refine Qc rfl rfl ?_
 simp only[Md.enc]at hr;simp at hr;rcases hk with hk | hk<;>rw[hk]<;>(generalize QcM v.int=c at*)<;>simp[F58,c58,Md.enc,hr,hk,e1,e1',e2,e3,ZN,hz']
theorem Qna (hk:b.kind=4\/b.kind=11)(hz:v.bytes.size<=4000)(ws:Nat)(h:Avm.H):Qb cfg ws 58 [m.enc,t.enc,v.enc] h=some (.str (JU (ZN b.kind) v.bytes),h):=by
 have e1:=QwU;have e1':=Qui;have hc:JU (ZN b.kind) v.bytes=elS (ZN b.kind) v.bytes:=by unfold JU; rw[if_neg (by omega)]
 have hz': ¬4000<(v.bytes.size:Int):=by omega
 rw[hc];have e2:=fun k ws h=>XJ k v.bytes (by omega) ws h
 refine Qc rfl rfl ?_
 simp only[Md.enc]at hr;simp at hr;rcases hk with hk | hk<;>rw[hk]<;>simp[F58,c58,Md.enc,hr,hk,e1,e1',e2,ZN,hz']
theorem Qph (hk:b.kind=5)(hs:v.bytes.size<=32000)(h01:v.bytes.data.toList.all d01=true)(ws:Nat)(h:Avm.H):Qb cfg ws 58 [m.enc,t.enc,v.enc] h=some (.str (JU (ZN 5) (JR (QaP v.bytes.size)++XQ v.bytes)),h):=by
 have e1:=QwT;have e3:=fun ws h=>Qvg v.bytes hs h01 ws h
 have e4:=fun ws h=>QzS v.bytes.size hs ws h
 have hps:=QpX v.bytes;have hts:=ZA (QaP v.bytes.size:Nat);have hsz:(JR (QaP v.bytes.size:Nat)).size+(XQ v.bytes).size<=9223372036854775807:=by omega
 have hcs:(JR (QaP v.bytes.size:Nat)++XQ v.bytes).size=(JR (QaP v.bytes.size:Nat)).size+(XQ v.bytes).size:=ByteArray.size_append;have e2:=fun ws h=>XJ 3 (JR (QaP v.bytes.size:Nat)++XQ v.bytes) (by omega) ws h
 have w3:=Yl (QaP v.bytes.size:Nat);have wn:IntKind.wrap .i64 (-(v.bytes.size:Int))= -(v.bytes.size:Int):=Qo (by omega) (by omega)
 unfold JR at*;generalize XQ v.bytes=p at*;generalize QaP v.bytes.size=q at*;refine Qc rfl rfl ?_
 simp only[Md.enc]at hr;simp at hr;unfold JU;have e9:=fun H=>QgT H (⟨#[UInt8.ofNat ((q:Int)%256).toNat]⟩++p)
 generalize hx:(⟨#[UInt8.ofNat ((q:Int)%256).toNat]⟩:ByteArray)=x at*;by_cases c1:4000<(x++p:ByteArray).size
 ·have e9:=fun H=>e9 H (by omega)
  have c2:(4000:Int)<(x.size:Int)+(p.size:Int):=by omega
  rw[if_pos c1];try simp at w3
  simp[F58,c58,Md.enc,hr,hk,hx,e1,e3,e4,w3,wn,hsz,c2,e9,QN,XH]
 ·have c2: ¬(4000:Int)<(x.size:Int)+(p.size:Int):=by omega
  rw[if_neg c1];try simp at w3
  simp[F58,c58,Md.enc,hr,hk,hx,e1,e2,e3,e4,w3,wn,hsz,c2,QN,XH,ZN]
theorem QrQ (hk:b.kind=6)(h2:2<=v.items.length)(hl:v.items.length<=10)(hrg: ∀x∈v.items,0<=x.int/\x.int<=1000000000)(hr0:(v.items.headD Wv).int<=2)(ws:Nat)(h:Avm.H):Qb cfg ws 58 [m.enc,t.enc,v.enc] h=some (.str (JU (ZN 6) (QdK v.items)),h):=by
 obtain⟨x,y,l,hv⟩: ∃x y l,v.items=x::y::l:=by
  match hq:v.items with
  | []=>rw[hq]at h2; simp at h2
  | [a]=>rw[hq]at h2; simp at h2
  | x::y::l=>exact⟨x,y,l,rfl⟩
 have hx0:=hrg x (by rw[hv]; simp)
 have hy0:=hrg y (by rw[hv]; simp)
 rw[hv]at hr0;have hx2:x.int<=2:=hr0;have e1:=QwS;have hn:((40*x.int+y.int).toNat:Int)=40*x.int+y.int:=by omega
 have e3:=fun ws h=>QwC (40*x.int+y.int).toNat (by omega) ws h
 rw[hn]at e3;have w1:IntKind.wrap .i64 (40*x.int)=40*x.int:=Qo (by omega) (by omega)
 have w2:IntKind.wrap .i64 (40*x.int+y.int)=40*x.int+y.int:=Qo (by omega) (by omega)
 have hu:=ZB (40*x.int+y.int).toNat (by omega)
 have e4:=QzO m b v hl h2 hrg (XR (40*x.int+y.int).toNat) hu h
 have ha:QdK v.items=XR (40*x.int+y.int).toNat++Za ((v.items.drop 2).map fun x=>XR x.int.toNat):=by
  unfold QdK;rw[hv];rfl
 have hcs:(Za ((v.items.drop 2).map fun x=>XR x.int.toNat)).size<=((v.items.drop 2).map fun x=>XR x.int.toNat).length*10:=YW fun z hz=>by
  obtain⟨y,hy,rfl⟩:=List.mem_map.1 hz;have:=hrg y (List.drop_subset _ _ hy);exact ZB _ (by omega)
 rw[List.length_map,List.length_drop]at hcs;have has:(QdK v.items).size<=4000:=by rw[ha,ByteArray.size_append]; omega
 rw[←ha]at e4;have e2:=fun ws h=>XJ 6 (QdK v.items) (by omega) ws h
 have hc:JU (ZN 6) (QdK v.items)=elS 6 (QdK v.items):=by unfold JU; rw[if_neg (by omega)]; rfl
 have hz': ¬4000<((QdK v.items).size:Int):=by omega
 rw[hc];generalize QdK v.items=c at*;generalize XR (40*x.int+y.int).toNat=u at*;refine Qc rfl rfl ?_
 simp only[Md.enc]at*;simp at hr;simp[hk]at e4;try simp[hv]at e4
 simp[F58,c58,Md.enc,hr,hk,hv,e1,e2,e3,e4,w1,w2,hz']
theorem Qpf (hk:b.kind=7)(k0:Ty)(kr:List Ty)(hkk:b.kids=k0::kr)(hl:v.items.length<=600)(f:Val->ByteArray)
    (hel: ∀x∈v.items,∀ws h,∃R,Jt (f x) R/\R.size<=4100/\Qb cfg ws 58 [m.enc,k0.enc,x.enc] h=some (.str R,h)) (ws:Nat) (h:Avm.H):
    ∃c,Jt (Za (v.items.map f)) c/\Qb cfg ws 58 [m.enc,t.enc,v.enc] h=some (.str (JU (ZN 7) c),h):=by
 obtain⟨c,i,hcut,e4⟩:=QxZ m b v k0 kr hkk hl f hel h;refine⟨c,hcut,?_⟩
 have e1:=QwR;have hz:=hcut.2.2;have e2:=fun ws h=>XJ 48 c (by omega) ws h
 refine Qc rfl rfl ?_
 simp only[Md.enc]at*;simp at hr;simp[hk]at e4;unfold JU;by_cases c1:4000<c.size
 ·have c2:(4000:Int)<(c.size:Int):=by omega
  have c3:(4001:Int)<=(c.size:Int):=by omega
  rw[if_pos c1];simp[F58,c58,Md.enc,hr,hk,e1,e4,c2,c3,QgT _ c (by omega)]
 ·have c2: ¬(4000:Int)<(c.size:Int):=by omega
  rw[if_neg c1];simp[F58,c58,Md.enc,hr,hk,e1,e2,e4,c2,ZN]
theorem QrP (hk:b.kind=8)(hl:v.items.length<=600)(hlb:v.items.length=b.items.length)(sub:Ty->Val->ByteArray)
    (hel: ∀(i:Nat) x,v.items[i]? =some x->x.kind≠12-> ∀ws h,∃R,Jt (sub (b.items[i]?.getD It.zero).of x) R/\R.size<=4050/\Qb cfg ws 58 [m.enc,(b.items[i]?.getD It.zero).of.enc,x.enc] h=some (.str R,h)) (ws:Nat) (h:Avm.H):
    ∃c,Jt (JT b sub 0 v.items) c/\Qb cfg ws 58 [m.enc,t.enc,v.enc] h=some (.str (JU (ZN 8) c),h):=by
 obtain⟨c,i,hcut,e4⟩:=Qzz m b v hl hlb sub hel h;refine⟨c,hcut,?_⟩
 have e1:=QwQ;have hz:=hcut.2.2;have e2:=fun ws h=>XJ 49 c (by omega) ws h
 refine Qc rfl rfl ?_
 simp only[Md.enc]at*;simp at hr;simp[hk]at e4;unfold JU;by_cases c1:4000<c.size
 ·have c2:(4000:Int)<(c.size:Int):=by omega
  have c3:(4001:Int)<=(c.size:Int):=by omega
  rw[if_pos c1];simp[F58,c58,Md.enc,hr,hk,e1,e4,c2,c3,QgT _ c (by omega)]
 ·have c2: ¬(4000:Int)<(c.size:Int):=by omega
  rw[if_neg c1];simp[F58,c58,Md.enc,hr,hk,e1,e2,e4,c2,ZN]
end
end Go.Proofs.YtflbneepngjglaaGreatDoor
namespace Go.Proofs.YtflbneepngjglaaGreatDoor
open Go Go.Avm
section
variable {m : Md} {t b : Ty} {v : Val} (hr : ∀ ws h, Qb cfg ws 77 [m.enc, t.enc] h = some (.tup [b.enc, .bool true], h))
include hr
theorem Qls (hk:b.kind=9)(x:Val)(hx:v.items=[x])(h0:0<=v.int)(h1:v.int<b.items.length)(hw:b.items.length<=67108864)(y:ByteArray)
    (hel: ∀ws h,∃R,Jt y R/\R.size<=4050/\Qb cfg ws 58 [m.enc,((b.items[v.int.toNat]?.map It.of).getD Ty.zero).enc,x.enc] h=some (.str R,h)) (ws:Nat) (h:Avm.H):
    ∃c,Jt y c/\Qb cfg ws 58 [m.enc,t.enc,v.enc] h=some (.str (JU (160+v.int) c),h):=by
 obtain⟨c,hcut,hz,e4⟩:=hel h.length (h++ [.arr 0 2 [m.enc],.arr 0 8 [b.enc],.arr 0 4 [v.enc]]);refine⟨c,hcut,?_⟩
 have e1:=QwP;have e2:=fun ws h=>XJ (160+v.int) c (by omega) ws h
 have w:IntKind.wrap .i64 (160+v.int)=160+v.int:=Qo (by omega) (by omega)
 obtain⟨i,hi⟩: ∃i:Nat,v.int=i:=⟨v.int.toNat,by omega⟩
 have hib:i<b.items.length:=by omega
 have hit:(b.items[v.int.toNat]?.map It.of).getD Ty.zero=(b.items[i]).of:=by rw[hi,Int.toNat_natCast,List.getElem?_eq_getElem hib]; rfl
 rw[hit]at e4;rw[hi]at e2 w ⊢;refine Qc rfl rfl ?_
 simp only[Md.enc]at*;simp at hr;simp[hk,hx,hi]at e4;unfold JU;by_cases c1:4000<c.size
 ·have c2:(4000:Int)<(c.size:Int):=by omega
  have c3:(4001:Int)<=(c.size:Int):=by omega
  rw[if_pos c1];simp[F58,c58,Md.enc,hr,hk,hx,hi,hib,w,e1,e4,c2,c3,QgT _ c (by omega)]
 ·have c2: ¬(4000:Int)<(c.size:Int):=by omega
  rw[if_neg c1];simp[F58,c58,Md.enc,hr,hk,hx,hi,hib,w,e1,e2,e4,c2]
end
theorem Qke {m:Md}{S:List (Ty×Val)}(M:m.ZJ S): ∀(n:Nat) (t:Ty) (v:Val),t.ZJ m S->Xu m n t v=true->v.nodes<=600->
    ∀ws h,∃R,Jt (JN m n t v) R/\R.size<=4050/\Qb cfg ws 58 [m.enc,t.enc,v.enc] h=some (.str R,h)
 | 0,_,_,_,hk,_=>by cases hk
 | n+1,t,v,T,hk,hn=>by
  cases hb:beh m 21 t with
  | none=>unfold Xu at hk; rw[hb]at hk; cases hk
  | some b=>
  obtain⟨B,hb10⟩:=T.beh M hb;have hr:=QZ B.right;obtain⟨hkind,hin,hsub⟩:=QaZ m hk hb hr
  have hs:Yt b v (Xu m n)=true:=by
   unfold Xu at hk;rw[hb]at hk;simp only[Bool.and_eq_true]at hk;exact hk.2
  have hwi:=b.Qe;have hBw:=B.wid;have hvi:=Ys (v:=v)
  have hrec: ∀(i:Nat) x t',v.items[i]? =some x->Xp b v i x=some t'-> ∀ws h,∃R,Jt (JN m n t' x) R/\R.size<=4050/\Qb cfg ws 58 [m.enc,t'.enc,x.enc] h=some (.str R,h):=fun i x t' hx hp=>
   Qke M n t' x (Wf B hp) (hsub i x t' hx hp) (by have:=Qfd hx; omega)
  have hen:JN m (n+1) t v=elS (ZN b.kind+if b.kind=9 then v.int else 0) (Zn b v (JN m n)):=by
   rw[JN,hb];rfl
  have hroot: ∀ws h,Qb cfg ws 77 [m.enc,t.enc] h=some (.tup [b.enc,.bool true],h):=fun ws h=>by
   have:=Yn m M.ok M.lim M.fm t T.wid T.nodes ws h;rw[hb]at this;exact this
  have hK:=QlZ hr hb10;unfold Kind at hK
  have fin: ∀(k:Int) x c ws h,ZN b.kind+(if b.kind=9 then v.int else 0)=k->Zn b v (JN m n)=x->Jt x c->Qb cfg ws 58 [m.enc,t.enc,v.enc] h=some (.str (JU k c),h)->
       ∃R,Jt (JN m (n+1) t v) R/\R.size<=4050/\Qb cfg ws 58 [m.enc,t.enc,v.enc] h=some (.str R,h):=fun k x c ws h e1 e2 e3 e4=>
   ⟨_,by rw[hen,e1,e2]; exact Qwl e3,by have:=QkS k c; omega,e4⟩
  intro ws h;by_cases q1:b.kind=1
  ·exact fin 1 (JR (255*v.int)) _ ws h (by rw[q1]; rfl) (by unfold Zn; rw[if_pos q1]) (Yw (by rw[ZA]; omega)) (Qpg hroot q1 (Qoo hs q1) ws h)
  by_cases q2:b.kind=2\/b.kind=3
  ·obtain⟨h0,h1⟩:=Qmh hs q2 (by omega)
   exact fin (ZN b.kind) (QcM v.int) _ ws h (by rw[if_neg (by omega),Int.add_zero]) (by unfold Zn; rw[if_neg q1,if_pos q2]) (Yw (by have:=Qfc v.int h0 h1; omega)) (QrR hroot q2 h0 h1 ws h)
  by_cases q3:b.kind=4\/b.kind=11
  ·have hz:=QkL hs hr q3;exact fin (ZN b.kind) v.bytes _ ws h (by rw[if_neg (by omega),Int.add_zero]) (by unfold Zn; rw[if_neg q1,if_neg q2,if_pos q3]) (Yw (by omega)) (Qna hroot q3 hz ws h)
  by_cases q5:b.kind=5
  ·have hps:(XQ v.bytes).size=(v.bytes.size+7)/8:=by
     unfold XQ;rw[JI,List.length_map,YS,show v.bytes.data.toList.length=v.bytes.size from Array.length_toList]
   have hbf:=QfV hr hs;exact fin (ZN 5) (JR (QaP v.bytes.size)++XQ v.bytes) _ ws h (by rw[q5]; rfl) (by unfold Zn; rw[if_neg q1,if_neg q2,if_neg q3,if_pos q5]) (Yw (by rw[ByteArray.size_append,ZA]; omega)) (Qph hroot q5 hbf (Qop hs q5) ws h)
  by_cases q6:b.kind=6
  ·obtain⟨h1,h2,h3,h4⟩:=Qmg hs q6
   have hcs:(Za ((v.items.drop 2).map fun x=>XR x.int.toNat)).size<=((v.items.drop 2).map fun x=>XR x.int.toNat).length*10:=YW fun z hz=>by
    obtain⟨y,hy,rfl⟩:=List.mem_map.1 hz;have:=h3 y (List.drop_subset _ _ hy);exact ZB _ (by omega)
   rw[List.length_map,List.length_drop]at hcs
   have h5:(QdK v.items).size<=9000:=by
    obtain⟨x,y,l,hv⟩: ∃x y l,v.items=x::y::l:=by
     match hq:v.items with
     | []=>rw[hq]at h1; simp at h1
     | [a]=>rw[hq]at h1; simp at h1
     | x::y::l=>exact⟨x,y,l,rfl⟩
    have hx0:=h3 x (by rw[hv]; simp)
    have hy0:=h3 y (by rw[hv]; simp)
    unfold QdK;have:=ZB (40*(v.items.headD Wv).int+(v.items.tail.headD Wv).int).toNat (by rw[hv]; show(40*x.int+y.int).toNat<_; omega)
    rw[ByteArray.size_append];omega
   exact fin (ZN 6) (QdK v.items) _ ws h (by rw[q6]; rfl) (by unfold Zn; rw[if_neg q1,if_neg q2,if_neg q3,if_neg q5,if_pos q6]) (Yw h5) (QrQ hroot q6 h1 h2 h3 h4 ws h)
  by_cases q7:b.kind=7
  ·obtain⟨k0,kr,hkk⟩: ∃k0 kr,b.kids=k0::kr:=by
     cases hq:b.kids with
     | nil=>exact absurd hq (hin.list q7)
     | cons a l=>exact⟨a,l,rfl⟩
   obtain⟨c,h1,h2⟩:=Qpf (v:=v) hroot q7 k0 kr hkk (by omega) (JN m n k0) (fun x hx ws h=>by
    obtain⟨i,hi⟩:=List.mem_iff_getElem?.1 hx;obtain⟨R,r1,r2,r3⟩:=hrec i x k0 hi (by unfold Xp; rw[if_pos q7,hkk]; rfl) ws h
    exact⟨R,r1,by omega,r3⟩) ws h
   exact fin (ZN 7) _ c ws h (by rw[q7]; rfl) (by unfold Zn; rw[if_neg q1,if_neg q2,if_neg q3,if_neg q5,if_neg q6,if_pos q7,hkk]; rfl) h1 h2
  by_cases q8:b.kind=8
  ·obtain⟨c,h1,h2⟩:=QrP (v:=v) hroot q8 (by omega) (hin.record q8) (JN m n) (fun i x hx h12 ws h=>
     hrec i x _ hx (by unfold Xp; rw[if_neg q7,if_neg (by omega),if_pos ⟨q8,h12⟩,QvJ]) ws h) ws h
   exact fin (ZN 8) _ c ws h (by rw[q8]; rfl) (by unfold Zn; rw[if_neg q1,if_neg q2,if_neg q3,if_neg q5,if_neg q6,if_neg q7,if_pos q8]) h1 h2
  by_cases q9:b.kind=9
  ·obtain⟨x,hx,h0,h1⟩:=Qba hs q9;obtain⟨c,h2,h3⟩:=Qls (v:=v) hroot q9 x hx h0 h1 (by omega) _ (hrec 0 x _ (by rw[hx]; rfl) (by unfold Xp; rw[if_neg q7,if_pos q9])) ws h
   exact fin (160+v.int) _ c ws h (by rw[if_pos q9,q9]; rfl) (by unfold Zn; rw[if_neg q1,if_neg q2,if_neg q3,if_neg q5,if_neg q6,if_neg q7,if_neg q8,if_pos q9,hx]; rfl) h2 h3
  have q0:b.kind=0:=by omega
  exact fin (ZN 0) ⟨#[]⟩ _ ws h (by rw[q0]; rfl) (by unfold Zn; rw[if_neg q1,if_neg q2,if_neg q3,if_neg q5,if_neg q6,if_neg q7,if_neg q8,if_neg q9]) (Yw (by show 0<=_; omega)) (Qpe hroot q0 ws h)
end Go.Proofs.YtflbneepngjglaaGreatDoor
namespace Go.Proofs.YtflbneepngjglaaGreatDoor
open Go Go.Avm
@[irreducible] def Qgv :Nat:=67108864
theorem QvO {n:Nat}(h:n<=67108864):n<=Qgv:=by unfold Qgv; exact h
def Qyp (m:Md)(t:Ty)(v:Val):ByteArray:=JN m Qgv t (ZR m t v)
def WU (m:Md)(t:Ty)(v:Val):ByteArray×Int:=if QaC m t v=0 then(if 4000<(Qyp m t v).size then(⟨#[]⟩,2)else(Qyp m t v,0))else(⟨#[]⟩,QaC m t v)
theorem Qeh {m:Md}{t:Ty}{v:Val}(hm:m.ok)(hs:t.size<=67108864)(hv:v.size<=67108864)(q:QaC m t v=0):m.ZJ (QmT m t)/\t.ZJ m (QmT m t)/\Xu m Qgv t (ZR m t v)=true/\(ZR m t v).nodes<=600:=by
 obtain⟨q1,q2,q3⟩:=QcK q;obtain⟨M,T,hS,hSs⟩:=Qmi hm hs q1;have hpl:=QeZ M hS hSs T v;have hf:=Qyj q2;have hp:=Qkq _ _ _ _ _ hpl;exact⟨M,T,Qfm _ _ _ _ (QvO (Nat.le_trans (Yp hpl) hv)) (Qdj _ _ _ _ _ _ hpl q3),by omega⟩
theorem QpW (m:Md)(hm:m.ok)(t:Ty)(hs:t.size<=67108864)(v:Val)(hv:v.size<=67108864)(ws:Nat)(h:Avm.H):Qb cfg ws 27 [m.enc,t.enc,v.enc] h=some (.tup [.str (WU m t v).1,.int .i64 (WU m t v).2],h):=by
 have e1:=fun ws h=>QsC m hm t hs v hv ws h
 unfold QbH at e1;unfold WU;refine Qc rfl rfl ?_
 by_cases q:QaC m t v=0
 ·obtain⟨M,T,hfit,hn⟩:=Qeh hm hs hv q;have e2:=(Qge M Qgv t (ZR m t v) T hfit hn).2;rw[if_pos q];simp only[if_pos q]at e1;unfold Qyp;generalize ZR m t v=r at*;generalize JN m Qgv t r=x at*;simp only[Md.enc]at e1 e2;simp at e1 e2;by_cases q':4000<x.size
  ·have c2:(4000:Int)<(x.size:Int):=by omega
   rw[if_pos q'];simp[F27,c27,Md.enc,e1,e2,c2]
  ·have c2: ¬(4000:Int)<(x.size:Int):=by omega
   rw[if_neg q'];simp[F27,c27,Md.enc,e1,e2,c2]
 ·rw[if_neg q];simp only[if_neg q]at e1;simp only[Md.enc]at e1;simp at e1;simp[F27,c27,Md.enc,e1,q]
theorem QhY (m:Md)(hm:m.ok)(t:Ty)(hs:t.size<=67108864)(v:Val)(hv:v.size<=67108864)(ws:Nat)(h:Avm.H):Qb cfg ws 28 [m.enc,t.enc,v.enc] h=some (.tup [.str (WU m t v).1,.int .i64 (WU m t v).2],h):=by
 have e1:=fun ws h=>QpR m hm t hs ws h
 have e2:=fun ws h=>Qsq m hm t hs v hv ws h
 have e3:=fun ws h=>Qsp m hm t hs v hv ws h
 unfold QbH at e3;unfold WU;refine Qc rfl rfl ?_
 by_cases q:QaC m t v=0
 ·obtain⟨q1,q2,q3⟩:=QcK q;have hA:QtT m t v=true:=by unfold QtT; rw[q2,q3]; simp[q1]
  obtain⟨M,T,hfit,hn⟩:=Qeh hm hs hv q;obtain⟨R,hcut,hR,e4⟩:=Qke M Qgv t (ZR m t v) T hfit hn h.length (h++ [.arr 0 2 [m.enc],.arr 0 8 [t.enc],.arr 0 4 [v.enc],.arr 0 4 [(ZR m t v).enc]]);rw[if_pos q];simp only[if_pos q]at e3;rw[q1]at e1 e2;rw[hA]at e2;unfold Qyp;generalize ZR m t v=r at*;generalize JN m Qgv t r=x at*;simp only[Md.enc]at e1 e2 e3 e4;simp at e1 e2 e3 e4;by_cases q':4000<x.size
  ·have:=hcut.2.1 q';have c2:(4000:Int)<(R.size:Int):=by omega
   rw[if_pos q'];simp[F28,c28,Md.enc,e1,e2,e3,e4,c2]
  ·have he:=hcut.1 (by omega)
   subst he;have c2: ¬(4000:Int)<(R.size:Int):=by omega
   rw[if_neg q'];simp[F28,c28,Md.enc,e1,e2,e3,e4,c2]
 ·rw[if_neg q];by_cases q1:WO m t=0
  ·have hE:QaC m t v=1:=by
     unfold QaC QB at q ⊢;rw[if_pos q1]at q ⊢;split at q
     ·exact absurd rfl q
     ·rename_i c;rw[if_neg c]
   have hA:QtT m t v=false:=by
    unfold QaC QB at hE;rw[if_pos q1]at hE;unfold QtT;rw[decide_eq_true q1,Bool.true_and];cases hc:(Yu v&&Xu m v.size t v)
    ·rfl
    ·rw[hc]at hE; simp at hE
   rw[hE];rw[q1]at e1 e2;rw[hA]at e2;simp only[Md.enc]at e1 e2;simp at e1 e2;simp[F28,c28,Md.enc,e1,e2]
  ·have hE:QaC m t v=WO m t:=by unfold QaC; rw[if_neg q1]
   rw[hE];simp only[Md.enc]at e1;simp at e1;simp[F28,c28,Md.enc,e1,q1]
end Go.Proofs.YtflbneepngjglaaGreatDoor
