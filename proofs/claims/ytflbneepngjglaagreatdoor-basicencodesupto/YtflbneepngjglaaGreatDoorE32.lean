/- Bits in bytes: the program. -/
import Derived.Test.YtflbneepngjglaaGreatDoorE31
set_option linter.all false
namespace Go.Proofs.YtflbneepngjglaaGreatDoor
open Go Go.Avm
def ZD (s:List UInt8)(i:Nat):Nat:=if s[i]? =some 49 then 1 else 0
def Xk (s:List UInt8)(at_:Nat):Nat->Nat
 | 0=>0
 | k+1=>2*Xk s at_ k+ZD s (at_+k)
theorem QmN (s:List UInt8)(i:Nat):ZD s i<=1:=by unfold ZD; split<;>omega
theorem QeC (s:List UInt8)(a:Nat): ∀k,Xk s a k<2^k
 | 0=>by simp[Xk]
 | k+1=>by have:=QeC s a k; have:=QmN s (a+k); rw[Xk,Nat.pow_succ]; omega
def XV (s:List UInt8):List Int:=(List.range ((s.length+7)/8)).map fun j=>((Xk s (8*j) 8:Nat):Int)
def XQ (s:ByteArray):ByteArray:=⟨((XV s.data.toList).map fun x=>UInt8.ofNat x.toNat).toArray⟩
theorem YS (s:List UInt8):(XV s).length=(s.length+7)/8:=by simp[XV]
theorem QsF (s:List UInt8){k:Nat}(hk:k<(s.length+7)/8):(XV s)[k]? =some ((Xk s (8*k) 8:Nat):Int):=by
 unfold XV;rw[List.getElem?_map,List.getElem?_range hk]; rfl
theorem QpY (s:List UInt8){k:Nat}(hk:k<(s.length+7)/8):(XV s).take (k+1)=(XV s).take k++ [((Xk s (8*k) 8:Nat):Int)]:=by
 have h:=QsF s hk;obtain⟨hl,he⟩:=List.getElem?_eq_some_iff.1 h
 rw[List.take_succ_eq_append_getElem hl,he]
theorem QuF (base:Nat)(s:ByteArray)(hs:s.size<=67108864)(v:AV)(a:Nat)(ha:a<=67108864)(H:Avm.H):
    Qa (evC (Qb cfg) Qa cfg.pol base base QdA) [0,3,4,5,6] [(0,.str s),(3,v),(4,.int .i64 a),(5,.int .i64 (0:Nat)),(6,.int .i64 a)] H=
     some (.exit 2,[(0,.str s),(3,v),(4,.int .i64 a),(5,.int .i64 (Xk s.data.toList a 8:Nat)),(6,.int .i64 (a+8:Nat))],H):=by
 have hlp:=QaS (f:=evC (Qb cfg) Qa cfg.pol base base QdA) (keep:=[0,3,4,5,6]) 8 (fun i=>[(0,.str s),(3,v),(4,.int .i64 a),(5,.int .i64 (Xk s.data.toList a i:Nat)),(6,.int .i64 (a+i:Nat))]) (fun _=>H)
  (fun _=>(.exit 2,[(0,.str s),(3,v),(4,.int .i64 a),(5,.int .i64 (Xk s.data.toList a 8:Nat)),(6,.int .i64 (a+8:Nat))],H)) ?_ ?_
 ·exact hlp
 ·intro i hi K hK;have hlt:=QeC s.data.toList a i
  have hp:2^i<=128:=by
   have:i<=7:=by omega
   exact Nat.le_trans (Nat.pow_le_pow_right (by omega) this) (by decide)
  rw[Xk]at hK;unfold ZD at hK;obtain⟨p,hpe⟩: ∃p,p=a+i:=⟨_,rfl⟩;have hp1:a+(i+1)=p+1:=by omega
  rw[hp1]at hK;rw[←hpe]at hK ⊢;have w0:IntKind.wrap .i64 ((a:Int)+8)=(a:Int)+8:=Qo (by omega) (by omega)
  have w1:IntKind.wrap .i64 ((p:Int)+1)=(p:Int)+1:=Qo (by omega) (by omega)
  have i8:(p:Int)<(a:Int)+8:=by omega
  generalize Xk s.data.toList a i=n at*;have w2:IntKind.wrap .i64 (2*(n:Int))=2*(n:Int):=Qo (by omega) (by omega)
  have w3:IntKind.wrap .i64 (2*(n:Int)+1)=2*(n:Int)+1:=Qo (by omega) (by omega)
  clear hpe hp1 hlt hp hi;by_cases q1:p<s.size
  ·have hsz:p<s.data.toList.length:=by rw[show s.data.toList.length=s.size from Array.length_toList]; exact q1
   by_cases q2:s.data.toList[p]? =some 49
   ·rw[if_pos q2]at hK
    have hb:((s.data[p]'q1).toNat:Int)=49:=by
     rw[List.getElem?_eq_getElem hsz]at q2
     injection q2 with q2;rw[show s.data[p]'q1=s.data.toList[p]from(Array.getElem_toList q1).symm,q2]; rfl
    simp at hK;simp[QdA,w0,w1,w2,w3,i8,q1,hb,hK]
   ·rw[if_neg q2]at hK
    have hb: ¬((s.data[p]'q1).toNat:Int)=49:=fun e=>q2 (by
     rw[List.getElem?_eq_getElem hsz,show s.data.toList[p]=s.data[p]'q1 from Array.getElem_toList q1]
     congr 1
     exact UInt8.toNat_inj.1 (by have h49:(49:UInt8).toNat=49:=rfl; omega))
    simp at hK;simp[QdA,w0,w1,w2,w3,i8,q1,hb,hK]
  ·have q2:s.data.toList[p]? =none:=List.getElem?_eq_none (by rw[show s.data.toList.length=s.size from Array.length_toList]; omega)
   rw[if_neg (by rw[q2]; simp)]at hK
   simp at hK;simp[QdA,w0,w1,w2,i8,q1,hK]
 ·intro K;have w0:IntKind.wrap .i64 ((a:Int)+8)=(a:Int)+8:=Qo (by omega) (by omega)
  simp[QdA,w0]
def Qye (l:List Int):Avm.H:=l.map fun x=>.arr 0 1 [mk8 x]
theorem Qnl (s:ByteArray)(hs:s.size<=67100000)(ws:Nat)(h:Avm.H):Qb cfg ws 184 [.str s] h=some (.str (XQ s),h):=by
 have hsl:s.data.toList.length=s.size:=Array.length_toList;have hpl:=YS s.data.toList;rw[hsl]at hpl
 have hlp:=QaS (f:=evC (Qb cfg) Qa cfg.pol h.length h.length QmB) (keep:=[0,3,4]) ((s.size+7)/8) (fun k=>[(0,.str s),(3,.osl h.length k 1 0 k),(4,.int .i64 (8*k:Nat))])
  (fun k=>h++([.arr k 1 (((XV s.data.toList).take k).map mk8)]++Qye ((XV s.data.toList).take k)))
  (fun _=>(.exit 0,[(0,.str s),(3,.osl h.length ((s.size+7)/8) 1 0 ((s.size+7)/8)),(4,.int .i64 (8*((s.size+7)/8):Nat))],h++([.arr ((s.size+7)/8) 1 ((XV s.data.toList).map mk8)]++Qye (XV s.data.toList)))) ?_ ?_
 ·have hby:=QaA (XV s.data.toList);refine Qc rfl rfl ?_
  have hln:((XV s.data.toList).map mk8).length=(s.size+7)/8:=by rw[List.length_map,hpl]
  simp only[List.take_zero,List.map_nil,Qye,Nat.mul_zero]at hlp;unfold XQ;generalize (XV s.data.toList).map mk8=els at*;generalize (s.size+7)/8=n at*;simp at hlp;have htk:els.take n=els:=List.take_of_length_le (by omega)
  simp[QEk,QDk,hlp,hln,htk,hby]
 ·intro k hk K hK;have e0:=fun v H=>QuF h.length s (by omega) v (8*k) (by omega) H
  have ht:=QpY s.data.toList (k:=k) (by rw[hsl]; exact hk)
  have hlt:=QeC s.data.toList (8*k) 8;have hll:((XV s.data.toList).take k).length=k:=by simp; omega
  rw[ht]at hK;have c1:8*k<s.size:=by omega
  simp only[List.map_append,Qye]at hK ⊢;generalize (XV s.data.toList).take k=l at*;generalize Xk s.data.toList (8*k) 8=n at*;obtain⟨p,hp⟩: ∃p,p=8*k:=⟨_,rfl⟩;have hp1:8*(k+1)=p+8:=by omega
  rw[hp1]at hK;rw[←hp]at e0 c1 ⊢;have w0:IntKind.wrap .i64 ((p:Int)+8)=(p:Int)+8:=Qo (by omega) (by omega)
  have w1:IntKind.wrap .u8 (n:Int)=(n:Int):=wrap_u8 (by omega) (by omega)
  have hfl:k+1<=4294967296:=by omega
  clear hp hp1 ht;unfold mk8 at*;simp at hK e0;simp[QmB,c1,e0,w0,w1,QN,appended,Jm,hll,hfl,hK]
 ·intro K;have c1: ¬8*((s.size+7)/8)<s.size:=by omega
  have ht:(XV s.data.toList).take ((s.size+7)/8)=XV s.data.toList:=List.take_of_length_le (by omega)
  rw[ht];generalize 8*((s.size+7)/8)=n at*;simp[QmB,c1]
end Go.Proofs.YtflbneepngjglaaGreatDoor
namespace Go.Proofs.YtflbneepngjglaaGreatDoor
open Go Go.Avm
theorem QeY {n:Nat}(h:n<=60):(2:Nat)^n<=1152921504606846976:=Nat.le_trans (Nat.pow_le_pow_right (by omega) h) (by decide)
theorem Qnx (n:Nat)(hn:n<=60)(ws:Nat)(h:Avm.H):Qb cfg ws 182 [.int .i64 n] h=some (.int .i64 ((2^n:Nat):Int),h):=by
 have hlp:=QaS (f:=evC (Qb cfg) Qa cfg.pol h.length h.length QmC) (keep:=[0,3,4]) n (fun i=>[(0,.int .i64 n),(3,.int .i64 ((2^i:Nat):Int)),(4,.int .i64 i)]) (fun _=>h)
  (fun _=>(.exit 0,[(0,.int .i64 n),(3,.int .i64 ((2^n:Nat):Int)),(4,.int .i64 n)],h)) ?_ ?_
 ·rw[show(2^0:Nat)=1 from rfl]at hlp;generalize (2^n:Nat)=p at*;refine Qc rfl rfl ?_
  simp at hlp;simp[QEl,QDl,hlp]
 ·intro i hi K hK;have hp:=QeY (n:=i+1) (by omega)
  rw[Nat.pow_succ]at hp hK;generalize (2^i:Nat)=p at*;generalize (2^n:Nat)=q at*;have w1:IntKind.wrap .i64 ((p:Int)*2)=(p:Int)*2:=Qo (by omega) (by omega)
  have w2:IntKind.wrap .i64 ((i:Int)+1)=(i:Int)+1:=Qo (by omega) (by omega)
  simp at hK;simp[QmC,hi,w1,w2,hK]
 ·intro K;simp[QmC]
def Wj (n:Nat):Nat->List UInt8
 | 0=>[]
 | i+1=>(if n/2^i%2=1 then 49 else 48)::Wj n i
theorem Qel (n:Nat): ∀k,(Wj n k).length=k
 | 0=>rfl
 | k+1=>by rw[Wj,List.length_cons,Qel n k]
theorem Qtz (n w:Nat)(hn:n<4611686018427387904)(hw:w<=60)(ws:Nat)(h:Avm.H):Qb cfg ws 244 [.int .i64 n,.int .i64 w] h=some (.str ⟨(Wj n w).toArray⟩,h):=by
 have hlp:=QaS (f:=evC (Qb cfg) Qa cfg.pol h.length h.length QiT) (keep:=[0,1,5,6]) w (fun i=>[(0,.int .i64 ((n/2^i:Nat):Int)),(1,.int .i64 w),(5,.str ⟨(Wj n i).toArray⟩),(6,.int .i64 i)]) (fun _=>h)
  (fun _=>(.exit 0,[(0,.int .i64 ((n/2^w:Nat):Int)),(1,.int .i64 w),(5,.str ⟨(Wj n w).toArray⟩),(6,.int .i64 w)],h)) ?_ ?_
 ·rw[show n/2^0=n by simp,show Wj n 0=[]from rfl]at hlp
  generalize n/2^w=q at*;refine Qc rfl rfl ?_
  simp at hlp;simp[QDX,QCX,hlp]
 ·intro i hi K hK;have hl:=Qel n i;have hlt:n/2^i<=n:=Nat.div_le_self _ _;rw[show n/2^(i+1)=n/2^i/2 by rw[Nat.pow_succ,Nat.div_div_eq_div_mul]]at hK
  rw[Wj]at hK;generalize Wj n i=s at*;generalize n/2^i=m at*;have w2:IntKind.wrap .i64 ((i:Int)+1)=(i:Int)+1:=Qo (by omega) (by omega)
  have hm:Int.tmod (m:Int) 2=((m%2:Nat):Int):=by rw[Int.tmod_eq_emod_of_nonneg (by omega)]; omega
  have hd:Int.tdiv (m:Int) 2=((m/2:Nat):Int):=by rw[Int.tdiv_eq_ediv_of_nonneg (by omega)]; omega
  have w3:IntKind.wrap .i64 ((m:Int)/2)=(m:Int)/2:=Qo (by omega) (by omega)
  have w4:IntKind.wrap .i64 ((m:Int)%2)=(m:Int)%2:=Qo (by omega) (by omega)
  have hsz: ∀x:UInt8,(⟨#[x]⟩:ByteArray).size+(⟨s.toArray⟩:ByteArray).size<=9223372036854775807:=fun x=>by rw[JI]; show 1+s.length<=_; omega
  have h49:=hsz 49;have h48:=hsz 48;by_cases q:m%2=1
  ·have q':(m:Int)%2=1:=by omega
   rw[if_pos q]at hK;simp at hK h49 h48;simp[QiT,hi,w2,w3,w4,hm,hd,q',h49,QmR,hK]
  ·have q': ¬(m:Int)%2=1:=by omega
   rw[if_neg q]at hK;simp at hK h49 h48;simp[QiT,hi,w2,w3,w4,hm,hd,q',h48,QmR,hK]
 ·intro K;generalize n/2^w=q at*;simp[QiT]
def Qbq (n:Int)(w:Nat):Nat:=(if n<0 then n+((2^w:Nat):Int)else n).toNat
theorem Qsf (n:Int)(w:Nat)(h1:1<=w)(h2:w<=60)(h3: -((2^(w-1):Nat):Int)<=n)(h4:n<((2^(w-1):Nat):Int))(ws:Nat)(h:Avm.H):Qb cfg ws 183 [.int .i64 n,.int .i64 w] h=some (.tup [.str ⟨(Wj (Qbq n w) w).toArray⟩,.int .i64 0],h):=by
 have hp:=QeY (n:=w-1) (by omega)
 have h2w:2^w=2*2^(w-1):=by conv=>lhs; rw[show w=(w-1)+1 by omega,Nat.pow_succ,Nat.mul_comm]
 have e1:=fun ws h=>Qnx (w-1) (by omega) ws h
 have hs:Qbq n w<4611686018427387904:=by unfold Qbq; split<;>omega
 have e2:=fun ws h=>Qtz (Qbq n w) w hs h2 ws h
 have hn:((Qbq n w:Nat):Int)=if n<0 then n+((2^w:Nat):Int)else n:=by unfold Qbq; split<;>omega
 rw[hn,h2w]at e2;generalize Wj (Qbq n w) w=s at*;generalize 2^(w-1)=p at*;have w0:IntKind.wrap .i64 ((w:Int)-1)=((w-1:Nat):Int):=by rw[show(w:Int)-1=((w-1:Nat):Int)by omega]; exact Qd (by omega)
 have w1:IntKind.wrap .i64 (-(p:Int))= -(p:Int):=Qo (by omega) (by omega)
 have w2:IntKind.wrap .i64 (2*(p:Int))=2*(p:Int):=Qo (by omega) (by omega)
 have i1: ¬(w:Int)<1:=by omega
 have i2: ¬60<(w:Int):=by omega
 have i3: ¬n< -(p:Int):=by omega
 have i4: ¬(p:Int)<=n:=by omega
 refine Qc rfl rfl ?_
 by_cases q:n<0
 ·rw[if_pos q]at e2;have w3:IntKind.wrap .i64 (n+2*(p:Int))=n+2*(p:Int):=Qo (by omega) (by omega)
  generalize w-1=k at*;try simp at e1 e2
  simp[QBs,QAT,w0,w1,w2,w3,e1,e2,i1,i2,i3,i4,q]
 ·rw[if_neg q]at e2;generalize w-1=k at*;try simp at e1 e2
  simp[QBs,QAT,w0,w1,w2,e1,e2,i1,i2,i3,i4,q]
def inK (n:Int)(k:Nat):Prop:=-((2^(8*k-1):Nat):Int)<=n/\n<((2^(8*k-1):Nat):Int)
def QlY (n:Int)(k:Nat):Prop:=1<=k/\k<=7/\inK n k/\(k=1\/ ¬inK n (k-1))
theorem QpF (n:Int)(h0: -1000000000000000<=n)(h1:n<=1000000000000000)(ws:Nat)(h:Avm.H): ∃k,QlY n k/\Qb cfg ws 104 [.int .i64 n] h=some (.tup [.str (XQ ⟨(Wj (Qbq n (8*k)) (8*k)).toArray⟩),.int .i64 0],h):=by
 have hlp:=QaR (γ:=Nat) (f:=evC (Qb cfg) Qa cfg.pol h.length h.length QfP) (keep:=[0,4]) (fun k=>7-k) (fun k=>1<=k/\k<=7/\(k=1\/ ¬inK n (k-1)))
  (fun k=>[(0,.int .i64 n),(4,.int .i64 k)]) (fun _=>h) (fun o=>∃k,QlY n k/\o=(.exit 0,[(0,.int .i64 n),(4,.int .i64 k)],h)) ?_ 1 ⟨Nat.le_refl _,by omega,.inl rfl⟩
 ·obtain⟨o,hl,k,hk,rfl⟩:=hlp;refine⟨k,hk,?_⟩
  obtain⟨k1,k7,⟨r1,r2⟩,_⟩:=hk;have e1:=fun ws h=>Qsf n (8*k) (by omega) (by omega) r1 r2 ws h
  have hsz:(⟨(Wj (Qbq n (8*k)) (8*k)).toArray⟩:ByteArray).size<=67100000:=by rw[JI,Qel]; omega
  have e2:=fun ws h=>Qnl _ hsz ws h
  have w1:IntKind.wrap .i64 (8*(k:Int))=((8*k:Nat):Int):=by rw[show 8*(k:Int)=((8*k:Nat):Int)by omega]; exact Qd (by omega)
  have i0: ¬n< -1000000000000000:=by omega
  have i1: ¬1000000000000000<n:=by omega
  generalize Wj (Qbq n (8*k)) (8*k)=s at*;refine Qc rfl rfl ?_
  generalize 8*k=j at*;simp at hl;try simp at e1
  simp[QEQ,QDQ,i0,i1,hl,w1,e1,e2]
 ·intro k hI K hK;obtain⟨hk1,hk7,hk2⟩:=hI;by_cases q7:k=7
  ·subst q7;refine⟨_,?_,7,⟨by omega,by omega,⟨by simp; omega,by simp; omega⟩,hk2⟩,rfl⟩
   simp[QfP]
  ·have e1:=fun ws h=>Qnx (8*k-1) (by omega) ws h
   have w1:IntKind.wrap .i64 (8*(k:Int))=8*(k:Int):=Qo (by omega) (by omega)
   have w2:IntKind.wrap .i64 (8*(k:Int)-1)=((8*k-1:Nat):Int):=by rw[show 8*(k:Int)-1=((8*k-1:Nat):Int)by omega]; exact Qd (by omega)
   have hp:=QeY (n:=8*k-1) (by omega)
   have w4:IntKind.wrap .i64 ((k:Int)+1)=(k:Int)+1:=Qo (by omega) (by omega)
   have i1:(k:Int)<7:=by omega
   by_cases q:inK n k
   ·refine⟨_,?_,k,⟨hk1,by omega,q,hk2⟩,rfl⟩
    obtain⟨q1,q2⟩:=q;clear hK;generalize 2^(8*k-1)=p at*;have w3:IntKind.wrap .i64 (-(p:Int))= -(p:Int):=Qo (by omega) (by omega)
    generalize 8*k-1=j at*;have i2: ¬n< -(p:Int):=by omega
    have i3: ¬(p:Int)<=n:=by omega
    try simp at e1
    simp[QfP,i1,w1,w2,w3,e1,i2,i3]
   ·obtain⟨o,h4,h5⟩:=hK (k+1) ⟨by omega,by omega,.inr (by simpa using q)⟩ (by omega)
    refine⟨o,?_,h5⟩
    unfold inK at q;clear hK;generalize 2^(8*k-1)=p at*;have w3:IntKind.wrap .i64 (-(p:Int))= -(p:Int):=Qo (by omega) (by omega)
    generalize 8*k-1=j at*;simp at h4;try simp at e1
    by_cases i4:n< -(p:Int)
    ·simp[QfP,i1,w1,w2,w3,w4,e1,i4,h4]
    ·have i3:(p:Int)<=n:=by omega
     simp[QfP,i1,w1,w2,w3,w4,e1,i4,i3,h4]
end Go.Proofs.YtflbneepngjglaaGreatDoor
namespace Go.Proofs.YtflbneepngjglaaGreatDoor
open Go Go.Avm
theorem QnM (n:Nat): ∀(w p:Nat),p<w->(Wj n w)[p]? =some (if n/2^(w-1-p)%2=1 then 49 else 48)
 | 0,p,h=>by omega
 | w+1,0,_=>by rw[Wj]; simp
 | w+1,p+1,h=>by
  rw[Wj,List.getElem?_cons_succ,QnM n w p (by omega),show w+1-1-(p+1)=w-1-p by omega]
theorem Qwx (n w p:Nat)(h:p<w):ZD (Wj n w) p=n/2^(w-1-p)%2:=by
 unfold ZD;rw[QnM n w p h];have:=Nat.mod_lt (n/2^(w-1-p)) (show 2>0 by omega)
 by_cases q:n/2^(w-1-p)%2=1
 ·rw[if_pos q]; simp[q]
 ·rw[if_neg q,if_neg (by decide)]; omega
theorem Qll (n w a:Nat): ∀k,a+k<=w->Xk (Wj n w) a k=n/2^(w-a-k)%2^k
 | 0,_=>by rw[Xk]; simp[Nat.mod_one]
 | k+1,h=>by
  rw[Xk,Qll n w a k (by omega),Qwx n w (a+k) (by omega)]
  rw[show w-1-(a+k)=w-a-(k+1)by omega,show w-a-k=w-a-(k+1)+1 by omega,Nat.pow_succ,←Nat.div_div_eq_div_mul]
  generalize n/2^(w-a-(k+1))=x;rw[Nat.pow_succ,Nat.mul_comm (2^k) 2,Nat.mod_mul];omega
theorem QsE (n k:Nat):XV (Wj n (8*k))=(List.range k).map fun j=>((n/2^(8*(k-1-j))%256:Nat):Int):=by
 unfold XV;rw[Qel,show(8*k+7)/8=k by omega]
 refine List.map_congr_left fun j hj=>?_
 have hj:=List.mem_range.1 hj;rw[Qll n (8*k) (8*j) 8 (by omega),show 8*k-8*j-8=8*(k-1-j)by omega]
theorem Qku : ∀(i:Nat) (r:Int),i<(WC r).length->(WC r)[i]? =some (r/2/256^i%256)
 | i,r,h=>by
  by_cases q:r=0\/r= -1
  ·rw[Qcr q]at h; simp at h
  ·rw[Wi q]at h ⊢;cases i with
   | zero=>simp
   | succ i=>
    rw[List.getElem?_cons_succ,Qku i (r/256) (by simpa using h)]
    congr 2
    rw[Int.pow_succ,Int.mul_comm (256^i) 256,←Int.ediv_ediv_of_nonneg (by omega)]
    congr 1
    omega
theorem Qik : ∀(k:Nat) (r:Int),¬(-(256^k:Int)<=r/\r<256^k)->k<(WC r).length
 | 0,r,h=>by
  rw[Wi (by simp at h; omega)]; simp
 | k+1,r,h=>by
  rw[Int.pow_succ]at h;have hp:(0:Int)<256^k:=Int.pow_pos (by omega)
  generalize hx:(256:Int)^k=x at*;have q: ¬(r=0\/r= -1):=by omega
  rw[Wi q,List.length_cons];have:=Qik k (r/256) (by rw[hx]; omega)
  omega
theorem Qvw (n:Int)(i:Nat)(h:i<(Qah n).length):(Qah n)[i]? =some (n/256^i%256):=by
 unfold Qah at h ⊢;cases i with
 | zero=>simp
 | succ i=>
  rw[List.getElem?_cons_succ,Qku i (n/128) (by simpa using h)]
  congr 2
  rw[Int.pow_succ,Int.mul_comm (256^i) 256,←Int.ediv_ediv_of_nonneg (by omega)]
  congr 1
  omega
theorem QdS (k:Nat):(2:Nat)^(8*k)=256^k:=by rw[Nat.pow_mul]
theorem QhA (k:Nat)(h:1<=k):(2:Nat)^(8*k-1)=128*256^(k-1):=by
 rw[show 8*k-1=8*(k-1)+7 by omega,Nat.pow_add,QdS]
 omega
theorem QsN {n:Int}{k:Nat}(h:QlY n k):(Qah n).length=k:=by
 obtain⟨h1,h7,⟨r1,r2⟩,hm⟩:=h;rw[QhA k h1]at r1 r2;push_cast at r1 r2
 have a:(WC (n/128)).length<=k-1:=by
  refine Qfe (k-1) (n/128) ?_ ?_
  ·generalize (256:Int)^(k-1)=x at*; omega
  ·generalize (256:Int)^(k-1)=x at*; omega
 have b:k-1<=(WC (n/128)).length:=by
  rcases hm with rfl | hm
  ·omega
  ·by_cases q:k=1
   ·omega
   ·refine Nat.le_of_lt_succ (Nat.lt_succ_of_le ?_)
    have:=Qik (k-2) (n/128) (fun e=>hm (by
     unfold inK;rw[QhA (k-1) (by omega),show k-1-1=k-2 by omega]
     push_cast;generalize (256:Int)^(k-2)=x at*;omega))
    omega
 unfold Qah;rw[List.length_cons];omega
theorem Qsj (n:Int)(k i:Nat)(hi:i<k)(h1: -((2^(8*k-1):Nat):Int)<=n):((Qbq n (8*k)/2^(8*i)%256:Nat):Int)=n/256^i%256:=by
 have hm:((Qbq n (8*k):Nat):Int)=if n<0 then n+((2^(8*k):Nat):Int)else n:=by
  rw[QhA k (by omega)]at h1
  unfold Qbq;have:(2:Nat)^(8*k)=256*256^(k-1):=by rw[QdS]; conv=>lhs; rw[show k=k-1+1 by omega,Nat.pow_succ,Nat.mul_comm]
  rw[this];generalize 256^(k-1)=x at*;split<;>omega
 have e:((Qbq n (8*k)/256^i%256:Nat):Int)=((Qbq n (8*k):Nat):Int)/256^i%256:=by
  rw[Int.natCast_emod,Int.natCast_ediv,Int.natCast_pow]; rfl
 rw[QdS i,e,hm,QdS k];split
 ·have:((256^k:Nat):Int)=(256*256^(k-i-1))*256^i:=by
    rw[Int.natCast_pow,show((256:Nat):Int)=256 from rfl,←Int.pow_succ',←Int.pow_add]
    congr 1
    omega
  rw[this,Int.add_mul_ediv_right _ _ (Int.ne_of_gt (Int.pow_pos (by omega)))]
  omega
 ·rfl
theorem QxX {n:Int}{k:Nat}(h:QlY n k):XQ ⟨(Wj (Qbq n (8*k)) (8*k)).toArray⟩=QcM n:=by
 have hl:=QsN h;obtain⟨h1,h7,⟨r1,r2⟩,hm⟩:=h
 have he:XV (Wj (Qbq n (8*k)) (8*k))=(Qah n).reverse:=by
  rw[QsE];refine List.ext_getElem? fun j=>?_
  by_cases hj:j<k
  ·rw[List.getElem?_map,List.getElem?_range hj,List.getElem?_reverse (by omega),hl,Qvw n (k-1-j) (by omega)]
   simp only[Option.map_some];rw[Qsj n k (k-1-j) (by omega) r1]
  ·rw[List.getElem?_eq_none (by simp; omega),List.getElem?_eq_none (by simp; omega)]
 unfold XQ QcM;show(⟨((XV (Wj (Qbq n (8*k)) (8*k))).map fun x=>UInt8.ofNat x.toNat).toArray⟩:ByteArray)=_
 rw[he]
end Go.Proofs.YtflbneepngjglaaGreatDoor
namespace Go.Proofs.YtflbneepngjglaaGreatDoor
open Go Go.Avm
theorem QcJ (s:List UInt8)(i q:Nat):ZD (s.take i) q=if q<i then ZD s q else 0:=by
 unfold ZD;rw[List.getElem?_take]
 by_cases h:q<i
 ·rw[if_pos h,if_pos h]
 ·rw[if_neg h,if_neg h]; simp
theorem Qlj (s:List UInt8)(i a:Nat): ∀k,Xk (s.take (i+1)) a k=Xk (s.take i) a k+(if a<=i/\i<a+k then ZD s i*2^(a+k-1-i)else 0)
 | 0=>by simp[Xk]; intro h1 h2; omega
 | k+1=>by
  rw[Xk,Xk,Qlj s i a k,QcJ,QcJ];by_cases h1:a<=i/\i<a+k
  ·have c2: ¬a+k<i+1:=by omega
   have c3: ¬a+k<i:=by omega
   have c4:a<=i/\i<a+(k+1):=by omega
   rw[if_pos h1,if_neg c2,if_neg c3,if_pos c4,show a+(k+1)-1-i=a+k-1-i+1 by omega,Nat.pow_succ]
   generalize 2^(a+k-1-i)=x;have e:ZD s i*(x*2)=2*(ZD s i*x):=by rw[←Nat.mul_assoc,Nat.mul_comm]
   omega
  ·rw[if_neg h1];by_cases h2:i=a+k
   ·subst h2;have c2:a+k<a+k+1:=by omega
    have c3: ¬a+k<a+k:=by omega
    have c4:a<=a+k/\a+k<a+(k+1):=by omega
    rw[if_pos c2,if_neg c3,if_pos c4,show a+(k+1)-1-(a+k)=0 by omega]
    simp
   ·have c4: ¬(a<=i/\i<a+(k+1)):=by omega
    rw[if_neg c4];by_cases h3:a+k<i
    ·have c2:a+k<i+1:=by omega
     rw[if_pos c2,if_pos h3];omega
    ·have c2: ¬a+k<i+1:=by omega
     rw[if_neg c2,if_neg h3];omega
theorem Qlk (s:List UInt8)(i a:Nat)(ha:a<=i): ∀k,i<=a+k-> ∃y,Xk (s.take i) a k=y*2^(a+k-i)
 | 0,h=>⟨Xk (s.take i) a 0,by rw[show a+0-i=0 by omega]; simp⟩
 | k+1,h=>by
  by_cases q:i=a+(k+1)
  ·exact⟨Xk (s.take i) a (k+1),by rw[←q]; simp⟩
  ·obtain⟨y,hy⟩:=Qlk s i a ha k (by omega)
   refine⟨y,?_⟩
   rw[Xk,hy,QcJ,if_neg (by omega),show a+(k+1)-i=a+k-i+1 by omega,Nat.pow_succ]
   generalize 2^(a+k-i)=x;have e:y*(x*2)=2*(y*x):=by rw[←Nat.mul_assoc,Nat.mul_comm]
   omega
def YH (s:List UInt8)(n i:Nat):List Int:=(List.range n).map fun j=>((Xk (s.take i) (8*j) 8:Nat):Int)
theorem QsG (s:List UInt8):YH s ((s.length+7)/8) s.length=XV s:=by
 unfold YH XV;rw[List.take_length]
theorem Qqa (s:List UInt8)(n:Nat):YH s n 0=List.replicate n 0:=by
 unfold YH
 have: ∀a k,Xk (s.take 0) a k=0:=by
  intro a k
  induction k with
  | zero=>rfl
  | succ k ih=>rw[Xk,ih,QcJ,if_neg (by omega)]
 refine List.ext_getElem? fun j=>?_
 rw[List.getElem?_map,List.getElem?_replicate]
 by_cases h:j<n
 ·rw[List.getElem?_range h,if_pos h]; simp only[Option.map_some,this]; rfl
 ·rw[List.getElem?_eq_none (by simp; omega),if_neg h]; rfl
theorem QpZ (s:List UInt8)(n i:Nat):YH s n (i+1)=(YH s n i).set (i/8) (((Xk (s.take i) (8*(i/8)) 8+ZD s i*2^(7-i%8):Nat)):Int):=by
 unfold YH;refine List.ext_getElem? fun j=>?_
 by_cases h:j<n
 ·rw[List.getElem?_map,List.getElem?_range h]
  simp only[Option.map_some];rw[Qlj];by_cases q:i/8=j
  ·rw[q,List.getElem?_set_self (by simpa using h),if_pos (by omega),show 8*j+8-1-i=7-i%8 by omega]
  ·rw[List.getElem?_set_ne q,List.getElem?_map,List.getElem?_range h,if_neg (by omega)]
   rfl
 ·rw[List.getElem?_eq_none (by simp; omega),List.getElem?_eq_none (by simp; omega)]
theorem QzC (s:List UInt8)(i:Nat):(Xk (s.take i) (8*(i/8)) 8||| ZD s i*2^(7-i%8))=Xk (s.take i) (8*(i/8)) 8+ZD s i*2^(7-i%8):=by
 obtain⟨y,hy⟩:=Qlk s i (8*(i/8)) (by omega) 8 (by omega)
 rw[hy,show 8*(i/8)+8-i=7-i%8+1 by omega]
 have hb:=QmN s i
 have hlt:ZD s i*2^(7-i%8)<2^(7-i%8+1):=by
  rw[Nat.pow_succ];have hp:0<2^(7-i%8):=Nat.pow_pos (by omega)
  generalize 2^(7-i%8)=x at*;have:ZD s i*x<=1*x:=Nat.mul_le_mul_right x hb;omega
 have:=Nat.shiftLeft_add_eq_or_of_lt hlt y;rw[Nat.shiftLeft_eq]at this;exact this.symm
end Go.Proofs.YtflbneepngjglaaGreatDoor
