/- Numbers in bytes: both sides are the same. -/
import Derived.Test.YtflbneepngjglaaGreatDoorCards
import Derived.Test.YtflbneepngjglaaGreatDoorTie
import Derived.Test.YtflbneepngjglaaGreatDoorO30
import Derived.Test.YtflbneepngjglaaGreatDoorO25
import Derived.Test.YtflbneepngjglaaGreatDoorO27
set_option linter.all false
namespace Go.Proofs.YtflbneepngjglaaGreatDoor
open Go Go.Avm Go.RowKit Go.ChangeShapes Go.WideShapes Go.ChangeAt
theorem Qmv :(Rows.basicOnlyUptoRow.inPlace == Tryz.pinned.checked.prog.inPlace 7)=true:=by kernel_rfl
theorem Qmu :(Rows.basicOnlyUptoRow.unfollowed == Tryz.pinned.checked.prog.unfollowed 7)=true:=by kernel_rfl
theorem Qmt :(Rows.basicOnlyUptoRow.recurses == Tryz.pinned.checked.prog.recurses 7)=true:=by kernel_rfl
theorem Qms :(Rows.basicOnlyUptoRow.named == Tryz.pinned.checked.prog.varsNamed 7)=true:=by kernel_rfl
theorem Qmr :laidOutB Tryz.pinned.checked.prog=true:=by kernel_rfl
theorem Qmq :mapsRowed Tryz.pinned.checked.prog=true:=by kernel_rfl
theorem Qmp :Tryz.pinned.checked.prog.stopsHeard=true:=by kernel_rfl
theorem Qmo :Tryz.pinned.checked.prog.mayEnter=true:=by kernel_rfl
theorem Qmn :(Rows.basicOnlyUptoRow.lifted == Tryz.pinned.checked.prog.liftsFinal)=true:=by kernel_rfl
theorem Qjj :(Tryz.pinned.checked.prog.make == some Rows.basicOnlyUptoRow.make)=true:=by kernel_rfl
theorem Qji :(Rows.basicOnlyUptoRow.plainKeys == Tryz.pinned.checked.prog.plainKeys)=true:=by kernel_rfl
theorem QfG :joinedFacts Tryz.pinned.checked.prog 7 Tryz.f7 (Rows.OpenSpec.upto Rows.basicOnlySpec).bare Rows.basicOnlyUptoRow=true:=by
 unfold joinedFacts;simp only[Bool.and_eq_true]
 and_intros
 ·kernel_rfl
 ·exact Qmr
 ·exact Qmq
 ·kernel_rfl
 ·kernel_rfl
 ·kernel_rfl
 ·kernel_rfl
 ·kernel_rfl
 ·kernel_rfl
 ·exact Qmv
 ·exact Qmu
 ·exact Qmt
 ·exact Qms
 ·kernel_rfl
 ·kernel_rfl
 ·kernel_rfl
 ·kernel_rfl
 ·kernel_rfl
 ·kernel_rfl
 ·kernel_rfl
 ·kernel_rfl
 ·kernel_rfl
 ·exact Qji
 ·kernel_rfl
 ·exact Qmp
 ·exact Qmo
 ·exact Qmn
 ·exact Qjj
 ·kernel_rfl
 ·kernel_rfl
 ·kernel_rfl
 ·kernel_rfl
end Go.Proofs.YtflbneepngjglaaGreatDoor
namespace Go.Proofs.YtflbneepngjglaaGreatDoor
open Go Go.Avm
theorem wrap_u8 {n:Int}(h0:0<=n)(h1:n<256):IntKind.wrap .u8 n=n:=by
 simp[IntKind.wrap,IntKind.bits,IntKind.signed]; omega
theorem QmH (n:Nat):IntKind.wrap .u8 (n:Int)=(n%256:Nat):=by
 simp[IntKind.wrap,IntKind.bits,IntKind.signed]
def QpE (n:Nat):List UInt8:=if n<128 then [UInt8.ofNat n]else if n<256 then [129,UInt8.ofNat n]else [130,UInt8.ofNat (n/256%256),UInt8.ofNat (n%256)]
def Qnu (n:Nat):ByteArray:=⟨(QpE n).toArray⟩
theorem Qsv (n:Nat)(hn:n<4611686018427387904)(ws:Nat)(h:Avm.H):Qb cfg ws 176 [.int .i64 n] h=some (.str (Qnu n),h):=by
 refine Qc rfl rfl ?_
 unfold Qnu QpE;by_cases q1:n<128
 ·have i1:(n:Int)<128:=by omega
  have w1:IntKind.wrap .u8 (n:Int)=n:=wrap_u8 (by omega) (by omega)
  simp[Qya,QxL,q1,i1,w1,QS,Js]
 ·have i1: ¬(n:Int)<128:=by omega
  by_cases q2:n<256
  ·have i2:(n:Int)<256:=by omega
   have w1:IntKind.wrap .u8 (n:Int)=n:=wrap_u8 (by omega) (by omega)
   simp[Qya,QxL,q1,i1,q2,i2,w1,QS,Js]
  ·have i2: ¬(n:Int)<256:=by omega
   have hs:Int.fdiv (n:Int) 256=((n/256:Nat):Int):=by rw[Int.fdiv_eq_ediv_of_nonneg _ (by omega)]; omega
   have w1:IntKind.wrap .u8 ((n/256:Nat):Int)=((n/256%256:Nat):Int):=QmH _;have w2:=QmH n;simp[Qya,QxL,q1,i1,q2,i2,hs,w1,w2,QS,Js];refine⟨?_,?_⟩
   ·rw[show(2:Int)^min 8 IntKind.i64.bits=256 by decide,hs,w1,Int.toNat_natCast]
   ·congr 1
theorem Qbj (n:Int):IntKind.wrap .u8 n=n%256:=by simp[IntKind.wrap,IntKind.bits,IntKind.signed]
def QcU (n:Int):ByteArray:=⟨#[UInt8.ofNat (n%256).toNat]⟩
def elS (n:Int)(c:ByteArray):ByteArray:=QcU n++Qnu c.size++c
theorem Qkb (n:Nat):(Qnu n).size<=3:=by
 unfold Qnu QpE;split
 ·show 1<=3; omega
 ·split
  ·show 2<=3; omega
  ·show 3<=3; omega
theorem WR (n:Int):(QcU n).size=1:=rfl
theorem Jk (n:Int)(c:ByteArray):c.size<(elS n c).size/\(elS n c).size<=c.size+4:=by
 have:=Qkb c.size;unfold elS;simp only[ByteArray.size_append,WR];omega
theorem QhZ (n:Int)(c:ByteArray)(hc:c.size<4294967296)(ws:Nat)(h:Avm.H):Qb cfg ws 100 [.int .i64 n,.str c] h=some (.str (elS n c),h):=by
 have e1:=fun ws h=>Qsv c.size (by omega) ws h
 have w:=Qbj n;have l1:=Qkb c.size;have l2:=WR n;have g1:(QcU n).size+(Qnu c.size).size<=9223372036854775807:=by omega
 have g2:(QcU n).size+(Qnu c.size).size+c.size<=9223372036854775807:=by omega
 refine Qc rfl rfl ?_
 unfold elS;unfold QcU at*;simp[QDI,QCQ,w,QS,Js,e1,g1,g2]
end Go.Proofs.YtflbneepngjglaaGreatDoor
namespace Go.Proofs.YtflbneepngjglaaGreatDoor
open Go Go.Avm
theorem Qgy {γ:Type}{f:Env->Avm.H->Out}{keep:List Nat}(μ:γ->Nat)(I:γ->Prop)(S:γ->Env)(G:γ->Avm.H)(Qat:Ex×Env×Avm.H->Prop)
    (step: ∀c,I c-> ∀K:Env->Avm.H->Out,(∀c',I c'->μ c'<μ c-> ∃o,K (S c') (G c')=some o/\Qat o)-> ∃o,andThen (f ((S c).keep keep) (G c)) K=some o/\Qat o) (c:γ) (h0:I c): ∃o,Qa f keep (S c) (G c)=some o/\Qat o:=by
 have go: ∀n c,μ c<=n->I c-> ∃o,Qa f keep (S c) (G c)=some o/\Qat o:=by
  intro n
  induction n with
  | zero=>
   intro c hc hI;obtain⟨o,h1,h2⟩:=step c hI _ fun c' _ hlt=>by omega
   exact⟨o,Zo h1,h2⟩
  | succ n ih=>
   intro c hc hI;obtain⟨o,h1,h2⟩:=step c hI _ fun c' hI' hlt=>ih c' (by omega) hI'
   exact⟨o,Zo h1,h2⟩
 exact go _ c (Nat.le_refl _) h0
def hiL (n:Nat):List UInt8:=if n=0 then []else hiL (n/128)++ [UInt8.ofNat (n%128+128)]
termination_by n
decreasing_by omega
def QdQ (n:Nat):List UInt8:=hiL (n/128)++ [UInt8.ofNat (n%128)]
def Jg (n:Nat):ByteArray:=⟨(QdQ n).toArray⟩
theorem QbD :hiL 0=[]:=by rw[hiL]; simp
theorem QlD {n:Nat}(h:0<n):hiL n=hiL (n/128)++ [UInt8.ofNat (n%128+128)]:=by rw[hiL,if_neg (by omega)]
theorem QqY : ∀(k n:Nat),n<128^k->(hiL n).length<=k
 | 0,n,h=>by rw[show n=0 by simpa using h,QbD]; exact Nat.le_refl _
 | k+1,n,h=>by
  by_cases q:n=0
  ·rw[q,QbD]; exact Nat.zero_le _
  ·rw[QlD (by omega),List.length_append]
   have:=QqY k (n/128) (by rw[Nat.div_lt_iff_lt_mul (by omega)]; rw[Nat.pow_succ]at h; exact h)
   simp only[List.length_cons,List.length_nil];omega
theorem Qhk (n:Nat):n<4611686018427387904->(QdQ n).length<=10:=fun h=>by
 have:=QqY 9 (n/128) (by omega)
 unfold QdQ;simp only[List.length_append,List.length_cons,List.length_nil];omega
theorem Qbp (s:List UInt8):(⟨s.toArray⟩:ByteArray).size=s.length:=by simp[ByteArray.size]
theorem Qqt (n:Nat):Int.tdiv (n:Int) 128=((n/128:Nat):Int):=by rw[Int.tdiv_eq_ediv_of_nonneg (by omega)]; omega
theorem Qqs (n:Nat):Int.tmod (n:Int) 128=((n%128:Nat):Int):=by rw[Int.tmod_eq_emod_of_nonneg (by omega)]; omega
end Go.Proofs.YtflbneepngjglaaGreatDoor
namespace Go.Proofs.YtflbneepngjglaaGreatDoor
open Go Go.Avm
def mk8 (n:Int):AV:=.int .u8 n
def QiL {α:Type}(l c:List α)(k:Nat):Prop:=c.length=l.length/\ ∀p,p<l.length->c[p]? =if p<k\/l.length<=p+k then l[l.length-1-p]? else l[p]?
theorem QfP {α:Type}{l c:List α}{k:Nat}(h:QiL l c k)(hk:k<l.length-1-k){a b:α}(ha:c[k]? =some a)(hb:c[l.length-1-k]? =some b):QiL l ((c.set k b).set (l.length-1-k) a) (k+1):=by
 obtain⟨h1,h2⟩:=h;refine⟨by simp[h1],fun p hp=>?_⟩
 have ek:=h2 k (by omega)
 have ej:=h2 (l.length-1-k) (by omega)
 rw[if_neg (by omega)]at ek ej
 by_cases q1:p=l.length-1-k
 ·subst q1;rw[List.getElem?_set_self (by simp; omega),if_pos (by omega),show l.length-1-(l.length-1-k)=k by omega,←ek,ha]
 ·rw[List.getElem?_set_ne (fun e=>q1 e.symm)]
  by_cases q2:p=k
  ·subst q2;rw[List.getElem?_set_self (by omega),if_pos (by omega),←ej,hb]
  ·rw[List.getElem?_set_ne (fun e=>q2 e.symm),h2 p hp]
   by_cases q3:p<k\/l.length<=p+k
   ·rw[if_pos q3,if_pos (by omega)]
   ·rw[if_neg q3,if_neg (by omega)]
theorem QgZ {α:Type}{l c:List α}{k:Nat}(h:QiL l c k)(hk:l.length<=2*k+1):c=l.reverse:=by
 obtain⟨h1,h2⟩:=h;refine List.ext_getElem? fun p=>?_
 by_cases hp:p<l.length
 ·rw[h2 p hp,List.getElem?_reverse hp]
  split
  ·rfl
  ·congr 1; omega
 ·rw[List.getElem?_eq_none (by omega),List.getElem?_eq_none (by simp; omega)]
theorem Qpl (b ver:Nat)(l:List Int)(hn:l.length<=67108864)(ws:Nat)(H:Avm.H)(hb:H[b]? =some (.arr ver 1 (l.map mk8)))(hws:ws<=b):Qb cfg ws 242 [.osl b ver 1 0 l.length] H=some (.tup [],H.set b (.arr ver 1 (l.reverse.map mk8))):=by
 have hbl:=(List.getElem?_eq_some_iff.1 hb).1
 have hlp:=Qgy (γ:=Nat×List Int) (f:=evC (Qb cfg) Qa cfg.pol H.length ws Qmb) (keep:=[0,2,3]) (fun c=>l.length-c.1)
  (fun c=>QiL l c.2 c.1/\2*c.1<=l.length+1)
  (fun c=>[(0,.osl b ver 1 0 l.length),(2,.int .i64 c.1),(3,.int .i64 ((l.length:Int)-1-c.1))]) (fun c=>H.set b (.arr ver 1 (c.2.map mk8))) (fun o=>∃e,o=(.exit 0,e,H.set b (.arr ver 1 (l.reverse.map mk8)))) ?_ (0,l) ⟨⟨rfl,fun p hp=>by rw[if_neg (by omega)]⟩,by dsimp only; omega⟩
 ·obtain⟨o,h1,e,rfl⟩:=hlp
  have e0:H.set b (.arr ver 1 (l.map mk8))=H:=by
   refine List.ext_getElem? fun j=>?_
   by_cases e:b=j
   ·subst e; rw[List.getElem?_set_self hbl,hb]
   ·rw[List.getElem?_set_ne e]
  simp only[e0]at h1;have w:IntKind.wrap .i64 ((l.length:Int)-1)=(l.length:Int)-1:=QU (by omega) (by omega)
  refine Qc rfl rfl ?_
  simp at h1;simp[QCW,QCe,w,h1];exact List.take_of_length_le (by simp)
 ·intro c hI K hK;obtain⟨k,es⟩:=c;obtain⟨hT,hk2⟩:=hI;dsimp only at hT hk2;have hset: ∀X:Qq,(List.set H b X)[b]? =some X:=fun X=>List.getElem?_set_self hbl
  by_cases q:(k:Int)<(l.length:Int)-1-k
  ·have hj:(l.length:Int)-1-k=((l.length-1-k:Nat):Int):=by omega
   have hlen:=hT.1;have hkl:k<es.length:=by omega
   have hjl:l.length-1-k<es.length:=by omega
   have ga:=List.getElem?_eq_getElem hkl
   have gb:=List.getElem?_eq_getElem hjl
   obtain⟨o,h4,h5⟩:=hK (k+1,(es.set k es[l.length-1-k]).set (l.length-1-k) es[k]) ⟨QfP hT (by omega) ga gb,by dsimp only; omega⟩ (by dsimp only; omega)
   refine⟨o,?_,h5⟩
   have w1:=Qd (n:=k+1) (by omega)
   have w2:IntKind.wrap .i64 ((l.length-1-k:Nat)-1:Int)=((l.length-1-k:Nat):Int)-1:=QU (by omega) (by omega)
   have hj2:(l.length:Int)-1-((k+1:Nat):Int)=((l.length-1-k:Nat):Int)-1:=by omega
   dsimp only at h4 ⊢;rw[hj2]at h4;rw[hj]at q ⊢;have hkl2:k<l.length:=by omega
   have hjl2:l.length-1-k<l.length:=by omega
   generalize l.length-1-k=j at*;generalize hx:es[k]=x at h4;generalize hy:es[j]=y at h4;unfold mk8 at*;have hkj: ¬k=j:=by omega
   simp at h4 w1;simp[Qmb,q,hset,hkl2,hjl2,hkl,hjl,w1,w2,hws,hlen,hx,hy,List.map_set,List.getElem_set,hkj,h4]
  ·refine⟨(.exit 0,[(0,.osl b ver 1 0 l.length),(2,.int .i64 k),(3,.int .i64 ((l.length:Int)-1-k))],H.set b (.arr ver 1 (es.map mk8))),?_,_,by rw[←QgZ hT (by omega)]⟩
   simp[Qmb,q]
end Go.Proofs.YtflbneepngjglaaGreatDoor
namespace Go.Proofs.YtflbneepngjglaaGreatDoor
open Go Go.Avm
theorem QcB : ∀l:List Int,Js (l.map mk8)=some (l.map fun x=>UInt8.ofNat x.toNat)
 | []=>rfl
 | x::l=>by
  show(match Js (l.map mk8)with | some r=>some (UInt8.ofNat x.toNat::r) | none=>none)=_
  rw[QcB l]; rfl
theorem Qhj (n:Nat)(hn:n<4611686018427387904)(ws:Nat)(h:Avm.H):Qb cfg ws 179 [.int .i64 n] h=some (.str (Jg n),h):=by
 have hw: ∀m:Nat,m<4611686018427387904->IntKind.wrap .i64 (m:Int)=m:=fun m hm=>Qd (by omega)
 have hlp:=Qgy (γ:=Nat×Nat×List Int×Avm.H) (f:=evC (Qb cfg) Qa cfg.pol h.length h.length Qmc) (keep:=[0,3]) (fun c=>c.1)
  (fun c=>c.1<4611686018427387904/\c.2.2.1.length=c.2.1+1/\hiL c.1++(c.2.2.1.reverse.map fun x=>UInt8.ofNat x.toNat)=QdQ n)
  (fun c=>[(0,.int .i64 c.1),(3,.osl h.length c.2.1 1 0 (c.2.1+1))]) (fun c=>h++([.arr c.2.1 1 (c.2.2.1.map mk8)]++c.2.2.2))
  (fun o=>∃(k:Nat) (bs:List Int) (g:Avm.H),bs.length=k+1/\(bs.reverse.map fun x=>UInt8.ofNat x.toNat)=QdQ n/\o=(.exit 0,[(0,.int .i64 (0:Nat)),(3,.osl h.length k 1 0 (k+1))],h++([.arr k 1 (bs.map mk8)]++g))) ?_ (n/128,0,[(n%128:Nat)],[]) ⟨by dsimp only; omega,rfl,by simp[QdQ,show((n:Int)%128).toNat=n%128 by omega]⟩
 ·obtain⟨o,h1,k,bs,g,hbl,hbs,rfl⟩:=hlp;have hsl:=Qhk n hn;have hk:k<=10:=by have:=congrArg List.length hbs; simp at this; omega
  have w1:IntKind.wrap .u8 ((n%128:Nat):Int)=((n%128:Nat):Int):=wrap_u8 (by omega) (by omega)
  have w2:=hw (n/128) (by omega)
  have e2:=fun ws=>Qpl h.length k bs (by omega) ws (h++([.arr k 1 (bs.map mk8)]++g))
  rw[hbl]at e2;have hby:=QcB bs.reverse;rw[hbs]at hby;refine Qc rfl rfl ?_
  unfold mk8 at*;have htk:List.take (k+1) (List.map (fun n=>AV.int .u8 n) bs).reverse=(List.map (fun n=>AV.int .u8 n) bs).reverse:=List.take_of_length_le (by simp; omega)
  simp at h1 w1 w2 e2 hby;simp[QDi,QCq,QS,Js,Qqt,Qqs,w1,w2,h1,e2,hbl,htk,hby,Jg,show((n:Int)%128).toNat=n%128 by omega]
 ·intro c hI K hK;obtain⟨a,k,bs,g⟩:=c;obtain⟨hI1,hI2,hI3⟩:=hI;dsimp only at hI1 hI2 hI3;by_cases q:a=0
  ·subst q;rw[QbD,List.nil_append]at hI3;refine⟨_,?_,k,bs,g,hI2,hI3,rfl⟩
   simp[Qmc]
  ·have he:=QlD (n:=a) (by omega)
   have hsl:=Qhk n hn;have hk:k<=10:=by have:=congrArg List.length hI3; simp at this; omega
   obtain⟨o,h4,h5⟩:=hK (a/128,k+1,bs++ [((a%128+128:Nat):Int)],g++ [.arr 0 1 [.int .u8 (a%128+128:Nat)]]) ⟨by dsimp only; omega,by dsimp only; simp[hI2],by dsimp only; rw[←hI3,he]; simp[show((a:Int)%128+128).toNat=a%128+128 by omega]⟩ (by dsimp only; omega)
   refine⟨o,?_,h5⟩
   have i1:0<a:=by omega
   have w1:IntKind.wrap .u8 ((128+a%128:Nat):Int)=((a%128+128:Nat):Int):=by rw[show 128+a%128=a%128+128 by omega]; exact wrap_u8 (by omega) (by omega)
   have w2:=hw (a/128) (by omega)
   have w3:=hw (a%128) (by omega)
   have w4:=hw (128+a%128) (by omega)
   have hfl:k+1+1<=4294967296:=by omega
   unfold mk8 at*;simp at h4 w1 w2 w3 w4;simp[Qmc,i1,QS,appended,Ju,Qqt,Qqs,w1,w2,w3,w4,hI2,hfl,h4]
end Go.Proofs.YtflbneepngjglaaGreatDoor
namespace Go.Proofs.YtflbneepngjglaaGreatDoor
open Go Go.Avm
theorem QyS (B b ver:Nat)(l:List Int)(hn:l.length<=67108864)(H:Avm.H)(hb:H[b]? =some (.arr ver 1 (l.map mk8)))(hB:B<=b):
    ∃i j:Int,Qa (evC (Qb cfg) Qa cfg.pol B B Qit) [4,6,7] [(4,.osl b ver 1 0 l.length),(6,.int .i64 (0:Nat)),(7,.int .i64 ((l.length:Int)-1))] H=some (.exit 2,[(4,.osl b ver 1 0 l.length),(6,.int .i64 i),(7,.int .i64 j)],H.set b (.arr ver 1 (l.reverse.map mk8))):=by
 have hbl:=(List.getElem?_eq_some_iff.1 hb).1
 have hlp:=Qgy (γ:=Nat×List Int) (f:=evC (Qb cfg) Qa cfg.pol B B Qit) (keep:=[4,6,7]) (fun c=>l.length-c.1)
  (fun c=>QiL l c.2 c.1/\2*c.1<=l.length+1)
  (fun c=>[(4,.osl b ver 1 0 l.length),(6,.int .i64 c.1),(7,.int .i64 ((l.length:Int)-1-c.1))]) (fun c=>H.set b (.arr ver 1 (c.2.map mk8))) (fun o=>∃i j:Int,o=(.exit 2,[(4,.osl b ver 1 0 l.length),(6,.int .i64 i),(7,.int .i64 j)],H.set b (.arr ver 1 (l.reverse.map mk8)))) ?_ (0,l) ⟨⟨rfl,fun p hp=>by rw[if_neg (by omega)]⟩,by dsimp only; omega⟩
 ·obtain⟨o,h1,i,j,rfl⟩:=hlp
  have e0:H.set b (.arr ver 1 (l.map mk8))=H:=by
   refine List.ext_getElem? fun j=>?_
   by_cases e:b=j
   ·subst e; rw[List.getElem?_set_self hbl,hb]
   ·rw[List.getElem?_set_ne e]
  simp only[e0]at h1;refine⟨i,j,?_⟩
  simpa using h1
 ·intro c hI K hK;obtain⟨k,es⟩:=c;obtain⟨hT,hk2⟩:=hI;dsimp only at hT hk2;have hset: ∀X:Qq,(List.set H b X)[b]? =some X:=fun X=>List.getElem?_set_self hbl
  by_cases q:(k:Int)<(l.length:Int)-1-k
  ·have hj:(l.length:Int)-1-k=((l.length-1-k:Nat):Int):=by omega
   have hlen:=hT.1;have hkl:k<es.length:=by omega
   have hjl:l.length-1-k<es.length:=by omega
   have ga:=List.getElem?_eq_getElem hkl
   have gb:=List.getElem?_eq_getElem hjl
   obtain⟨o,h4,h5⟩:=hK (k+1,(es.set k es[l.length-1-k]).set (l.length-1-k) es[k]) ⟨QfP hT (by omega) ga gb,by dsimp only; omega⟩ (by dsimp only; omega)
   refine⟨o,?_,h5⟩
   have w1:=Qd (n:=k+1) (by omega)
   have w2:IntKind.wrap .i64 ((l.length-1-k:Nat)-1:Int)=((l.length-1-k:Nat):Int)-1:=QU (by omega) (by omega)
   have hj2:(l.length:Int)-1-((k+1:Nat):Int)=((l.length-1-k:Nat):Int)-1:=by omega
   dsimp only at h4 ⊢;rw[hj2]at h4;rw[hj]at q ⊢;have hkl2:k<l.length:=by omega
   have hjl2:l.length-1-k<l.length:=by omega
   generalize l.length-1-k=j at*;generalize hx:es[k]=x at h4;generalize hy:es[j]=y at h4;unfold mk8 at*;have hkj: ¬k=j:=by omega
   have hBn: ¬b<B:=by omega
   simp at h4 w1;simp[Qit,q,hset,hkl2,hjl2,hkl,hjl,w1,w2,hB,hBn,hlen,hx,hy,List.map_set,List.getElem_set,hkj,h4]
  ·refine⟨(.exit 2,[(4,.osl b ver 1 0 l.length),(6,.int .i64 k),(7,.int .i64 ((l.length:Int)-1-k))],H.set b (.arr ver 1 (es.map mk8))),?_,_,_,by rw[←QgZ hT (by omega)]⟩
   simp[Qit,q]
end Go.Proofs.YtflbneepngjglaaGreatDoor
namespace Go.Proofs.YtflbneepngjglaaGreatDoor
open Go Go.Avm
def QcJ (r:Int):List Int:=if r=0\/r= -1 then []else(r/2%256)::QcJ (r/256)
termination_by r.natAbs
decreasing_by omega
def Wa (n:Int):List Int:=(n%256)::QcJ (n/128)
def Qnh (n:Int):ByteArray:=⟨((Wa n).reverse.map fun x=>UInt8.ofNat x.toNat).toArray⟩
theorem YK {r:Int}(h:r=0\/r= -1):QcJ r=[]:=by rw[QcJ,if_pos h]
theorem QaH {r:Int}(h: ¬(r=0\/r= -1)):QcJ r=(r/2%256)::QcJ (r/256):=by rw[QcJ,if_neg h]
theorem QjT : ∀(k:Nat) (r:Int),-(256^k:Int)<=r->r<256^k->(QcJ r).length<=k
 | 0,r,h0,h1=>by
  rw[YK (by simp at h0 h1; omega)]; exact Nat.le_refl _
 | k+1,r,h0,h1=>by
  by_cases q:r=0\/r= -1
  ·rw[YK q]; exact Nat.zero_le _
  ·rw[QaH q,List.length_cons];rw[Int.pow_succ]at h0 h1;have:=QjT k (r/256) (by omega) (by omega)
   omega
theorem Qnj (n:Int)(h0: -1000000000000000<=n)(h1:n<=1000000000000000):(Wa n).length<=8:=by
 have:=QjT 7 (n/128) (by simp; omega) (by simp; omega)
 unfold Wa;simp only[List.length_cons];omega
theorem Qsm (n:Int)(h0: -1000000000000000<=n)(h1:n<=1000000000000000)(ws:Nat)(h:Avm.H):Qb cfg ws 177 [.int .i64 n] h=some (.tup [.str (Qnh n),.int .i64 0],h):=by
 have hlen:=Qnj n h0 h1
 have hlp:=Qgy (γ:=Int×Nat×List Int×Avm.H) (f:=evC (Qb cfg) Qa cfg.pol h.length h.length Qme) (keep:=[4,5]) (fun c=>c.1.natAbs)
  (fun c=>c.2.2.1.length=c.2.1+1/\c.2.2.1++QcJ c.1=Wa n)
  (fun c=>[(4,.osl h.length c.2.1 1 0 (c.2.1+1)),(5,.int .i64 c.1)]) (fun c=>h++([.arr c.2.1 1 (c.2.2.1.map mk8)]++c.2.2.2))
  (fun o=>∃(k:Nat) (r:Int) (g:Avm.H),(Wa n).length=k+1/\o=(.exit 0,[(4,.osl h.length k 1 0 (k+1)),(5,.int .i64 r)],h++([.arr k 1 ((Wa n).map mk8)]++g))) ?_ (n/128,0,[n%256],[]) ⟨rfl,rfl⟩
 ·obtain⟨o,hl,k,r,g,hk,rfl⟩:=hlp;have e2:=QyS h.length h.length k (Wa n) (by omega) (h++([.arr k 1 ((Wa n).map mk8)]++g)) (by simp) (Nat.le_refl _)
  obtain⟨i,j,e2⟩:=e2;rw[hk]at e2;have hby:=QcB (Wa n).reverse;have hf:Int.fdiv n 128=n/128:=Int.fdiv_eq_ediv_of_nonneg _ (by omega)
  have w:=Qbj n;have hk2:((k+1:Nat):Int)-1=(k:Int):=by omega
  have w2:IntKind.wrap .i64 ((k:Int)+1-1)=(k:Int):=by rw[show(k:Int)+1-1=k by omega]; exact Qd (by omega)
  have w3:IntKind.wrap .i64 (k:Int)=(k:Int):=Qd (by omega)
  rw[hk2]at e2;have i0: ¬n< -1000000000000000:=by omega
  have i1: ¬1000000000000000<n:=by omega
  refine Qc rfl rfl ?_
  unfold Qnh;have hlr:((Wa n).reverse.map mk8).length=k+1:=by simp[hk]
  have htk:List.take (k+1) ((Wa n).reverse.map mk8)=(Wa n).reverse.map mk8:=List.take_of_length_le (by omega)
  generalize hx:(Wa n).reverse.map mk8=els at*;generalize hy:(Wa n).map mk8=els0 at*;unfold mk8 at hl;simp at hl e2;simp[QDk,QCs,i0,i1,w,QS,hf,show(2:Int)^min 7 IntKind.i64.bits=128 by decide,hl,w2,w3,e2,hlr,htk,hby]
 ·intro c hI K hK;obtain⟨r,k,bs,g⟩:=c;obtain⟨hI1,hI2⟩:=hI;dsimp only at hI1 hI2;have hbl:=congrArg List.length hI2;rw[List.length_append]at hbl;by_cases q:r=0\/r= -1
  ·rw[YK q,List.append_nil]at hI2;refine⟨_,?_,k,r,g,by rw[←hI2]; exact hI1,rfl⟩
   rw[←hI2];rcases q with rfl | rfl<;>simp[Qme]
  ·obtain⟨o,h4,h5⟩:=hK (r/256,k+1,bs++ [r/2%256],g++ [.arr 0 1 [mk8 (r/2%256)]]) ⟨by dsimp only; simp[hI1],by dsimp only; rw[←hI2,QaH q]; simp⟩ (by dsimp only; omega)
   refine⟨o,?_,h5⟩
   have q0: ¬r=0:=fun e=>q (.inl e)
   have q1: ¬r= -1:=fun e=>q (.inr e)
   have f1:Int.fdiv r 2=r/2:=Int.fdiv_eq_ediv_of_nonneg _ (by omega)
   have f2:Int.fdiv r 256=r/256:=Int.fdiv_eq_ediv_of_nonneg _ (by omega)
   have w:=Qbj (r/2);have hfl:k+1+1<=4294967296:=by omega
   unfold mk8 at*;simp at h4;simp[Qme,q0,q1,QS,appended,Ju,show(2:Int)^min 1 IntKind.i64.bits=2 by decide,show(2:Int)^min 8 IntKind.i64.bits=256 by decide,f1,f2,w,hI1,hfl,h4]
end Go.Proofs.YtflbneepngjglaaGreatDoor
namespace Go.Proofs.YtflbneepngjglaaGreatDoor
open Go Go.Avm
structure Bld (H:Avm.H) (B:Nat) (q:AV) (s:ByteArray):Prop where
 buf:H[B]? =some (.buf 5 s)
 box:H[B+1]? =some (.arr 0 2 [.agg [q,JP B s.size]])
 tyd:H[B+2]? =some (.tyd (B+1) 0 111 2)
 own:q= .nilp\/q= .ptr (B+1) 0 2 0 0
def Yr (B:Nat):AV:=.ptr (B+1) 0 2 0 0
def Qmk (B:Nat)(s:ByteArray):Qq:=.arr 0 2 [.agg [.ptr (B+1) 0 2 0 0,JP B s.size]]
theorem Qnl (v:AV)(ws:Nat)(h:Avm.H):Qb cfg ws 249 [v] h=some (v,h):=QN rfl rfl
theorem QlO {H:Avm.H}{B:Nat}{q:AV}{s:ByteArray}(h:Bld H B q s)(ws:Nat)(hw:ws<=B):Qb cfg ws 194 [Yr B] H=some (.tup [],H.set (B+1) (Qmk B s)):=by
 obtain⟨h0,h1,h2,h3⟩:=h;have e1:=fun v ws h=>Qnl v ws h
 obtain⟨hl,g1⟩:=List.getElem?_eq_some_iff.1 h1
 have htl: ∀X:Qq,(List.set H (B+1) X).take H.length=List.set H (B+1) X:=fun X=>List.take_of_length_le (by simp)
 have hw1:ws<=B+1:=by omega
 have hnl: ¬H.length<=B+1:=by omega
 have hmx:B+1+1<=max (JP B s.size).top (B+1+1):=Nat.le_max_right _ _;refine Qc rfl rfl ?_
 unfold Qmk Yr;rcases h3 with rfl | rfl
 ·simp[QAx,QzU,g1,h2,e1,hw1,hnl,hl,htl,hmx]
 ·have e0:H.set (B+1) (.arr 0 2 [.agg [.ptr (B+1) 0 2 0 0,JP B s.size]])=H:=by
    refine List.ext_getElem? fun j=>?_
    by_cases e:B+1=j
    ·subst e; rw[List.getElem?_set_self hl,h1]
    ·rw[List.getElem?_set_ne e]
  rw[e0];simp[QAx,QzU,h1,h2,e1,hw1,hnl]
theorem QnH (base n:Nat)(h:Avm.H):frz base n .nili h=some (.nili,h):=Jj rfl
theorem QdF {H:Avm.H}{B:Nat}{q:AV}{s:ByteArray}(h:Bld H B q s)(t:ByteArray)(ht:s.size+t.size<=4294967296)(ws:Nat)(hw:ws<=B):Qb cfg ws 120 [Yr B,.str t] H=some (.tup [.int .i64 t.size,.nili],(H.set B (.buf 5 (s++t))).set (B+1) (Qmk B (s++t))):=by
 have e1:=fun ws hw=>QlO h ws hw
 obtain⟨h0,h1,h2,h3⟩:=h;obtain⟨hl,g1⟩:=List.getElem?_eq_some_iff.1 h1
 obtain⟨hl0,g0⟩:=List.getElem?_eq_some_iff.1 h0
 have hw1:ws<=B+1:=by omega
 have hnl: ¬H.length<=B+1:=by omega
 have hnl0: ¬H.length<=B:=by omega
 have a1: ∀X:Qq,(List.set H (B+1) X)[B+1]? =some X:=fun X=>List.getElem?_set_self hl
 have a0: ∀X:Qq,(List.set H (B+1) X)[B]? =some (.buf 5 s):=fun X=>by rw[List.getElem?_set_ne (by omega)]; exact h0
 have b1: ∀X Y:Qq,(List.set (List.set H (B+1) X) B Y)[B+1]? =some X:=fun X Y=>by rw[List.getElem?_set_ne (by omega)]; exact a1 X
 have b2: ∀X Y Z:Qq,List.set (List.set (List.set H (B+1) X) B Y) (B+1) Z=List.set (List.set H B Y) (B+1) Z:=fun X Y Z=>by
  have e:List.set (List.set H (B+1) X) B Y=List.set (List.set H B Y) (B+1) X:=List.set_comm X Y (by omega)
  rw[e,List.set_set]
 have b3: ∀Y Z:Qq,(List.set (List.set H B Y) (B+1) Z).take H.length=List.set (List.set H B Y) (B+1) Z:=fun Y Z=>List.take_of_length_le (by simp)
 have hfz: ∀n X,frz H.length 8 (JP B n) X=some (JP B n,X):=fun n X=>by
  unfold JP;split
  ·simp[frz,hl0]
  ·simp[hl0]
 have hif: ∀(x y:Option (AV×Avm.H)),(if B+1<H.length then x else y)=x:=fun x y=>if_pos hl
 have htz:t.size<=4294967296:=by omega
 have hmx: ∀n,(JP B n).top<=B+1:=fun n=>by unfold JP; split<;>simp[AV.top]
 have hm4: ∀n,(JP B n).top<=B+1+1:=fun n=>Nat.le_trans (hmx n) (by omega)
 refine Qc rfl rfl ?_
 unfold Qmk Yr at*;by_cases q0:s.size=0
 ·have hB:JP B s.size= .nbuf B:=by unfold JP; rw[if_pos q0]
  rw[hB]at e1;simp[QAC,QAh,e1,hw,hw1,hnl,hnl0,a1,a0,b1,b2,b3,htz,hfz,hif,hm4,QnH,q0]
 ·have hB:JP B s.size= .osl B s.size 1 0 s.size:=by unfold JP; rw[if_neg q0]
  rw[hB]at e1;simp[QAC,QAh,e1,hw,hw1,hnl,hnl0,a1,a0,b1,b2,b3,ht,hfz,hif,hm4,QnH,q0]
theorem Bld.wrote{H:Avm.H}{B:Nat}{q:AV}{s:ByteArray}(h:Bld H B q s)(t:ByteArray):Bld ((H.set B (.buf 5 (s++t))).set (B+1) (Qmk B (s++t))) B (.ptr (B+1) 0 2 0 0) (s++t):=by
 obtain⟨h0,h1,h2,h3⟩:=h;have hl:=(List.getElem?_eq_some_iff.1 h1).1
 have hl0:=(List.getElem?_eq_some_iff.1 h0).1
 refine⟨?_,?_,?_,.inr rfl⟩
 ·rw[List.getElem?_set_ne (by omega),List.getElem?_set_self hl0]
 ·rw[List.getElem?_set_self (by simpa using hl)]; rfl
 ·rw[List.getElem?_set_ne (by omega),List.getElem?_set_ne (by omega)]; exact h2
theorem QaV {H:Avm.H}{B:Nat}{q:AV}{s:ByteArray}(h:Bld H B q s)(hs:s.size<=4294967296)(ws:Nat)(hw:ws<=B): ∃H',Qb cfg ws 64 [Yr B] H=some (.str s,H'):=by
 obtain⟨h0,h1,h2,h3⟩:=h;obtain⟨hl,g1⟩:=List.getElem?_eq_some_iff.1 h1
 obtain⟨hl0,g0⟩:=List.getElem?_eq_some_iff.1 h0
 unfold Yr;by_cases q0:s.size=0
 ·have es:s=⟨#[]⟩:=by apply ByteArray.ext; exact Array.eq_empty_of_size_eq_zero q0
  subst es;refine⟨H,Qc rfl rfl ?_⟩
  simp[F64,c64,h1,JP,show(⟨#[]⟩:ByteArray)=ByteArray.empty from rfl]
 ·refine⟨H.set B (.dead (s.size+1)),Qc rfl rfl ?_⟩
  have hs':(s.size:Int)<=4294967296:=by omega
  have htl: ∀X:Qq,(List.set H B X).take H.length=List.set H B X:=fun X=>List.take_of_length_le (by simp)
  simp[F64,c64,h1,h0,JP,q0,hw,hs',htl]
end Go.Proofs.YtflbneepngjglaaGreatDoor
namespace Go.Proofs.YtflbneepngjglaaGreatDoor
open Go Go.Avm
def ZA (s:List UInt8)(i:Nat):Nat:=if s[i]? =some 49 then 1 else 0
def Xs (s:List UInt8)(at_:Nat):Nat->Nat
 | 0=>0
 | k+1=>2*Xs s at_ k+ZA s (at_+k)
theorem Qeq (s:List UInt8)(i:Nat):ZA s i<=1:=by unfold ZA; split<;>omega
theorem QiD (s:List UInt8)(a:Nat): ∀k,Xs s a k<2^k
 | 0=>by simp[Xs]
 | k+1=>by have:=QiD s a k; have:=Qeq s (a+k); rw[Xs,Nat.pow_succ]; omega
def Yy (s:List UInt8):List Int:=(List.range ((s.length+7)/8)).map fun j=>((Xs s (8*j) 8:Nat):Int)
def Jb (s:ByteArray):ByteArray:=⟨((Yy s.data.toList).map fun x=>UInt8.ofNat x.toNat).toArray⟩
theorem Qch (s:List UInt8):(Yy s).length=(s.length+7)/8:=by simp[Yy]
theorem QjP (s:List UInt8){k:Nat}(hk:k<(s.length+7)/8):(Yy s)[k]? =some ((Xs s (8*k) 8:Nat):Int):=by
 unfold Yy;rw[List.getElem?_map,List.getElem?_range hk]; rfl
end Go.Proofs.YtflbneepngjglaaGreatDoor
namespace Go.Proofs.YtflbneepngjglaaGreatDoor
open Go Go.Avm
end Go.Proofs.YtflbneepngjglaaGreatDoor
namespace Go.Proofs.YtflbneepngjglaaGreatDoor
open Go Go.Avm
end Go.Proofs.YtflbneepngjglaaGreatDoor
