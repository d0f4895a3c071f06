/- Whether a value fits a type: the program. -/
import Derived.Test.YtflbneepngjglaaGreatDoorE37
set_option linter.all false
namespace Go.Proofs.YtflbneepngjglaaGreatDoor
open Go Go.Avm
theorem Qyt {c:UInt8}(h:d01 c=true):(c.toNat:Int)=48\/(c.toNat:Int)=49:=by
 unfold d01 byI at h;simp only[Bool.or_eq_true,decide_eq_true_eq]at h;exact h
theorem Qsk (s:ByteArray)(hs:s.size<=32000)(h01:s.data.toList.all d01=true)(ws:Nat)(h:Avm.H):Qb cfg ws 185 [.str s] h=some (.bool true,h):=by
 have hsl:s.data.toList.length=s.size:=Array.length_toList
 have hlp:=QaS (f:=evC (Qb cfg) Qa cfg.pol h.length h.length QiY) (keep:=[0,3]) s.size (fun i=>[(0,.str s),(3,.int .i64 i)]) (fun _=>h)
  (fun _=>(.exit 0,[(0,.str s),(3,.int .i64 s.size)],h)) ?_ ?_
 ·have i1: ¬32000<(s.size:Int):=by omega
  refine Qc rfl rfl ?_
  simp at hlp;simp[QEj,QDj,i1,hlp]
 ·intro i hi K hK;have hil:i<s.data.toList.length:=by omega
  have hb:=Qyt (List.all_eq_true.1 h01 _ (List.getElem_mem hil));rw[Array.getElem_toList hi]at hb;have w5:IntKind.wrap .i64 ((i:Int)+1)=(i:Int)+1:=Qo (by omega) (by omega)
  simp at hK;rcases hb with hb | hb
  ·simp[QiY,hi,hb,w5,hK]
  ·simp[QiY,hi,hb,w5,hK]
 ·intro K;simp[QiY]
theorem Qvg (s:ByteArray)(hs:s.size<=32000)(h01:s.data.toList.all d01=true)(ws:Nat)(h:Avm.H):Qb cfg ws 105 [.str s] h=some (.tup [.str (XQ s),.int .i64 0],h):=by
 have e1:=fun ws h=>Qsk s hs h01 ws h
 have e2:=fun ws h=>Qnl s (by omega) ws h
 refine Qc rfl rfl ?_
 simp[QEP,QDP,e1,e2]
def QaP (n:Nat):Nat:=8*((n+7)/8)-n
theorem QzS (n:Nat)(hn:n<=32000)(ws:Nat)(h:Avm.H):Qb cfg ws 106 [.int .i64 (-(n:Int)),.int .i64 8] h=some (.int .i64 (QaP n),h):=by
 have hm:Int.tmod (-(n:Int)) 8= -((n%8:Nat):Int):=by rw[Int.neg_tmod,Int.tmod_eq_emod_of_nonneg (by omega)]; omega
 have w:IntKind.wrap .i64 (-((n%8:Nat):Int)+8)= -((n%8:Nat):Int)+8:=Qo (by omega) (by omega)
 unfold QaP;refine Qc rfl rfl ?_
 by_cases q:n%8=0
 ·have e:8*((n+7)/8)-n=0:=by omega
  rw[q]at hm;simp at hm;simp[QBy,QBd,hm,e]
 ·have e:((8*((n+7)/8)-n:Nat):Int)= -((n%8:Nat):Int)+8:=by omega
  rw[e];have i1: -((n%8:Nat):Int)<0:=by omega
  generalize n%8=m at*;simp at hm i1;simp[QBy,QBd,hm,i1,w]
def ZN (k:Int):Int:=if k=0 then 5 else if k=1 then 1 else if k=2 then 2 else if k=3 then 10 else if k=4 then 4 else if k=5 then 3 else if k=6 then 6 else if k=7 then 48 else if k=8 then 49 else if k=9 then 160 else 8
theorem QCe (ws:Nat)(h:Avm.H):Qb cfg ws 99 [.int .i64 0] h=some (.int .i64 5,h):=by
 refine Qc rfl rfl ?_
 simp[F99,c99,QN]
theorem QwY (ws:Nat)(h:Avm.H):Qb cfg ws 103 [.int .i64 0] h=some (.int .i64 5,h):=by
 refine Qc rfl rfl ?_
 simp[QgQ,QgE]
theorem QCd (ws:Nat)(h:Avm.H):Qb cfg ws 99 [.int .i64 1] h=some (.int .i64 1,h):=by
 refine Qc rfl rfl ?_
 simp[F99,c99,QN]
theorem QwX (ws:Nat)(h:Avm.H):Qb cfg ws 103 [.int .i64 1] h=some (.int .i64 1,h):=by
 refine Qc rfl rfl ?_
 simp[QgQ,QgE]
theorem QCc (ws:Nat)(h:Avm.H):Qb cfg ws 99 [.int .i64 2] h=some (.int .i64 2,h):=by
 refine Qc rfl rfl ?_
 simp[F99,c99,QN]
theorem QwW (ws:Nat)(h:Avm.H):Qb cfg ws 103 [.int .i64 2] h=some (.int .i64 2,h):=by
 refine Qc rfl rfl ?_
 simp[QgQ,QgE]
theorem QCb (ws:Nat)(h:Avm.H):Qb cfg ws 99 [.int .i64 3] h=some (.int .i64 10,h):=by
 refine Qc rfl rfl ?_
 simp[F99,c99,QN]
theorem QwV (ws:Nat)(h:Avm.H):Qb cfg ws 103 [.int .i64 3] h=some (.int .i64 10,h):=by
 refine Qc rfl rfl ?_
 simp[QgQ,QgE]
theorem QCa (ws:Nat)(h:Avm.H):Qb cfg ws 99 [.int .i64 4] h=some (.int .i64 4,h):=by
 refine Qc rfl rfl ?_
 simp[F99,c99,QN]
theorem QwU (ws:Nat)(h:Avm.H):Qb cfg ws 103 [.int .i64 4] h=some (.int .i64 4,h):=by
 refine Qc rfl rfl ?_
 simp[QgQ,QgE]
theorem QBZ (ws:Nat)(h:Avm.H):Qb cfg ws 99 [.int .i64 5] h=some (.int .i64 3,h):=by
 refine Qc rfl rfl ?_
 simp[F99,c99,QN]
theorem QwT (ws:Nat)(h:Avm.H):Qb cfg ws 103 [.int .i64 5] h=some (.int .i64 3,h):=by
 refine Qc rfl rfl ?_
 simp[QgQ,QgE]
theorem QBY (ws:Nat)(h:Avm.H):Qb cfg ws 99 [.int .i64 6] h=some (.int .i64 6,h):=by
 refine Qc rfl rfl ?_
 simp[F99,c99,QN]
theorem QwS (ws:Nat)(h:Avm.H):Qb cfg ws 103 [.int .i64 6] h=some (.int .i64 6,h):=by
 refine Qc rfl rfl ?_
 simp[QgQ,QgE]
theorem QBX (ws:Nat)(h:Avm.H):Qb cfg ws 99 [.int .i64 7] h=some (.int .i64 48,h):=by
 refine Qc rfl rfl ?_
 simp[F99,c99,QN]
theorem QwR (ws:Nat)(h:Avm.H):Qb cfg ws 103 [.int .i64 7] h=some (.int .i64 48,h):=by
 refine Qc rfl rfl ?_
 simp[QgQ,QgE]
theorem QBW (ws:Nat)(h:Avm.H):Qb cfg ws 99 [.int .i64 8] h=some (.int .i64 49,h):=by
 refine Qc rfl rfl ?_
 simp[F99,c99,QN]
theorem QwQ (ws:Nat)(h:Avm.H):Qb cfg ws 103 [.int .i64 8] h=some (.int .i64 49,h):=by
 refine Qc rfl rfl ?_
 simp[QgQ,QgE]
theorem QBV (ws:Nat)(h:Avm.H):Qb cfg ws 99 [.int .i64 9] h=some (.int .i64 160,h):=by
 refine Qc rfl rfl ?_
 simp[F99,c99,QN]
theorem QwP (ws:Nat)(h:Avm.H):Qb cfg ws 103 [.int .i64 9] h=some (.int .i64 8,h):=by
 refine Qc rfl rfl ?_
 simp[QgQ,QgE]
theorem Qzn (ws:Nat)(h:Avm.H):Qb cfg ws 99 [.int .i64 11] h=some (.int .i64 8,h):=by
 refine Qc rfl rfl ?_
 simp[F99,c99,QN]
theorem Qui (ws:Nat)(h:Avm.H):Qb cfg ws 103 [.int .i64 11] h=some (.int .i64 8,h):=by
 refine Qc rfl rfl ?_
 simp[QgQ,QgE]
def Kind (k:Int):Prop:=k=0\/k=1\/k=2\/k=3\/k=4\/k=5\/k=6\/k=7\/k=8\/k=9\/k=11
theorem Qzm (k:Int)(hk:Kind k)(ws:Nat)(h:Avm.H):Qb cfg ws 99 [.int .i64 k] h=some (.int .i64 (ZN k),h):=by
 unfold Kind at hk;rcases hk with rfl | rfl | rfl | rfl | rfl | rfl | rfl | rfl | rfl | rfl | rfl
 ·exact QCe ws h
 ·exact QCd ws h
 ·exact QCc ws h
 ·exact QCb ws h
 ·exact QCa ws h
 ·exact QBZ ws h
 ·exact QBY ws h
 ·exact QBX ws h
 ·exact QBW ws h
 ·exact QBV ws h
 ·exact Qzn ws h
end Go.Proofs.YtflbneepngjglaaGreatDoor
namespace Go.Proofs.YtflbneepngjglaaGreatDoor
open Go Go.Avm
def QjP (x:Val):Bool:=decide (x.kind=2)&&(QM true false false x&&inP x.int 0 1000000000)
def QtS :List Val->Bool
 | a::b::_=>decide (a.int=2)||(decide (a.int<2)&&decide (b.int<=39))
 | _=>false
def QjN (v:Val):Bool:=QM false false true v&&(inP (v.items.length:Int) 2 10&&(v.items.all QjP&&QtS v.items))
theorem QtR (v:Val)(hv:v.size<=67108864)(h:Avm.H): ∃g,Qa (evC (Qb cfg) Qa cfg.pol h.length h.length QkW) [1,18,19,20] [(1,.ptr h.length 0 4 0 0),(18,.isl (v.items.map Val.enc)),(19,.int .i64 v.items.length),(20,.int .i64 (0:Nat))] (h++([.arr 0 4 [v.enc]]++ []))=some (if(v.items).all QjP=true then(.exit 0,[(1,.ptr h.length 0 4 0 0),(18,.isl (v.items.map Val.enc)),(19,.int .i64 v.items.length),(20,.int .i64 (v.items).length)],h++([.arr 0 4 [v.enc]]++g))else(.ret,[(2,.bool false)],h++([.arr 0 4 [v.enc]]++g))):=by
 have hl:(v.items).length<=67108864:=(by have:=v.Qv; omega)
 have hlp:=Qg (γ:=Avm.H) (f:=evC (Qb cfg) Qa cfg.pol h.length h.length QkW) (keep:=[1,18,19,20]) (v.items) (fun _ _=>True)
      (fun i _=>[(1,.ptr h.length 0 4 0 0),(18,.isl (v.items.map Val.enc)),(19,.int .i64 v.items.length),(20,.int .i64 i)]) (fun _ g=>h++([.arr 0 4 [v.enc]]++g))
      (fun _ r o=>∃g,o=if r.all QjP=true then(.exit 0,[(1,.ptr h.length 0 4 0 0),(18,.isl (v.items.map Val.enc)),(19,.int .i64 v.items.length),(20,.int .i64 (v.items).length)],h++([.arr 0 4 [v.enc]]++g))else(.ret,[(2,.bool false)],h++([.arr 0 4 [v.enc]]++g))) ?_ ?_ [] trivial
 ·obtain⟨o,h1,g,h2⟩:=hlp;exact⟨g,h2▸h1⟩
 ·intro i x r g hd hi hx _ K hK;have hw:=Qd (n:=i+1) (by omega)
  simp at hw;have hm:x∈(v.items):=by rw[←hx]; exact List.getElem_mem hi
  have hb:=Qhe x;have hin:=fun ws h=>Qgr x.int 0 1000000000 ws h
  simp at hb;cases hv:QjP x
  ·refine⟨_,?_,(g++ [.arr 0 4 [x.enc]]),by simp only[List.all_cons,hv,Bool.false_and,Bool.false_eq_true,if_false]; rfl⟩
   unfold QjP at hv;cases q2:QM true false false x<;>cases q3:inP x.int 0 1000000000<;>by_cases q1:x.kind=2<;>simp[q1,q2,q3]at hv<;>(try simp only[q2]at hb)<;>(try simp only[q3]at hin)<;>(try simp only[q1]at hb)<;>simp[QkW,hi,hx,hin,q1,hb]
  ·obtain⟨o,h4,g2,h5⟩:=hK (g++ [.arr 0 4 [x.enc]]) trivial;refine⟨o,?_,g2,by simp only[List.all_cons,hv,Bool.true_and]; exact h5⟩
   simp at h4;unfold QjP at hv;cases q2:QM true false false x<;>cases q3:inP x.int 0 1000000000<;>by_cases q1:x.kind=2<;>simp[q1,q2,q3]at hv<;>(try simp only[q2]at hb)<;>(try simp only[q3]at hin)<;>(try simp only[q1]at hb h4)<;>simp[QkW,hi,hx,hin,q1,hb,hw,h4]
 ·intro g K _;refine⟨_,?_,g,by simp only[List.all_nil,if_true]; rfl⟩
  simp[QkW]
theorem QyL (v:Val)(hv:v.size<=67108864)(ws:Nat)(h:Avm.H):Qb cfg ws 90 [v.enc] h=some (.bool (QjN v),h):=by
 have hh:=Qmc v;have hin:=fun ws h=>Qgr (v.items.length:Int) 2 10 ws h
 obtain⟨g,hl⟩:=QtR v hv h;refine Qc rfl rfl ?_
 unfold QjN;simp at hh;cases q1:QM false false true v
 ·rw[q1]at hh;simp[F90,c90,hh]
 ·rw[q1]at hh;cases q2:inP (v.items.length:Int) 2 10
  ·rw[q2]at hin;simp[F90,c90,hh,hin]
  ·rw[q2]at hin;cases q3:v.items.all QjP
   ·rw[q3]at hl;simp at hl;simp[F90,c90,hh,hin,hl]
   ·rw[q3]at hl;simp at hl;simp only[inP,Bool.and_eq_true,decide_eq_true_eq]at q2
    obtain⟨a,b,r,hab⟩: ∃a b r,v.items=a::b::r:=by
     match hvi:v.items with
     | []=>rw[hvi]at q2; simp at q2
     | [a]=>rw[hvi]at q2; simp at q2
     | a::b::r=>exact⟨a,b,r,rfl⟩
    rw[hab]at hl hh hin;simp at hl hh hin;by_cases q4:a.int=2
    ·simp[F90,c90,hh,hin,hl,hab,QtS,q4]<;>simp[q4]at hl hh<;>simp[hh,hin,hl,q4]
    ·simp[F90,c90,hh,hin,hl,hab,QtS,q4]
theorem Qht :Ty.zero.QH Qk=true:=by
 rw[Ty.YN];simp[Ty.zero,Ty.inner,Ty.comp,Qk,Ty.Jz,Ty.n0,Ty.l0,Ty.h0,Ty.i0,Ty.k0,eqS]
theorem QC {p:Ty->Bool}{t x:Ty}(h:t.QH p=true)(hx:x∈t.inner):x.QH p=true:=by
 rw[Ty.YN,Bool.and_eq_true,List.all_eq_true]at h;exact h.2 x hx
theorem QZ {p:Ty->Bool}{t:Ty}(h:t.QH p=true):p t=true:=by
 rw[Ty.YN,Bool.and_eq_true]at h;exact h.1
theorem Qjy {t:Ty}(ps:List ByteArray)(args:List Ty)(h:t.same Ty.zero=true):(t.put ps args).same Ty.zero=true:=by
 rw[Qcl]at h;simp only[Bool.and_eq_true,decide_eq_true_eq]at h;obtain⟨h1,h2,h3,h4,h5,h6,h7,h8⟩:=h;have hp:t.par ps=none:=by unfold Ty.par; rw[if_neg]; rw[h1]; rintro⟨e,_⟩; cases e
 rw[Ty.put_eq,hp,Qcl];have h7':t.items=[]:=by simpa[Ty.i0]using h7
 have h8':t.kids=[]:=by simpa[Ty.k0]using h8
 simp only[Ty.QaT,h1,decide_true,Bool.true_and,Ty.n0,Ty.Zs,Ty.l0,Ty.QcS,Ty.h0,Ty.QcV,Ty.Yh,Ty.Wl,Ty.i0,Ty.Xl,Ty.k0,Ty.ZG,h7',h8',List.map_nil,List.isEmpty_nil,Bool.and_true]at*;simp only[h2,h3,h4,h5,h6,Bool.and_true]
theorem Qcw {c:Prop} [Decidable c]{a a' b b':Bool}(h:(if c then a else b)=true)(h1:a=true->a'=true)(h2:b=true->b'=true):(if c then a' else b')=true:=by
 by_cases q:c
 ·rw[if_pos q]at h ⊢; exact h1 h
 ·rw[if_neg q]at h ⊢; exact h2 h
def Ty.shell(t:Ty)(f:It->It)(g:Ty->Ty):Ty:=.mk t.kind t.name t.lo t.hi t.free t.ext (t.items.map f) (t.kids.map g)
theorem Qno (t:Ty)(f:It->It)(g:Ty->Ty)(he: ∀i,(f i).extra=i.extra)(ho: ∀i,XN (f i)=XN i)(hb: ∀i∈t.items,JW i=true->JW (f i)=true)(h:Qk t=true):Qk (t.shell f g)=true:=by
 have e1:(t.items.map f).findIdx? It.extra=t.items.findIdx? It.extra:=by
  rw[List.findIdx?_map]; congr 1; funext i; exact he i
 have e2: ∀j,((t.items.map f).drop j).all It.extra=(t.items.drop j).all It.extra:=fun j=>by
  rw[←List.map_drop,List.all_map]; congr 1; funext i; exact he i
 have e3:(t.items.map f).all XN=t.items.all XN:=by
  rw[List.all_map]; congr 1; funext i; exact ho i
 have e4:t.items.all JW=true->(t.items.map f).all JW=true:=fun h=>by
  rw[List.all_eq_true]at h ⊢;intro x hx;obtain⟨i,hi,rfl⟩:=List.mem_map.1 hx;exact hb i hi (h i hi)
 have e5: ∀n,itP (t.shell f g) n=itP t n:=fun n=>by
  unfold itP Ty.shell;simp only[Ty.Xl,Ty.Wl,e1,e2,List.length_map]
 have e6:(t.items.map f).isEmpty=t.items.isEmpty:=by cases t.items<;>rfl
 have e7:(t.kids.map g).isEmpty=t.kids.isEmpty:=by cases t.kids<;>rfl
 have k1: ∀a b,XK (t.shell f g) a b=XK t a b:=fun _ _=>rfl
 have o1:(t.shell f g).Jz=t.Jz:=by simp only[Ty.Jz,Ty.shell,Ty.n0,Ty.l0,Ty.h0,Ty.i0,Ty.k0,Ty.Zs,Ty.QcS,Ty.QcV,Ty.Yh,Ty.Wl,Ty.Xl,Ty.ZG,e6,e7]<;>rfl
 have o2:(t.shell f g).QbK=t.QbK:=by simp only[Ty.QbK,Ty.shell,Ty.n0,Ty.l0,Ty.h0,Ty.i0,Ty.k0,Ty.Zs,Ty.QcS,Ty.QcV,Ty.Yh,Ty.Wl,Ty.Xl,Ty.ZG,e6,e7]<;>rfl
 have o3:(t.shell f g).oEI=t.oEI:=by simp only[Ty.oEI,Ty.shell,Ty.n0,Ty.l0,Ty.h0,Ty.i0,Ty.k0,Ty.Zs,Ty.QcS,Ty.QcV,Ty.Yh,Ty.Wl,Ty.Xl,Ty.ZG,e6,e7]<;>rfl
 have o4:(t.shell f g).Qek=t.Qek:=by simp only[Ty.Qek,Ty.shell,Ty.n0,Ty.l0,Ty.h0,Ty.i0,Ty.k0,Ty.Zs,Ty.QcS,Ty.QcV,Ty.Yh,Ty.Wl,Ty.Xl,Ty.ZG,e6,e7]<;>rfl
 have o5:(t.shell f g).oNK=t.oNK:=by simp only[Ty.oNK,Ty.shell,Ty.n0,Ty.l0,Ty.h0,Ty.i0,Ty.k0,Ty.Zs,Ty.QcS,Ty.QcV,Ty.Yh,Ty.Wl,Ty.Xl,Ty.ZG,e6,e7]<;>rfl
 have kk:(t.shell f g).kind=t.kind:=rfl;have kl:(t.shell f g).kids.length=t.kids.length:=by simp[Ty.shell]
 have ki:(t.shell f g).items=t.items.map f:=rfl;unfold Qk at h ⊢;rw[o1,o2,o3,o4,o5,kk,kl,ki,e3,e5,e5];simp only[k1];exact Qcw h id fun h=>Qcw h id fun h=>Qcw h id fun h=>Qcw h id fun h=>Qcw h id fun h=>Qcw h (fun h=>by simp only[Bool.and_eq_true]at h ⊢; exact⟨h.1,h.2.1,e4 h.2.2⟩) fun h=>h
theorem QeX (ps:List ByteArray)(args:List Ty)(ha: ∀a∈args,a.QH Qk=true): ∀(n:Nat) (t:Ty),t.size<=n->t.QH Qk=true->(t.put ps args).QH Qk=true
 | 0,t,h,_=>by have:=t.size_pos; omega
 | n+1,t,h,hr=>by
  rw[Ty.put_eq];cases hp:t.par ps with
  | some i=>
   dsimp only;cases hi:args[i]? with
   | none=>exact Qht
   | some a=>exact ha a (List.mem_of_getElem? hi)
  | none=>
   dsimp only;have hsh:(Ty.mk t.kind t.name t.lo t.hi t.free t.ext (t.items.map fun x=>x.QU (x.of.put ps args)) (t.kids.map fun x=>x.put ps args))=t.shell (fun x=>x.QU (x.of.put ps args)) (fun x=>x.put ps args):=rfl
   rw[hsh,Ty.YN,Bool.and_eq_true];refine⟨Qno t _ _ (fun _=>rfl) (fun _=>rfl) (fun i _ hb=>?_) (QZ hr),?_⟩
   ·unfold JW at hb ⊢;simp only[Bool.and_eq_true]at hb ⊢;exact⟨Qjy ps args hb.1,hb.2⟩
   ·rw[List.all_eq_true];intro x hx;unfold Ty.inner Ty.shell at hx;rcases List.mem_append.1 hx with hx | hx
    ·obtain⟨y,hy,rfl⟩:=List.mem_map.1 (by simpa using hx:x∈t.kids.map fun x=>x.put ps args)
     exact QeX ps args ha n y (by have:=Ty.Xa hy; omega) (QC hr (List.mem_append_left _ hy))
    ·split at hx
     ·rename_i hc;obtain⟨i,hi,rfl⟩:=List.mem_map.1 hx;obtain⟨j,hj,rfl⟩:=List.mem_map.1 (by simpa using hi:i∈t.items.map fun x=>x.QU (x.of.put ps args))
      have hc':t.comp=true:=hc;refine QeX ps args ha n j.of (by have:=Ty.mem_of hj; omega) (QC hr ?_)
      unfold Ty.inner;rw[hc'];exact List.mem_append_right _ (List.mem_map_of_mem hj)
     ·cases hx
def Md.fm(m:Md):Prop:=∀d∈m.defs,d.of.QH Qk=true
theorem Qpr (m:Md)(hf:m.fm){t u:Ty}(ht:t.QH Qk=true)(h:Jw m t=some u):u.QH Qk=true:=by
 unfold Jw at h;split at h
 ·cases h
 ·rename_i d hd;have hdm:=List.mem_of_find?_eq_some hd
  split at h
  ·cases h
  ·split at h
   ·cases h; exact hf d hdm
   ·split at h
    ·cases h;exact QeX _ _ (fun a ha=>QC ht (List.mem_append_left _ ha)) _ _ (Nat.le_refl _) (hf d hdm)
    ·cases h
theorem Qhs (m:Md)(p:Ty->Prop)(hs: ∀t u,p t->Jw m t=some u->p u): ∀(n:Nat) (t b:Ty),p t->beh m n t=some b->p b/\b.kind≠10
 | 0,t,b,_,h=>by cases h
 | n+1,t,b,hp,h=>by
  unfold beh at h;split at h
  ·cases hst:Jw m t with
   | none=>rw[hst]at h; cases h
   | some u=>rw[hst]at h; exact Qhs m p hs n u b (hs t u hp hst) h
  ·rename_i q; cases h; exact⟨hp,q⟩
theorem QeD (m:Md)(hm:m.ok)(hf:m.fm){t b:Ty}(ht:t.wid<=67108864)(hr:t.QH Qk=true)(h:beh m 21 t=some b):b.wid<=67108864/\b.QH Qk=true/\b.kind≠10:=by
 have h1:=Qhs m (fun t=>t.wid<=67108864/\t.QH Qk=true) (fun t u hp hs=>⟨Quk m hm hp.1 hs,Qpr m hf hp.2 hs⟩) 21 t b ⟨ht,hr⟩ h
 exact⟨h1.1.1,h1.1.2,h1.2⟩
end Go.Proofs.YtflbneepngjglaaGreatDoor
namespace Go.Proofs.YtflbneepngjglaaGreatDoor
open Go Go.Avm
def ZF (sub:Ty->Val->Bool)(p:It×Val):Bool:=(decide (p.2.kind=12)&&(QM false false false p.2&&QjC p.1))||sub p.1.of p.2
def Yt (b:Ty)(v:Val)(sub:Ty->Val->Bool):Bool:=
 if b.kind=0 then QM false false false v
 else if b.kind=1 then QM true false false v&&inP v.int 0 1
 else if b.kind=2 then QM true false false v&&(inP v.int (-1000000000000000) 1000000000000000&&(b.free||(b.ext||inP v.int b.lo b.hi)))
 else if b.kind=3 then QM true false false v&&inP v.int 0 ((b.items.length:Int)-1)
 else if b.kind=4 then QM false true false v&&ZE b (v.bytes.size:Int) 4000
 else if b.kind=5 then QM false true false v&&(v.bytes.data.toList.all d01&&ZE b (v.bytes.size:Int) 32000)
 else if b.kind=6 then QjN v
 else if b.kind=11 then QM false true false v&&decide (v.bytes.size<=4000)
 else if b.kind=7 then QM false false true v&&(ZE b (v.items.length:Int) 200&&v.items.all (sub (b.kids.headD Ty.zero)))
 else if b.kind=9 then QM true false true v&&(inP v.int 0 ((b.items.length:Int)-1)&&(decide (v.items.length=1)&&sub ((b.items[v.int.toNat]?.map It.of).getD Ty.zero) (v.items.headD (.mk 0 0 ⟨#[]⟩ []))))
 else QM false false true v&&(decide (v.items.length=b.items.length)&&(b.items.zip v.items).all (ZF sub))
def Xu (m:Md):Nat->Ty->Val->Bool
 | 0,_,_=>false
 | n+1,t,v=>match beh m 21 t with
  | none=>false
  | some b=>decide (v.kind=b.kind)&&Yt b v (Xu m n)
theorem Qmt {g:FuncId}{k:Nat}{p:Val->Bool}{cap cap':List AV}(l:List Val)(hl:l.length<=67108864)(hs:Still cfg g)(h:Avm.H)(hcap:QG (snap h 7) cap=some cap')(hcp:Qw cap'=true)(hp: ∀x∈l,∀ws h',Qb cfg ws g (cap'.take k++([x.enc]++cap'.drop k)) h'=some (.bool (p x),h'))(ws:Nat):
    Qb cfg ws 91 [.isl (l.map Val.enc),.QJ g k cap] h=some (.bool (l.any p),h):=
 Jd (K:=174) (sz:=4) (ag:=true) rfl rfl rfl rfl hl (by simp) (Val.QjF l) hs hcap hcp hp ws
theorem Qtm (m:Md)(b:Ty)(v:Val)(hlen:v.items.length=b.items.length)(hvl:v.items.length<=67108864)(sub:Ty->Val->Bool)(hsub: ∀i∈b.items,∀x∈v.items,∀ws h,Qb cfg ws 49 [m.enc,i.of.enc,x.enc] h=some (.bool (sub i.of x),h))(h:Avm.H):
    ∃g,Qa (evC (Qb cfg) Qa cfg.pol h.length h.length QbY) [3,4,186,187,188] [(3,.ptr h.length 0 2 0 0),(4,.ptr (h.length+1) 0 8 0 0),(186,.isl (v.items.map Val.enc)),(187,.int .i64 v.items.length),(188,.int .i64 (0:Nat))] (h++([.arr 0 2 [m.enc],.arr 0 8 [b.enc],.arr 0 4 [v.enc]]++ []))=some (if(b.items.zip v.items).all (ZF sub)=true then(.exit 1,[(3,.ptr h.length 0 2 0 0),(4,.ptr (h.length+1) 0 8 0 0),(186,.isl (v.items.map Val.enc)),(187,.int .i64 v.items.length),(188,.int .i64 v.items.length)],h++([.arr 0 2 [m.enc],.arr 0 8 [b.enc],.arr 0 4 [v.enc]]++g))else(.ret,[(6,.bool false)],h++([.arr 0 2 [m.enc],.arr 0 8 [b.enc],.arr 0 4 [v.enc]]++g))):=by
 have hzl:(b.items.zip v.items).length=v.items.length:=by simp[hlen]
 have hl:(b.items.zip v.items).length<=67108864:=by omega
 have hlp:=Qg (γ:=Avm.H) (f:=evC (Qb cfg) Qa cfg.pol h.length h.length QbY) (keep:=[3,4,186,187,188]) (b.items.zip v.items) (fun _ _=>True)
      (fun i _=>[(3,.ptr h.length 0 2 0 0),(4,.ptr (h.length+1) 0 8 0 0),(186,.isl (v.items.map Val.enc)),(187,.int .i64 v.items.length),(188,.int .i64 i)]) (fun _ g=>h++([.arr 0 2 [m.enc],.arr 0 8 [b.enc],.arr 0 4 [v.enc]]++g))
      (fun _ r o=>∃g,o=if r.all (ZF sub)=true then(.exit 1,[(3,.ptr h.length 0 2 0 0),(4,.ptr (h.length+1) 0 8 0 0),(186,.isl (v.items.map Val.enc)),(187,.int .i64 v.items.length),(188,.int .i64 v.items.length)],h++([.arr 0 2 [m.enc],.arr 0 8 [b.enc],.arr 0 4 [v.enc]]++g))else(.ret,[(6,.bool false)],h++([.arr 0 2 [m.enc],.arr 0 8 [b.enc],.arr 0 4 [v.enc]]++g))) ?_ ?_ [] trivial
 ·obtain⟨o,h1,g,h2⟩:=hlp;exact⟨g,h2▸h1⟩
 ·intro i x r g hd hi hx _ K hK;have hw:=Qd (n:=i+1) (by omega)
  simp at hw;have hiv:i<v.items.length:=by omega
  have hib:i<b.items.length:=by omega
  obtain⟨y,x⟩:=x;rw[List.getElem_zip]at hx;have hxv:v.items[i]=x:=congrArg Prod.snd hx;have hxb:b.items[i]=y:=congrArg Prod.fst hx;have hmx:x∈v.items:=by rw[←hxv]; exact List.getElem_mem hiv
  have hmy:y∈b.items:=by rw[←hxb]; exact List.getElem_mem hib
  have e1:=fun ws h=>hsub y hmy x hmx ws h
  have e2:=fun ws h=>Qrw x ws h
  have e3:=fun ws h=>QzT y ws h
  simp[Md.enc]at e1 e2 e3;cases hv:ZF sub (y,x)
  ·refine⟨_,?_,g++ [.arr 0 4 [x.enc]],by simp only[List.all_cons,hv,Bool.false_and,Bool.false_eq_true,if_false]; rfl⟩
   unfold ZF at hv;simp at hv;by_cases q1:x.kind=12
   ·simp[q1]at e1 e2;cases q2:QM false false false x
    ·rw[q2]at e2;simp[QbY,QbX,Md.enc,hiv,hib,hxv,hxb,e1,e2,hv,q1]
    ·rw[q2]at e2;cases q3:QjC y
     ·rw[q3]at e3;simp[QbY,QbX,Md.enc,hiv,hib,hxv,hxb,e1,e2,e3,hv,q1]
     ·simp[q1,q2,q3]at hv
   ·simp[QbY,QbX,Md.enc,hiv,hib,hxv,hxb,e1,hv,q1]
  ·obtain⟨o,h4,g2,h5⟩:=hK (g++ [.arr 0 4 [x.enc]]) trivial;refine⟨o,?_,g2,by simp only[List.all_cons,hv,Bool.true_and]; exact h5⟩
   unfold ZF at hv;simp at hv;by_cases q1:x.kind=12
   ·simp[q1]at e1 e2;simp[Md.enc,q1]at h4;cases q2:QM false false false x
    ·rw[q2]at e2;simp[q1,q2]at hv;simp[QbY,QbX,Md.enc,hiv,hib,hxv,hxb,e1,e2,hv,q1,hw,h4]
    ·rw[q2]at e2;cases q3:QjC y
     ·rw[q3]at e3;simp[q1,q2,q3]at hv;simp[QbY,QbX,Md.enc,hiv,hib,hxv,hxb,e1,e2,e3,hv,q1,hw,h4]
     ·rw[q3]at e3;simp[QbY,QbX,Md.enc,hiv,hib,hxv,hxb,e2,e3,q1,hw,h4]
   ·simp[q1]at hv;simp[Md.enc]at h4;simp[QbY,QbX,Md.enc,hiv,hib,hxv,hxb,e1,hv,q1,hw,h4]
 ·intro g K _;refine⟨_,?_,g,by simp only[List.all_nil,if_true]; rfl⟩
  simp[QbY,Md.enc,hlen]
theorem QvU (m:Md)(t:Ty)(v:Val)(hv:v.size<=67108864)(b:Ty)(hb1:b.wid<=67108864)(sub:Ty->Val->Bool)
    (hsub: ∀x∈v.items,∀ws h,Qb cfg ws 49 [m.enc,(b.kids.headD Ty.zero).enc,x.enc] h=some (.bool (sub (b.kids.headD Ty.zero) x),h)) (hk:b.kids.length=1) (ws:Nat) (h:Avm.H):
    Qb cfg ws 91 [.isl (v.items.map Val.enc),.QJ 92 0 [.ptr h.length 0 2 0 0,.ptr (h.length+1) 0 8 0 0]] (h++ [.arr 0 2 [m.enc],.arr 0 8 [b.enc],.arr 0 4 [v.enc]])=some (.bool (!v.items.all (sub (b.kids.headD Ty.zero))),h++ [.arr 0 2 [m.enc],.arr 0 8 [b.enc],.arr 0 4 [v.enc]]):=by
 have hl:v.items.length<=67108864:=by have:=v.Qv; omega
 obtain⟨k,hk⟩:=List.length_eq_one_iff.1 hk
 have hp: ∀x∈v.items,∀ws h',Qb cfg ws 92 [x.enc,.iptr m.enc.cells,.iptr b.enc.cells] h'=some (.bool (!sub (b.kids.headD Ty.zero) x),h'):=fun x hx ws h'=>by
  have e1:=fun ws h=>hsub x hx ws h
  rw[hk]at e1;simp[Md.enc]at e1;refine Qc rfl rfl ?_
  simp[F92,c92,Md.enc,hk,e1]
 have h1:=Qmt (g:=92) (k:=0) (cap:=[.ptr h.length 0 2 0 0,.ptr (h.length+1) 0 8 0 0]) (cap':=[.iptr m.enc.cells,.iptr b.enc.cells]) (p:=fun x=>!sub (b.kids.headD Ty.zero) x) v.items hl (.inl rfl) (h++ [.arr 0 2 [m.enc],.arr 0 8 [b.enc],.arr 0 4 [v.enc]]) (by simp[Md.enc]) (by simp[Md.enc]) (by simpa using hp) ws
 rw[h1];simp[List.not_all_eq_any_not]
end Go.Proofs.YtflbneepngjglaaGreatDoor
