/- Counting types down. -/
import Derived.Test.YtflbneepngjglaaGreatDoorO34
set_option linter.all false
namespace Go.Proofs.YtflbneepngjglaaGreatDoor
open Go Go.Avm
def Ty.par(ps:List ByteArray)(t:Ty):Option Nat:=if t.kind=10/\t.kids=[]then ps.findIdx? (eqS t.name)else none
def It.QR(x:It)(t:Ty):It:=.mk x.name t x.opt x.extra x.QA
def Ty.put(ps:List ByteArray)(args:List Ty)(t:Ty):Ty:=match t.par ps with
 | some i=>args[i]?.getD Ty.zero
 | none=>.mk t.kind t.name t.lo t.hi t.free t.ext (t.items.attach.map fun x=>x.1.QR (x.1.of.put ps args)) (t.kids.attach.map fun x=>x.1.put ps args)
termination_by t.size
decreasing_by
 ·exact Ty.mem_of x.2
 ·exact Ty.Xa x.2
theorem Ty.put_eq(ps:List ByteArray)(args:List Ty)(t:Ty):t.put ps args=match t.par ps with
 | some i=>args[i]?.getD Ty.zero
 | none=>.mk t.kind t.name t.lo t.hi t.free t.ext (t.items.map fun x=>x.QR (x.of.put ps args)) (t.kids.map fun x=>x.put ps args):=by
 rw[Ty.put,Yh t.items (fun x=>x.QR (x.of.put ps args)),Yh t.kids (fun x=>x.put ps args)]
theorem Qti (l:List It)(hl:l.length<=67108864)(ws:Nat)(h:Avm.H):Qb cfg ws 98 [.isl (l.map It.enc)] h=some (.osl h.length 0 12 0 l.length,h++ [.arr 0 12 (l.map It.enc)]):=by
 refine QN rfl ?_
 have:l.length<=lim:=by unfold lim; omega
 simp[Jr,this]
theorem YH {α β γ:Type}(f:β->γ)(g:α->β)(l:List α):List.take l.length ((l.map g).map f)=(l.map g).map f:=List.take_of_length_le (by simp)
def upto {α:Type}(f:α->α)(l:List α)(i:Nat):List α:=(l.take i).map f++l.drop i
theorem QdJ {α β:Type}(f:α->α)(enc:α->β)(l:List α)(i:Nat)(hi:i<l.length):((upto f l i).map enc)[i]? =some (enc l[i]):=by
 unfold upto;rw[List.map_append,List.getElem?_append_right (by simp; omega)]
 simp[hi,Nat.min_eq_left (Nat.le_of_lt hi)]
theorem QdI {α β:Type}(f:α->α)(enc:α->β)(l:List α)(i:Nat)(hi:i<l.length):((upto f l i).map enc).set i (enc (f l[i]))=(upto f l (i+1)).map enc:=by
 unfold upto;rw[List.map_append,List.set_append_right _ _ (by simp; omega)]
 have h1:i-(((l.take i).map f).map enc).length=0:=by simp; omega
 rw[h1,List.take_succ_eq_append_getElem hi,List.drop_eq_getElem_cons hi];simp only[List.map_append,List.map_cons,List.map_nil,List.set_cons_zero,List.append_assoc,List.cons_append,List.nil_append]
theorem QgU {α:Type}(f:α->α)(l:List α)(i:Nat):(upto f l i).length=l.length:=by unfold upto; simp; omega
theorem QgV {α:Type}(f:α->α)(l:List α):upto f l l.length=l.map f:=by unfold upto; simp
theorem QeE {α:Type}(f:α->α)(l:List α):upto f l 0=l:=by unfold upto; simp
theorem Qsb (t:Ty)(ht:t.wid<=67108864)(ps:List ByteArray)(args:List Ty)(h:Avm.H)(P:Ty->Ty)(hP: ∀x∈t.kids,∀ws h,Qb cfg ws 95 [x.enc,.isl (ps.map .str),.isl (args.map Ty.enc)] h=some ((P x).enc,h)):
    Qa (evC (Qb cfg) Qa cfg.pol h.length h.length Qoo) [1,2,3,6,35,36] [(1,.isl (ps.map .str)),(2,.isl (args.map Ty.enc)),(3,.ptr h.length 0 8 0 0),(6,.ptr (h.length+1) 0 8 0 0),(35,.int .i64 t.kids.length),(36,.int .i64 (0:Nat))] (h++ [.arr 0 8 [.agg [.int .i64 t.kind,.str t.name,.int .i64 t.lo,.int .i64 t.hi,.bool t.free,.bool t.ext,.isl (t.items.map It.enc),.osl (h.length+2) 0 8 0 t.kids.length]],.arr 0 8 [Ty.zero.enc],.arr 0 8 ((upto P t.kids 0).map Ty.enc)])=some (.exit 0,[(1,.isl (ps.map .str)),(2,.isl (args.map Ty.enc)),(3,.ptr h.length 0 8 0 0),(6,.ptr (h.length+1) 0 8 0 0),(35,.int .i64 t.kids.length),(36,.int .i64 t.kids.length)],h++ [.arr 0 8 [.agg [.int .i64 t.kind,.str t.name,.int .i64 t.lo,.int .i64 t.hi,.bool t.free,.bool t.ext,.isl (t.items.map It.enc),.osl (h.length+2) 0 8 0 t.kids.length]],.arr 0 8 [Ty.zero.enc],.arr 0 8 ((upto P t.kids t.kids.length).map Ty.enc)]):=by
 have hwk:=t.ZH;refine QE (f:=evC (Qb cfg) Qa cfg.pol h.length h.length Qoo) (keep:=[1,2,3,6,35,36]) t.kids (fun i=>[(1,.isl (ps.map .str)),(2,.isl (args.map Ty.enc)),(3,.ptr h.length 0 8 0 0),(6,.ptr (h.length+1) 0 8 0 0),(35,.int .i64 t.kids.length),(36,.int .i64 i)]) (fun i=>h++ [.arr 0 8 [.agg [.int .i64 t.kind,.str t.name,.int .i64 t.lo,.int .i64 t.hi,.bool t.free,.bool t.ext,.isl (t.items.map It.enc),.osl (h.length+2) 0 8 0 t.kids.length]],.arr 0 8 [Ty.zero.enc],.arr 0 8 ((upto P t.kids i).map Ty.enc)]) (fun _ _=>(.exit 0,[(1,.isl (ps.map .str)),(2,.isl (args.map Ty.enc)),(3,.ptr h.length 0 8 0 0),(6,.ptr (h.length+1) 0 8 0 0),(35,.int .i64 t.kids.length),(36,.int .i64 t.kids.length)],h++ [.arr 0 8 [.agg [.int .i64 t.kind,.str t.name,.int .i64 t.lo,.int .i64 t.hi,.bool t.free,.bool t.ext,.isl (t.items.map It.enc),.osl (h.length+2) 0 8 0 t.kids.length]],.arr 0 8 [Ty.zero.enc],.arr 0 8 ((upto P t.kids t.kids.length).map Ty.enc)])) ?_ ?_
 ·intro i x r hd hi hx K hK;have hw:=Qd (n:=i+1) (by omega)
  simp at hw;have hm:x∈t.kids:=by rw[←hx]; exact List.getElem_mem hi
  have hcl:=fun h'=>hP x hm h.length h'
  have hget:=QdJ P Ty.enc t.kids i hi;have hset:=QdI P Ty.enc t.kids i hi;rw[hx]at hget hset;have hln:=QgU P t.kids i;generalize (upto P t.kids i).map Ty.enc=els at hget hset ⊢;simp at hcl hget hset hK;simp[Qoo,hi,hcl,hget,hset,hw,hK]
 ·intro K;simp[Qoo]
theorem Qsa (t:Ty)(ht:t.wid<=67108864)(ps:List ByteArray)(args:List Ty)(h:Avm.H)(P:Ty->Ty)(Q:It->It)(hQ: ∀x,Q x=x.QR (P x.of))(hP: ∀x∈t.items,∀ws h,Qb cfg ws 95 [x.of.enc,.isl (ps.map .str),.isl (args.map Ty.enc)] h=some ((P x.of).enc,h)):
    Qa (evC (Qb cfg) Qa cfg.pol h.length h.length Qon) [1,2,3,6,58,59] [(1,.isl (ps.map .str)),(2,.isl (args.map Ty.enc)),(3,.ptr h.length 0 8 0 0),(6,.ptr (h.length+1) 0 8 0 0),(58,.int .i64 t.items.length),(59,.int .i64 (0:Nat))] (h++ [.arr 0 8 [.agg [.int .i64 t.kind,.str t.name,.int .i64 t.lo,.int .i64 t.hi,.bool t.free,.bool t.ext,.osl (h.length+3) 0 12 0 t.items.length,.osl (h.length+2) 0 8 0 t.kids.length]],.arr 0 8 [Ty.zero.enc],.arr 0 8 ((t.kids.map P).map Ty.enc),.arr 0 12 ((upto Q t.items 0).map It.enc)])=some (.exit 2,[(1,.isl (ps.map .str)),(2,.isl (args.map Ty.enc)),(3,.ptr h.length 0 8 0 0),(6,.ptr (h.length+1) 0 8 0 0),(58,.int .i64 t.items.length),(59,.int .i64 t.items.length)],h++ [.arr 0 8 [.agg [.int .i64 t.kind,.str t.name,.int .i64 t.lo,.int .i64 t.hi,.bool t.free,.bool t.ext,.osl (h.length+3) 0 12 0 t.items.length,.osl (h.length+2) 0 8 0 t.kids.length]],.arr 0 8 [Ty.zero.enc],.arr 0 8 ((t.kids.map P).map Ty.enc),.arr 0 12 ((upto Q t.items t.items.length).map It.enc)]):=by
 have hwk:=t.Qe;refine QE (f:=evC (Qb cfg) Qa cfg.pol h.length h.length Qon) (keep:=[1,2,3,6,58,59]) t.items (fun i=>[(1,.isl (ps.map .str)),(2,.isl (args.map Ty.enc)),(3,.ptr h.length 0 8 0 0),(6,.ptr (h.length+1) 0 8 0 0),(58,.int .i64 t.items.length),(59,.int .i64 i)]) (fun i=>h++ [.arr 0 8 [.agg [.int .i64 t.kind,.str t.name,.int .i64 t.lo,.int .i64 t.hi,.bool t.free,.bool t.ext,.osl (h.length+3) 0 12 0 t.items.length,.osl (h.length+2) 0 8 0 t.kids.length]],.arr 0 8 [Ty.zero.enc],.arr 0 8 ((t.kids.map P).map Ty.enc),.arr 0 12 ((upto Q t.items i).map It.enc)]) (fun _ _=>(.exit 2,[(1,.isl (ps.map .str)),(2,.isl (args.map Ty.enc)),(3,.ptr h.length 0 8 0 0),(6,.ptr (h.length+1) 0 8 0 0),(58,.int .i64 t.items.length),(59,.int .i64 t.items.length)],h++ [.arr 0 8 [.agg [.int .i64 t.kind,.str t.name,.int .i64 t.lo,.int .i64 t.hi,.bool t.free,.bool t.ext,.osl (h.length+3) 0 12 0 t.items.length,.osl (h.length+2) 0 8 0 t.kids.length]],.arr 0 8 [Ty.zero.enc],.arr 0 8 ((t.kids.map P).map Ty.enc),.arr 0 12 ((upto Q t.items t.items.length).map It.enc)])) ?_ ?_
 ·intro i x r hd hi hx K hK;have hw:=Qd (n:=i+1) (by omega)
  simp at hw;have hm:x∈t.items:=by rw[←hx]; exact List.getElem_mem hi
  have hcl:=fun h'=>hP x hm h.length h'
  have hget:=QdJ Q It.enc t.items i hi;have hset:=QdI Q It.enc t.items i hi;rw[hx]at hget hset;rw[hQ x]at hset;generalize (upto Q t.items i).map It.enc=els at hget hset ⊢;simp[It.QR]at hcl hget hset hK;simp[Qon,hi,hcl,hget,hset,hw,hK]
 ·intro K;simp[Qon]
theorem Qpq (ps:List ByteArray)(args:List Ty)(hp:ps.length<=67108864)(hpa:ps.length=args.length): ∀(n:Nat) (t:Ty),t.size<=n->t.wid<=67108864-> ∀ws h,Qb cfg ws 95 [t.enc,.isl (ps.map .str),.isl (args.map Ty.enc)] h=some ((t.put ps args).enc,h)
 | 0,t,ht,_,_,_=>by have:=t.size_pos; omega
 | n+1,t,ht,hw0,ws,h=>by
  have hwk:=t.ZH;have hwi:=t.Qe;have l0:=Qsb t hw0 ps args h (fun x=>x.put ps args) (fun x hx ws h=>Qpq ps args hp hpa n x (by have:=Ty.Xa hx; omega) (Nat.le_trans (Ty.ZT hx) hw0) ws h)
  have l1:=Qsa t hw0 ps args h (fun x=>x.put ps args) (fun x=>x.QR (x.of.put ps args)) (fun _=>rfl) (fun x hx ws h=>Qpq ps args hp hpa n x.of (by have:=Ty.mem_of hx; omega) (Nat.le_trans (Ty.ZI hx) hw0) ws h)
  rw[QeE,QgV]at l0;rw[QeE,QgV]at l1;have hix:=fun ws h=>Qke ps t.name hp ws h
  have hck:=fun ws h=>Qkt t.kids (by omega) ws h
  have hci:=fun ws h=>Qti t.items (by omega) ws h
  refine Qc rfl rfl ?_
  rw[Ty.put_eq];simp[Ty.zero,-List.map_map]at l0 l1;by_cases q10:t.kind=10
  ·by_cases qk:t.kids=[]
   ·cases qi:ps.findIdx? (eqS t.name)with
    | some i=>
     have hpar:t.par ps=some i:=by simp[Ty.par,q10,qk,qi]
     have hi:i<args.length:=by
      rw[List.findIdx?_eq_some_iff_getElem]at qi
      obtain⟨hj,_⟩:=qi;omega
     have hlk:(((t.kids.length:Nat):Int) == 0)=true:=by rw[qk]; rfl
     rw[hpar];simp[idxOf,qi]at hix;simp[F95,c95,q10,qk,hix,hi]
    | none=>
     have hpar:t.par ps=none:=by simp[Ty.par,q10,qk,qi]
     rw[hpar];simp[idxOf,qi]at hix;simp[q10,qk,-List.map_map]at l0 l1 hck;simp[F95,c95,q10,qk,hix,hck,hci,l0,l1,-List.map_map,YH]
   ·have hpar:t.par ps=none:=by simp[Ty.par,qk]
    rw[hpar];simp[q10,-List.map_map]at l0 l1;simp[F95,c95,q10,qk,hck,hci,l0,l1,-List.map_map,YH]
  ·have hpar:t.par ps=none:=by simp[Ty.par,q10]
   rw[hpar];simp[F95,c95,q10,hck,hci,l0,l1,-List.map_map,YH]
end Go.Proofs.YtflbneepngjglaaGreatDoor
namespace Go.Proofs.YtflbneepngjglaaGreatDoor
open Go Go.Avm
theorem QdP {h X:Avm.H}{b:Nat}{v:Qq}(hb:b<h.length):(h++X).set b v=h.set b v++X:=List.set_append_left b v hb
theorem QaM {h X:Avm.H}{b:Nat}(hb:b<h.length):(h++X)[b]? =h[b]?:=List.getElem?_append_left hb
theorem QsS (t:Ty)(ht:t.wid<=67108864)(c0:Int)(hc0: -1<=c0)(hc1:c0<=67108864)(b ver ws:Nat)(h g0:Avm.H)(hb:b<h.length)(hws:ws<=b)(hcall: ∀x∈t.kids,∀(left:Int),0<=left->left<=67108864-> ∀(b ver ws:Nat) (h:Avm.H),h[b]? =some (.arr ver 1 [.int .i64 left])->ws<=b-> ∃l':Int,Qb cfg ws 96 [x.enc,.ptr b ver 1 0 0] h=some (.bool (decide ((x.nodes:Int)<=left)),h.set b (.arr ver 1 [.int .i64 l']))/\((x.nodes:Int)<=left->l'=left-x.nodes)):
    ∃(o:Ex×Env×Avm.H),Qa (evC (Qb cfg) Qa cfg.pol h.length ws Qij) [1,2,15,16,17] [(1,.ptr b ver 1 0 0),(2,.ptr h.length 0 8 0 0),(15,.isl (t.kids.map Ty.enc)),(16,.int .i64 t.kids.length),(17,.int .i64 (0:Nat))] ((h.set b (.arr ver 1 [.int .i64 c0]))++([.arr 0 8 [t.enc]]++g0))=some o/\ ∃(c:Int) (g:Avm.H),(c=c0-((t.kids.map Ty.nodes).sum:Nat)/\(t.kids=[]\/(((t.kids.map Ty.nodes).sum:Nat):Int)<=c0)/\o=(.exit 0,[(1,.ptr b ver 1 0 0),(2,.ptr h.length 0 8 0 0),(15,.isl (t.kids.map Ty.enc)),(16,.int .i64 t.kids.length),(17,.int .i64 t.kids.length)],(h.set b (.arr ver 1 [.int .i64 c]))++([.arr 0 8 [t.enc]]++g)))\/(c0<((t.kids.map Ty.nodes).sum:Nat)/\o=(.ret,[(4,.bool false)],(h.set b (.arr ver 1 [.int .i64 c]))++([.arr 0 8 [t.enc]]++g))):=by
 have hl:t.kids.length<=67108864:=Nat.le_trans t.ZH ht
 refine Qg (γ:=Int×Avm.H) (f:=evC (Qb cfg) Qa cfg.pol h.length ws Qij) (keep:=[1,2,15,16,17]) t.kids
     (fun i c=>c.1=c0-(((t.kids.take i).map Ty.nodes).sum:Nat)/\(i=0\/0<=c.1))
     (fun i _=>[(1,.ptr b ver 1 0 0),(2,.ptr h.length 0 8 0 0),(15,.isl (t.kids.map Ty.enc)),(16,.int .i64 t.kids.length),(17,.int .i64 i)]) (fun _ c=>(h.set b (.arr ver 1 [.int .i64 c.1]))++([.arr 0 8 [t.enc]]++c.2))
     (fun _ _ o=>∃(c:Int) (g:Avm.H),(c=c0-((t.kids.map Ty.nodes).sum:Nat)/\(t.kids=[]\/(((t.kids.map Ty.nodes).sum:Nat):Int)<=c0)/\o=(.exit 0,[(1,.ptr b ver 1 0 0),(2,.ptr h.length 0 8 0 0),(15,.isl (t.kids.map Ty.enc)),(16,.int .i64 t.kids.length),(17,.int .i64 t.kids.length)],(h.set b (.arr ver 1 [.int .i64 c]))++([.arr 0 8 [t.enc]]++g)))\/(c0<((t.kids.map Ty.nodes).sum:Nat)/\o=(.ret,[(4,.bool false)],(h.set b (.arr ver 1 [.int .i64 c]))++([.arr 0 8 [t.enc]]++g)))) ?_ ?_ (c0,g0) ⟨by simp,.inl rfl⟩
 ·intro i x r c hd hi hx hI K hK;obtain⟨c,g⟩:=c;obtain⟨hI1,hI2⟩:=hI;dsimp only at hI1 hI2;have hw:=Qd (n:=i+1) (by omega)
  simp at hw;have hm:x∈t.kids:=by rw[←hx]; exact List.getElem_mem hi
  have htk:t.kids.take (i+1)=t.kids.take i++ [x]:=by rw[List.take_succ_eq_append_getElem hi,hx]
  have hall:(t.kids.map Ty.nodes).sum=((t.kids.take i).map Ty.nodes).sum+(x.nodes+(r.map Ty.nodes).sum):=by
   conv=>lhs; rw[←List.take_append_drop i t.kids,hd]
   simp[List.sum_append]
  have hxp:=x.XS;rw[htk]at hK;simp only[List.map_append,List.map_cons,List.map_nil,List.sum_append,List.sum_cons,List.sum_nil,Nat.add_zero]at hK;generalize ((t.kids.take i).map Ty.nodes).sum=sm at*;generalize (r.map Ty.nodes).sum=rm at*;generalize (t.kids.map Ty.nodes).sum=tot at*;have hbx: ∀(c:Int) (X:Avm.H),((h.set b (.arr ver 1 [.int .i64 c]))++X)[b]? =some (.arr ver 1 [.int .i64 c]):=fun c X=>by rw[QaM (by simpa using hb),List.getElem?_set_self hb]
  have hbs: ∀(c d:Int) (X:Avm.H),((h.set b (.arr ver 1 [.int .i64 c]))++X).set b (.arr ver 1 [.int .i64 d])=(h.set b (.arr ver 1 [.int .i64 d]))++X:=fun c d X=>by rw[QdP (by simpa using hb),List.set_set]
  have hwn: ∀n,ws<=h.length+n:=fun n=>by omega
  have hw0:ws<=h.length:=by omega
  have hbl: ∀n,¬h.length+n<h.length:=fun n=>by omega
  by_cases hneg:c<0
  ·refine⟨_,?_,c,g++ [.arr 0 8 [x.enc]],.inr ⟨by omega,rfl⟩⟩
   simp[Qij,hi,hx,hbx,hneg,hwn,hw0]
  ·obtain⟨l',hca,hcb⟩:=hcall x hm c (by omega) (by omega) b ver ws ((h.set b (.arr ver 1 [.int .i64 c]))++([.arr 0 8 [t.enc]]++(g++ [.arr 0 8 [x.enc]]))) (hbx c _) hws
   rw[hbs]at hca;simp at hca;by_cases hle:(x.nodes:Int)<=c
   ·have hl':=hcb hle;obtain⟨o,h4,h5⟩:=hK (l',g++ [.arr 0 8 [x.enc]]) ⟨by dsimp only; omega,.inr (by dsimp only; omega)⟩
    refine⟨o,?_,h5⟩
    simp at h4;rw[decide_eq_true hle]at hca;simp[Qij,hi,hx,hbx,hneg,hwn,hw0,hca,hw,h4]
   ·refine⟨_,?_,l',g++ [.arr 0 8 [x.enc]],.inr ⟨by omega,rfl⟩⟩
    rw[decide_eq_false hle]at hca;simp[Qij,hi,hx,hbx,hneg,hwn,hw0,hca]
 ·intro c K hI;rw[List.take_length]at hI;refine⟨_,?_,c.1,c.2,.inl ⟨hI.1,?_,rfl⟩⟩
  ·simp[Qij]
  ·rcases hI.2 with h | h
   ·exact .inl (List.eq_nil_of_length_eq_zero h)
   ·exact .inr (by have:=hI.1; omega)
theorem QsR (t:Ty)(ht:t.wid<=67108864)(c0:Int)(hc0: -1<=c0)(hc1:c0<=67108864)(b ver ws:Nat)(h g0:Avm.H)(hb:b<h.length)(hws:ws<=b)(hcomp:t.kind=8\/t.kind=9)(hcall: ∀x∈t.items,∀(left:Int),0<=left->left<=67108864-> ∀(b ver ws:Nat) (h:Avm.H),h[b]? =some (.arr ver 1 [.int .i64 left])->ws<=b-> ∃l':Int,Qb cfg ws 96 [x.of.enc,.ptr b ver 1 0 0] h=some (.bool (decide ((x.of.nodes:Int)<=left)),h.set b (.arr ver 1 [.int .i64 l']))/\((x.of.nodes:Int)<=left->l'=left-x.of.nodes)):
    ∃(o:Ex×Env×Avm.H),Qa (evC (Qb cfg) Qa cfg.pol h.length ws QcQ) [1,2,33,34,35] [(1,.ptr b ver 1 0 0),(2,.ptr h.length 0 8 0 0),(33,.isl (t.items.map It.enc)),(34,.int .i64 t.items.length),(35,.int .i64 (0:Nat))] ((h.set b (.arr ver 1 [.int .i64 c0]))++([.arr 0 8 [t.enc]]++g0))=some o/\ ∃(c:Int) (g:Avm.H),(c=c0-((t.items.map (fun x:It=>x.of.nodes)).sum:Nat)/\(t.items=[]\/(((t.items.map (fun x:It=>x.of.nodes)).sum:Nat):Int)<=c0)/\o=(.exit 2,[(1,.ptr b ver 1 0 0),(2,.ptr h.length 0 8 0 0),(33,.isl (t.items.map It.enc)),(34,.int .i64 t.items.length),(35,.int .i64 t.items.length)],(h.set b (.arr ver 1 [.int .i64 c]))++([.arr 0 8 [t.enc]]++g)))\/(c0<((t.items.map (fun x:It=>x.of.nodes)).sum:Nat)/\o=(.ret,[(4,.bool false)],(h.set b (.arr ver 1 [.int .i64 c]))++([.arr 0 8 [t.enc]]++g))):=by
 have hl:t.items.length<=67108864:=Nat.le_trans t.Qe ht
 refine Qg (γ:=Int×Avm.H) (f:=evC (Qb cfg) Qa cfg.pol h.length ws QcQ) (keep:=[1,2,33,34,35]) t.items
     (fun i c=>c.1=c0-(((t.items.take i).map (fun x:It=>x.of.nodes)).sum:Nat)/\(i=0\/0<=c.1))
     (fun i _=>[(1,.ptr b ver 1 0 0),(2,.ptr h.length 0 8 0 0),(33,.isl (t.items.map It.enc)),(34,.int .i64 t.items.length),(35,.int .i64 i)]) (fun _ c=>(h.set b (.arr ver 1 [.int .i64 c.1]))++([.arr 0 8 [t.enc]]++c.2))
     (fun _ _ o=>∃(c:Int) (g:Avm.H),(c=c0-((t.items.map (fun x:It=>x.of.nodes)).sum:Nat)/\(t.items=[]\/(((t.items.map (fun x:It=>x.of.nodes)).sum:Nat):Int)<=c0)/\o=(.exit 2,[(1,.ptr b ver 1 0 0),(2,.ptr h.length 0 8 0 0),(33,.isl (t.items.map It.enc)),(34,.int .i64 t.items.length),(35,.int .i64 t.items.length)],(h.set b (.arr ver 1 [.int .i64 c]))++([.arr 0 8 [t.enc]]++g)))\/(c0<((t.items.map (fun x:It=>x.of.nodes)).sum:Nat)/\o=(.ret,[(4,.bool false)],(h.set b (.arr ver 1 [.int .i64 c]))++([.arr 0 8 [t.enc]]++g)))) ?_ ?_ (c0,g0) ⟨by simp,.inl rfl⟩
 ·intro i x r c hd hi hx hI K hK;obtain⟨c,g⟩:=c;obtain⟨hI1,hI2⟩:=hI;dsimp only at hI1 hI2;have hw:=Qd (n:=i+1) (by omega)
  simp at hw;have hm:x∈t.items:=by rw[←hx]; exact List.getElem_mem hi
  have htk:t.items.take (i+1)=t.items.take i++ [x]:=by rw[List.take_succ_eq_append_getElem hi,hx]
  have hall:(t.items.map (fun x:It=>x.of.nodes)).sum=((t.items.take i).map (fun x:It=>x.of.nodes)).sum+(x.of.nodes+(r.map (fun x:It=>x.of.nodes)).sum):=by
   conv=>lhs; rw[←List.take_append_drop i t.items,hd]
   simp[List.sum_append]
  have hxp:=x.of.XS;rw[htk]at hK;simp only[List.map_append,List.map_cons,List.map_nil,List.sum_append,List.sum_cons,List.sum_nil,Nat.add_zero]at hK;generalize ((t.items.take i).map (fun x:It=>x.of.nodes)).sum=sm at*
  generalize (r.map (fun x:It=>x.of.nodes)).sum=rm at*
  generalize (t.items.map (fun x:It=>x.of.nodes)).sum=tot at*
  have hbx: ∀(c:Int) (X:Avm.H),((h.set b (.arr ver 1 [.int .i64 c]))++X)[b]? =some (.arr ver 1 [.int .i64 c]):=fun c X=>by rw[QaM (by simpa using hb),List.getElem?_set_self hb]
  have hbs: ∀(c d:Int) (X:Avm.H),((h.set b (.arr ver 1 [.int .i64 c]))++X).set b (.arr ver 1 [.int .i64 d])=(h.set b (.arr ver 1 [.int .i64 d]))++X:=fun c d X=>by rw[QdP (by simpa using hb),List.set_set]
  have hwn: ∀n,ws<=h.length+n:=fun n=>by omega
  have hw0:ws<=h.length:=by omega
  have hbl: ∀n,¬h.length+n<h.length:=fun n=>by omega
  have hk8:(if¬t.kind=8/\ ¬t.kind=9 then Ex.exit 2 else Ex.normal)=Ex.normal:=if_neg fun q=>by rcases hcomp with e | e; exact q.1 e; exact q.2 e
  by_cases hneg:c<0
  ·refine⟨_,?_,c,g++ [.arr 0 12 [x.enc]],.inr ⟨by omega,rfl⟩⟩
   simp[QcQ,hi,hx,hbx,hneg,hwn,hw0,hk8]
  ·obtain⟨l',hca,hcb⟩:=hcall x hm c (by omega) (by omega) b ver ws ((h.set b (.arr ver 1 [.int .i64 c]))++([.arr 0 8 [t.enc]]++(g++ [.arr 0 12 [x.enc]]))) (hbx c _) hws
   rw[hbs]at hca;simp at hca;by_cases hle:(x.of.nodes:Int)<=c
   ·have hl':=hcb hle;obtain⟨o,h4,h5⟩:=hK (l',g++ [.arr 0 12 [x.enc]]) ⟨by dsimp only; omega,.inr (by dsimp only; omega)⟩
    refine⟨o,?_,h5⟩
    simp at h4;rw[decide_eq_true hle]at hca;simp[QcQ,hi,hx,hbx,hneg,hwn,hw0,hca,hw,h4,hk8]
   ·refine⟨_,?_,l',g++ [.arr 0 12 [x.enc]],.inr ⟨by omega,rfl⟩⟩
    rw[decide_eq_false hle]at hca;simp[QcQ,hi,hx,hbx,hneg,hwn,hw0,hca,hk8]
 ·intro c K hI;rw[List.take_length]at hI;refine⟨_,?_,c.1,c.2,.inl ⟨hI.1,?_,rfl⟩⟩
  ·simp[QcQ]
  ·rcases hI.2 with h | h
   ·exact .inl (List.eq_nil_of_length_eq_zero h)
   ·exact .inr (by have:=hI.1; omega)
theorem QpP (t:Ty)(c0:Int)(b ver ws:Nat)(h g0:Avm.H)(hb:b<h.length)(hws:ws<=b)(hcomp: ¬(t.kind=8\/t.kind=9)):
    ∃(g:Avm.H) (i:Int),Qa (evC (Qb cfg) Qa cfg.pol h.length ws QcQ) [1,2,33,34,35] [(1,.ptr b ver 1 0 0),(2,.ptr h.length 0 8 0 0),(33,.isl (t.items.map It.enc)),(34,.int .i64 t.items.length),(35,.int .i64 (0:Nat))] ((h.set b (.arr ver 1 [.int .i64 c0]))++([.arr 0 8 [t.enc]]++g0))=some (.exit 2,[(1,.ptr b ver 1 0 0),(2,.ptr h.length 0 8 0 0),(33,.isl (t.items.map It.enc)),(34,.int .i64 t.items.length),(35,.int .i64 i)],(h.set b (.arr ver 1 [.int .i64 c0]))++([.arr 0 8 [t.enc]]++g)):=by
 have n8: ¬t.kind=8:=fun e=>hcomp (.inl e)
 have n9: ¬t.kind=9:=fun e=>hcomp (.inr e)
 have hwn: ∀n,ws<=h.length+n:=fun n=>by omega
 have hw0:ws<=h.length:=by omega
 cases hit:t.items with
 | nil=>
  refine⟨g0,0,QG fun K hK=>?_⟩
  simp[QcQ]
 | cons x r=>
  refine⟨g0++ [.arr 0 12 [x.enc]],0,QG fun K hK=>?_⟩
  simp[QcQ,hwn,hw0,n8,n9]
theorem QpO : ∀(n:Nat) (t:Ty),t.size<=n->t.wid<=67108864-> ∀(left:Int),0<=left->left<=67108864-> ∀(b ver ws:Nat) (h:Avm.H),h[b]? =some (.arr ver 1 [.int .i64 left])->ws<=b-> ∃l':Int,Qb cfg ws 96 [t.enc,.ptr b ver 1 0 0] h=some (.bool (decide ((t.nodes:Int)<=left)),h.set b (.arr ver 1 [.int .i64 l']))/\((t.nodes:Int)<=left->l'=left-t.nodes)
 | 0,t,ht,_,_,_,_,_,_,_,_,_,_=>by have:=t.size_pos; omega
 | n+1,t,ht,hw0,left,hl0,hl1,b,ver,ws,h,hhb,hws=>by
  have hb:b<h.length:=(List.getElem?_eq_some_iff.1 hhb).1
  have hwn: ∀n,ws<=h.length+n:=fun n=>by omega
  have hw0':ws<=h.length:=by omega
  have hdec:IntKind.wrap .i64 (left-1)=left-1:=QU (by omega) (by omega)
  have hbx: ∀(c:Int) (X:Avm.H),((h.set b (.arr ver 1 [.int .i64 c]))++X)[b]? =some (.arr ver 1 [.int .i64 c]):=fun c X=>by rw[QaM (by simpa using hb),List.getElem?_set_self hb]
  have hb0: ∀(X:Avm.H),(h++X)[b]? =some (.arr ver 1 [.int .i64 left]):=fun X=>by rw[QaM hb,hhb]
  have hbs0: ∀(d:Int) (X:Avm.H),(h++X).set b (.arr ver 1 [.int .i64 d])=(h.set b (.arr ver 1 [.int .i64 d]))++X:=fun d X=>QdP hb
  have htk: ∀(c:Int) (X:Avm.H),List.take h.length ((h.set b (.arr ver 1 [.int .i64 c]))++X)=h.set b (.arr ver 1 [.int .i64 c]):=fun c X=>by rw[List.take_left' (by simp)]
  have hinn:(t.inner.map Ty.nodes).sum=(t.kids.map Ty.nodes).sum+(if t.comp then(t.items.map fun x:It=>x.of.nodes).sum else 0):=by
   unfold Ty.inner;cases t.comp<;>simp[List.sum_append,Function.comp_def]
  have hnod:=t.QC;rw[hinn]at hnod;obtain⟨o0,e0,c,g,p0⟩:=QsS t hw0 (left-1) (by omega) (by omega) b ver ws h [] hb hws (fun x hx left a1 a2 b ver ws h a3 a4=>QpO n x (by have:=Ty.Xa hx; omega) (Nat.le_trans (Ty.ZT hx) hw0) left a1 a2 b ver ws h a3 a4)
  rcases p0 with⟨hc,hk0,rfl⟩ | ⟨hlt,rfl⟩
  ·have hcge: -1<=c:=by
     rcases hk0 with q | q
     ·rw[q]at hc; simp at hc; omega
     ·omega
   simp at e0;by_cases hcomp:t.kind=8\/t.kind=9
   ·have hcp:t.comp=true:=by simp[Ty.comp,hcomp]
    rw[hcp]at hnod;simp only[if_true]at hnod;obtain⟨o1,e1,c1,g1,p1⟩:=QsR t hw0 c hcge (by omega) b ver ws h g hb hws hcomp (fun x hx left a1 a2 b ver ws h a3 a4=>QpO n x.of (by have:=Ty.mem_of hx; omega) (Nat.le_trans (Ty.ZI hx) hw0) left a1 a2 b ver ws h a3 a4)
    rcases p1 with⟨hc1,hk1,rfl⟩ | ⟨hlt1,rfl⟩
    ·have hd:decide ((t.nodes:Int)<=left)=decide (0<=c1):=by congr 1; apply propext; omega
     refine⟨c1,Qc rfl rfl ?_,fun _=>by omega⟩
     rw[hd];simp at e1;simp[F96,c96,hb0,hbs0,hbx,hdec,hws,hwn,hw0',e0,e1,htk]
    ·have hd:decide ((t.nodes:Int)<=left)=false:=by apply decide_eq_false; omega
     refine⟨c1,Qc rfl rfl ?_,fun _=>by omega⟩
     rw[hd];simp at e1;simp[F96,c96,hb0,hbs0,hbx,hdec,hws,hwn,hw0',e0,e1,htk]
   ·have hcp:t.comp=false:=by simp[Ty.comp]; exact⟨fun e=>hcomp (.inl e),fun e=>hcomp (.inr e)⟩
    rw[hcp]at hnod;simp only[Bool.false_eq_true,if_false]at hnod;obtain⟨g1,i1,e1⟩:=QpP t c b ver ws h g hb hws hcomp;have hd:decide ((t.nodes:Int)<=left)=decide (0<=c):=by congr 1; apply propext; omega
    refine⟨c,Qc rfl rfl ?_,fun _=>by omega⟩
    rw[hd];simp at e1;simp[F96,c96,hb0,hbs0,hbx,hdec,hws,hwn,hw0',e0,e1,htk]
  ·have hd:decide ((t.nodes:Int)<=left)=false:=by
     apply decide_eq_false
     have:(0:Int)<=((if t.comp then(t.items.map fun x:It=>x.of.nodes).sum else 0:Nat):Int):=by omega
     omega
   refine⟨c,Qc rfl rfl ?_,fun h=>by simp[hd]at*; omega⟩
   rw[hd];simp at e0;simp[F96,c96,hb0,hbs0,hbx,hdec,hws,hwn,hw0',e0,htk]
end Go.Proofs.YtflbneepngjglaaGreatDoor
