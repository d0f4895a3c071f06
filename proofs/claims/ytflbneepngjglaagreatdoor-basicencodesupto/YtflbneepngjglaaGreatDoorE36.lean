/- The type behind a type: the program's way. -/
import Derived.Test.YtflbneepngjglaaGreatDoorE35
set_option linter.all false
namespace Go.Proofs.YtflbneepngjglaaGreatDoor
open Go Go.Avm
theorem QdW {h X:Avm.H}{b:Nat}{v:Qp}(hb:b<h.length):(h++X).set b v=h.set b v++X:=List.set_append_left b v hb
theorem QaX {h X:Avm.H}{b:Nat}(hb:b<h.length):(h++X)[b]? =h[b]?:=List.getElem?_append_left hb
theorem Qtq (t:Ty)(ht:t.wid<=67108864)(c0:Int)(hc0: -1<=c0)(hc1:c0<=67108864)(b ver ws:Nat)(h g0:Avm.H)(hb:b<h.length)(hws:ws<=b)(hcall: ∀x∈t.kids,∀(left:Int),0<=left->left<=67108864-> ∀(b ver ws:Nat) (h:Avm.H),h[b]? =some (.arr ver 1 [.int .i64 left])->ws<=b-> ∃l':Int,Qb cfg ws 96 [x.enc,.ptr b ver 1 0 0] h=some (.bool (decide ((x.nodes:Int)<=left)),h.set b (.arr ver 1 [.int .i64 l']))/\((x.nodes:Int)<=left->l'=left-x.nodes)):
    ∃(o:Ex×Env×Avm.H),Qa (evC (Qb cfg) Qa cfg.pol h.length ws QiM) [1,2,15,16,17] [(1,.ptr b ver 1 0 0),(2,.ptr h.length 0 8 0 0),(15,.isl (t.kids.map Ty.enc)),(16,.int .i64 t.kids.length),(17,.int .i64 (0:Nat))] ((h.set b (.arr ver 1 [.int .i64 c0]))++([.arr 0 8 [t.enc]]++g0))=some o/\ ∃(c:Int) (g:Avm.H),(c=c0-((t.kids.map Ty.nodes).sum:Nat)/\(t.kids=[]\/(((t.kids.map Ty.nodes).sum:Nat):Int)<=c0)/\o=(.exit 0,[(1,.ptr b ver 1 0 0),(2,.ptr h.length 0 8 0 0),(15,.isl (t.kids.map Ty.enc)),(16,.int .i64 t.kids.length),(17,.int .i64 t.kids.length)],(h.set b (.arr ver 1 [.int .i64 c]))++([.arr 0 8 [t.enc]]++g)))\/(c0<((t.kids.map Ty.nodes).sum:Nat)/\o=(.ret,[(4,.bool false)],(h.set b (.arr ver 1 [.int .i64 c]))++([.arr 0 8 [t.enc]]++g))):=by
 have hl:t.kids.length<=67108864:=Nat.le_trans t.ZK ht
 refine Qg (γ:=Int×Avm.H) (f:=evC (Qb cfg) Qa cfg.pol h.length ws QiM) (keep:=[1,2,15,16,17]) t.kids
     (fun i c=>c.1=c0-(((t.kids.take i).map Ty.nodes).sum:Nat)/\(i=0\/0<=c.1))
     (fun i _=>[(1,.ptr b ver 1 0 0),(2,.ptr h.length 0 8 0 0),(15,.isl (t.kids.map Ty.enc)),(16,.int .i64 t.kids.length),(17,.int .i64 i)]) (fun _ c=>(h.set b (.arr ver 1 [.int .i64 c.1]))++([.arr 0 8 [t.enc]]++c.2))
     (fun _ _ o=>∃(c:Int) (g:Avm.H),(c=c0-((t.kids.map Ty.nodes).sum:Nat)/\(t.kids=[]\/(((t.kids.map Ty.nodes).sum:Nat):Int)<=c0)/\o=(.exit 0,[(1,.ptr b ver 1 0 0),(2,.ptr h.length 0 8 0 0),(15,.isl (t.kids.map Ty.enc)),(16,.int .i64 t.kids.length),(17,.int .i64 t.kids.length)],(h.set b (.arr ver 1 [.int .i64 c]))++([.arr 0 8 [t.enc]]++g)))\/(c0<((t.kids.map Ty.nodes).sum:Nat)/\o=(.ret,[(4,.bool false)],(h.set b (.arr ver 1 [.int .i64 c]))++([.arr 0 8 [t.enc]]++g)))) ?_ ?_ (c0,g0) ⟨by simp,.inl rfl⟩
 ·intro i x r c hd hi hx hI K hK;obtain⟨c,g⟩:=c;obtain⟨hI1,hI2⟩:=hI;dsimp only at hI1 hI2;have hw:=Qd (n:=i+1) (by omega)
  simp at hw;have hm:x∈t.kids:=by rw[←hx]; exact List.getElem_mem hi
  have htk:t.kids.take (i+1)=t.kids.take i++ [x]:=by rw[List.take_succ_eq_append_getElem hi,hx]
  have hall:(t.kids.map Ty.nodes).sum=((t.kids.take i).map Ty.nodes).sum+(x.nodes+(r.map Ty.nodes).sum):=by
   conv=>lhs; rw[←List.take_append_drop i t.kids,hd]
   simp[List.sum_append]
  have hxp:=x.XT;rw[htk]at hK;simp only[List.map_append,List.map_cons,List.map_nil,List.sum_append,List.sum_cons,List.sum_nil,Nat.add_zero]at hK;generalize ((t.kids.take i).map Ty.nodes).sum=sm at*;generalize (r.map Ty.nodes).sum=rm at*;generalize (t.kids.map Ty.nodes).sum=tot at*;have hbx: ∀(c:Int) (X:Avm.H),((h.set b (.arr ver 1 [.int .i64 c]))++X)[b]? =some (.arr ver 1 [.int .i64 c]):=fun c X=>by rw[QaX (by simpa using hb),List.getElem?_set_self hb]
  have hbs: ∀(c d:Int) (X:Avm.H),((h.set b (.arr ver 1 [.int .i64 c]))++X).set b (.arr ver 1 [.int .i64 d])=(h.set b (.arr ver 1 [.int .i64 d]))++X:=fun c d X=>by rw[QdW (by simpa using hb),List.set_set]
  have hwn: ∀n,ws<=h.length+n:=fun n=>by omega
  have hw0:ws<=h.length:=by omega
  have hbl: ∀n,¬h.length+n<h.length:=fun n=>by omega
  by_cases hneg:c<0
  ·refine⟨_,?_,c,g++ [.arr 0 8 [x.enc]],.inr ⟨by omega,rfl⟩⟩
   simp[QiM,hi,hx,hbx,hneg,hwn,hw0]
  ·obtain⟨l',hca,hcb⟩:=hcall x hm c (by omega) (by omega) b ver ws ((h.set b (.arr ver 1 [.int .i64 c]))++([.arr 0 8 [t.enc]]++(g++ [.arr 0 8 [x.enc]]))) (hbx c _) hws
   rw[hbs]at hca;simp at hca;by_cases hle:(x.nodes:Int)<=c
   ·have hl':=hcb hle;obtain⟨o,h4,h5⟩:=hK (l',g++ [.arr 0 8 [x.enc]]) ⟨by dsimp only; omega,.inr (by dsimp only; omega)⟩
    refine⟨o,?_,h5⟩
    simp at h4;rw[decide_eq_true hle]at hca;simp[QiM,hi,hx,hbx,hneg,hwn,hw0,hca,hw,h4]
   ·refine⟨_,?_,l',g++ [.arr 0 8 [x.enc]],.inr ⟨by omega,rfl⟩⟩
    rw[decide_eq_false hle]at hca;simp[QiM,hi,hx,hbx,hneg,hwn,hw0,hca]
 ·intro c K hI;rw[List.take_length]at hI;refine⟨_,?_,c.1,c.2,.inl ⟨hI.1,?_,rfl⟩⟩
  ·simp[QiM]
  ·rcases hI.2 with h | h
   ·exact .inl (List.eq_nil_of_length_eq_zero h)
   ·exact .inr (by have:=hI.1; omega)
theorem Qtp (t:Ty)(ht:t.wid<=67108864)(c0:Int)(hc0: -1<=c0)(hc1:c0<=67108864)(b ver ws:Nat)(h g0:Avm.H)(hb:b<h.length)(hws:ws<=b)(hcomp:t.kind=8\/t.kind=9)(hcall: ∀x∈t.items,∀(left:Int),0<=left->left<=67108864-> ∀(b ver ws:Nat) (h:Avm.H),h[b]? =some (.arr ver 1 [.int .i64 left])->ws<=b-> ∃l':Int,Qb cfg ws 96 [x.of.enc,.ptr b ver 1 0 0] h=some (.bool (decide ((x.of.nodes:Int)<=left)),h.set b (.arr ver 1 [.int .i64 l']))/\((x.of.nodes:Int)<=left->l'=left-x.of.nodes)):
    ∃(o:Ex×Env×Avm.H),Qa (evC (Qb cfg) Qa cfg.pol h.length ws QcY) [1,2,33,34,35] [(1,.ptr b ver 1 0 0),(2,.ptr h.length 0 8 0 0),(33,.isl (t.items.map It.enc)),(34,.int .i64 t.items.length),(35,.int .i64 (0:Nat))] ((h.set b (.arr ver 1 [.int .i64 c0]))++([.arr 0 8 [t.enc]]++g0))=some o/\ ∃(c:Int) (g:Avm.H),(c=c0-((t.items.map (fun x:It=>x.of.nodes)).sum:Nat)/\(t.items=[]\/(((t.items.map (fun x:It=>x.of.nodes)).sum:Nat):Int)<=c0)/\o=(.exit 2,[(1,.ptr b ver 1 0 0),(2,.ptr h.length 0 8 0 0),(33,.isl (t.items.map It.enc)),(34,.int .i64 t.items.length),(35,.int .i64 t.items.length)],(h.set b (.arr ver 1 [.int .i64 c]))++([.arr 0 8 [t.enc]]++g)))\/(c0<((t.items.map (fun x:It=>x.of.nodes)).sum:Nat)/\o=(.ret,[(4,.bool false)],(h.set b (.arr ver 1 [.int .i64 c]))++([.arr 0 8 [t.enc]]++g))):=by
 have hl:t.items.length<=67108864:=Nat.le_trans t.Qe ht
 refine Qg (γ:=Int×Avm.H) (f:=evC (Qb cfg) Qa cfg.pol h.length ws QcY) (keep:=[1,2,33,34,35]) t.items
     (fun i c=>c.1=c0-(((t.items.take i).map (fun x:It=>x.of.nodes)).sum:Nat)/\(i=0\/0<=c.1))
     (fun i _=>[(1,.ptr b ver 1 0 0),(2,.ptr h.length 0 8 0 0),(33,.isl (t.items.map It.enc)),(34,.int .i64 t.items.length),(35,.int .i64 i)]) (fun _ c=>(h.set b (.arr ver 1 [.int .i64 c.1]))++([.arr 0 8 [t.enc]]++c.2))
     (fun _ _ o=>∃(c:Int) (g:Avm.H),(c=c0-((t.items.map (fun x:It=>x.of.nodes)).sum:Nat)/\(t.items=[]\/(((t.items.map (fun x:It=>x.of.nodes)).sum:Nat):Int)<=c0)/\o=(.exit 2,[(1,.ptr b ver 1 0 0),(2,.ptr h.length 0 8 0 0),(33,.isl (t.items.map It.enc)),(34,.int .i64 t.items.length),(35,.int .i64 t.items.length)],(h.set b (.arr ver 1 [.int .i64 c]))++([.arr 0 8 [t.enc]]++g)))\/(c0<((t.items.map (fun x:It=>x.of.nodes)).sum:Nat)/\o=(.ret,[(4,.bool false)],(h.set b (.arr ver 1 [.int .i64 c]))++([.arr 0 8 [t.enc]]++g)))) ?_ ?_ (c0,g0) ⟨by simp,.inl rfl⟩
 ·intro i x r c hd hi hx hI K hK;obtain⟨c,g⟩:=c;obtain⟨hI1,hI2⟩:=hI;dsimp only at hI1 hI2;have hw:=Qd (n:=i+1) (by omega)
  simp at hw;have hm:x∈t.items:=by rw[←hx]; exact List.getElem_mem hi
  have htk:t.items.take (i+1)=t.items.take i++ [x]:=by rw[List.take_succ_eq_append_getElem hi,hx]
  have hall:(t.items.map (fun x:It=>x.of.nodes)).sum=((t.items.take i).map (fun x:It=>x.of.nodes)).sum+(x.of.nodes+(r.map (fun x:It=>x.of.nodes)).sum):=by
   conv=>lhs; rw[←List.take_append_drop i t.items,hd]
   simp[List.sum_append]
  have hxp:=x.of.XT;rw[htk]at hK;simp only[List.map_append,List.map_cons,List.map_nil,List.sum_append,List.sum_cons,List.sum_nil,Nat.add_zero]at hK;generalize ((t.items.take i).map (fun x:It=>x.of.nodes)).sum=sm at*
  generalize (r.map (fun x:It=>x.of.nodes)).sum=rm at*
  generalize (t.items.map (fun x:It=>x.of.nodes)).sum=tot at*
  have hbx: ∀(c:Int) (X:Avm.H),((h.set b (.arr ver 1 [.int .i64 c]))++X)[b]? =some (.arr ver 1 [.int .i64 c]):=fun c X=>by rw[QaX (by simpa using hb),List.getElem?_set_self hb]
  have hbs: ∀(c d:Int) (X:Avm.H),((h.set b (.arr ver 1 [.int .i64 c]))++X).set b (.arr ver 1 [.int .i64 d])=(h.set b (.arr ver 1 [.int .i64 d]))++X:=fun c d X=>by rw[QdW (by simpa using hb),List.set_set]
  have hwn: ∀n,ws<=h.length+n:=fun n=>by omega
  have hw0:ws<=h.length:=by omega
  have hbl: ∀n,¬h.length+n<h.length:=fun n=>by omega
  have hk8:(if¬t.kind=8/\ ¬t.kind=9 then Ex.exit 2 else Ex.normal)=Ex.normal:=if_neg fun q=>by rcases hcomp with e | e; exact q.1 e; exact q.2 e
  by_cases hneg:c<0
  ·refine⟨_,?_,c,g++ [.arr 0 12 [x.enc]],.inr ⟨by omega,rfl⟩⟩
   simp[QcY,hi,hx,hbx,hneg,hwn,hw0,hk8]
  ·obtain⟨l',hca,hcb⟩:=hcall x hm c (by omega) (by omega) b ver ws ((h.set b (.arr ver 1 [.int .i64 c]))++([.arr 0 8 [t.enc]]++(g++ [.arr 0 12 [x.enc]]))) (hbx c _) hws
   rw[hbs]at hca;simp at hca;by_cases hle:(x.of.nodes:Int)<=c
   ·have hl':=hcb hle;obtain⟨o,h4,h5⟩:=hK (l',g++ [.arr 0 12 [x.enc]]) ⟨by dsimp only; omega,.inr (by dsimp only; omega)⟩
    refine⟨o,?_,h5⟩
    simp at h4;rw[decide_eq_true hle]at hca;simp[QcY,hi,hx,hbx,hneg,hwn,hw0,hca,hw,h4,hk8]
   ·refine⟨_,?_,l',g++ [.arr 0 12 [x.enc]],.inr ⟨by omega,rfl⟩⟩
    rw[decide_eq_false hle]at hca;simp[QcY,hi,hx,hbx,hneg,hwn,hw0,hca,hk8]
 ·intro c K hI;rw[List.take_length]at hI;refine⟨_,?_,c.1,c.2,.inl ⟨hI.1,?_,rfl⟩⟩
  ·simp[QcY]
  ·rcases hI.2 with h | h
   ·exact .inl (List.eq_nil_of_length_eq_zero h)
   ·exact .inr (by have:=hI.1; omega)
theorem Qqt (t:Ty)(c0:Int)(b ver ws:Nat)(h g0:Avm.H)(hb:b<h.length)(hws:ws<=b)(hcomp: ¬(t.kind=8\/t.kind=9)):
    ∃(g:Avm.H) (i:Int),Qa (evC (Qb cfg) Qa cfg.pol h.length ws QcY) [1,2,33,34,35] [(1,.ptr b ver 1 0 0),(2,.ptr h.length 0 8 0 0),(33,.isl (t.items.map It.enc)),(34,.int .i64 t.items.length),(35,.int .i64 (0:Nat))] ((h.set b (.arr ver 1 [.int .i64 c0]))++([.arr 0 8 [t.enc]]++g0))=some (.exit 2,[(1,.ptr b ver 1 0 0),(2,.ptr h.length 0 8 0 0),(33,.isl (t.items.map It.enc)),(34,.int .i64 t.items.length),(35,.int .i64 i)],(h.set b (.arr ver 1 [.int .i64 c0]))++([.arr 0 8 [t.enc]]++g)):=by
 have n8: ¬t.kind=8:=fun e=>hcomp (.inl e)
 have n9: ¬t.kind=9:=fun e=>hcomp (.inr e)
 have hwn: ∀n,ws<=h.length+n:=fun n=>by omega
 have hw0:ws<=h.length:=by omega
 cases hit:t.items with
 | nil=>
  refine⟨g0,0,QF fun K hK=>?_⟩
  simp[QcY]
 | cons x r=>
  refine⟨g0++ [.arr 0 12 [x.enc]],0,QF fun K hK=>?_⟩
  simp[QcY,hwn,hw0,n8,n9]
theorem Qqs : ∀(n:Nat) (t:Ty),t.size<=n->t.wid<=67108864-> ∀(left:Int),0<=left->left<=67108864-> ∀(b ver ws:Nat) (h:Avm.H),h[b]? =some (.arr ver 1 [.int .i64 left])->ws<=b-> ∃l':Int,Qb cfg ws 96 [t.enc,.ptr b ver 1 0 0] h=some (.bool (decide ((t.nodes:Int)<=left)),h.set b (.arr ver 1 [.int .i64 l']))/\((t.nodes:Int)<=left->l'=left-t.nodes)
 | 0,t,ht,_,_,_,_,_,_,_,_,_,_=>by have:=t.size_pos; omega
 | n+1,t,ht,hw0,left,hl0,hl1,b,ver,ws,h,hhb,hws=>by
  have hb:b<h.length:=(List.getElem?_eq_some_iff.1 hhb).1
  have hwn: ∀n,ws<=h.length+n:=fun n=>by omega
  have hw0':ws<=h.length:=by omega
  have hdec:IntKind.wrap .i64 (left-1)=left-1:=Qo (by omega) (by omega)
  have hbx: ∀(c:Int) (X:Avm.H),((h.set b (.arr ver 1 [.int .i64 c]))++X)[b]? =some (.arr ver 1 [.int .i64 c]):=fun c X=>by rw[QaX (by simpa using hb),List.getElem?_set_self hb]
  have hb0: ∀(X:Avm.H),(h++X)[b]? =some (.arr ver 1 [.int .i64 left]):=fun X=>by rw[QaX hb,hhb]
  have hbs0: ∀(d:Int) (X:Avm.H),(h++X).set b (.arr ver 1 [.int .i64 d])=(h.set b (.arr ver 1 [.int .i64 d]))++X:=fun d X=>QdW hb
  have htk: ∀(c:Int) (X:Avm.H),List.take h.length ((h.set b (.arr ver 1 [.int .i64 c]))++X)=h.set b (.arr ver 1 [.int .i64 c]):=fun c X=>by rw[List.take_left' (by simp)]
  have hinn:(t.inner.map Ty.nodes).sum=(t.kids.map Ty.nodes).sum+(if t.comp then(t.items.map fun x:It=>x.of.nodes).sum else 0):=by
   unfold Ty.inner;cases t.comp<;>simp[List.sum_append,Function.comp_def]
  have hnod:=t.QD;rw[hinn]at hnod;obtain⟨o0,e0,c,g,p0⟩:=Qtq t hw0 (left-1) (by omega) (by omega) b ver ws h [] hb hws (fun x hx left a1 a2 b ver ws h a3 a4=>Qqs n x (by have:=Ty.Xa hx; omega) (Nat.le_trans (Ty.ZX hx) hw0) left a1 a2 b ver ws h a3 a4)
  rcases p0 with⟨hc,hk0,rfl⟩ | ⟨hlt,rfl⟩
  ·have hcge: -1<=c:=by
     rcases hk0 with q | q
     ·rw[q]at hc; simp at hc; omega
     ·omega
   simp at e0;by_cases hcomp:t.kind=8\/t.kind=9
   ·have hcp:t.comp=true:=by simp[Ty.comp,hcomp]
    rw[hcp]at hnod;simp only[if_true]at hnod;obtain⟨o1,e1,c1,g1,p1⟩:=Qtp t hw0 c hcge (by omega) b ver ws h g hb hws hcomp (fun x hx left a1 a2 b ver ws h a3 a4=>Qqs n x.of (by have:=Ty.mem_of hx; omega) (Nat.le_trans (Ty.ZL hx) hw0) left a1 a2 b ver ws h a3 a4)
    rcases p1 with⟨hc1,hk1,rfl⟩ | ⟨hlt1,rfl⟩
    ·have hd:decide ((t.nodes:Int)<=left)=decide (0<=c1):=by congr 1; apply propext; omega
     refine⟨c1,Qc rfl rfl ?_,fun _=>by omega⟩
     rw[hd];simp at e1;simp[F96,c96,hb0,hbs0,hbx,hdec,hws,hwn,hw0',e0,e1,htk]
    ·have hd:decide ((t.nodes:Int)<=left)=false:=by apply decide_eq_false; omega
     refine⟨c1,Qc rfl rfl ?_,fun _=>by omega⟩
     rw[hd];simp at e1;simp[F96,c96,hb0,hbs0,hbx,hdec,hws,hwn,hw0',e0,e1,htk]
   ·have hcp:t.comp=false:=by simp[Ty.comp]; exact⟨fun e=>hcomp (.inl e),fun e=>hcomp (.inr e)⟩
    rw[hcp]at hnod;simp only[Bool.false_eq_true,if_false]at hnod;obtain⟨g1,i1,e1⟩:=Qqt t c b ver ws h g hb hws hcomp;have hd:decide ((t.nodes:Int)<=left)=decide (0<=c):=by congr 1; apply propext; omega
    refine⟨c,Qc rfl rfl ?_,fun _=>by omega⟩
    rw[hd];simp at e1;simp[F96,c96,hb0,hbs0,hbx,hdec,hws,hwn,hw0',e0,e1,htk]
  ·have hd:decide ((t.nodes:Int)<=left)=false:=by
     apply decide_eq_false
     have:(0:Int)<=((if t.comp then(t.items.map fun x:It=>x.of.nodes).sum else 0:Nat):Int):=by omega
     omega
   refine⟨c,Qc rfl rfl ?_,fun h=>by simp[hd]at*; omega⟩
   rw[hd];simp at e0;simp[F96,c96,hb0,hbs0,hbx,hdec,hws,hwn,hw0',e0,htk]
end Go.Proofs.YtflbneepngjglaaGreatDoor
namespace Go.Proofs.YtflbneepngjglaaGreatDoor
open Go Go.Avm
def Jw (m:Md)(t:Ty):Option Ty:=match m.defs.find? (isD t.name)with
 | none=>none
 | some d=>if d.params.length≠t.kids.length then none else if d.params=[]then some d.of else if(d.of.put d.params t.kids).nodes<=600 then some (d.of.put d.params t.kids)else none
def beh (m:Md):Nat->Ty->Option Ty
 | 0,_=>none
 | n+1,t=>if t.kind=10 then(Jw m t).bind (beh m n)else some t
theorem QgV (N:Nat)(ps:List ByteArray)(args:List Ty)(ha: ∀a∈args,a.wid<=N): ∀(n:Nat) (t:Ty),t.size<=n->t.wid<=N->(t.put ps args).wid<=N
 | 0,t,h,_=>by have:=t.size_pos; omega
 | n+1,t,h,hw=>by
  rw[Ty.put_eq];cases hp:t.par ps with
  | some i=>
   dsimp only;cases hi:args[i]? with
   | none=>simp[Ty.zero,Ty.Xo,It.XX,Ty.XX]; exact Nat.zero_le _
   | some a=>exact ha a (List.mem_of_getElem? hi)
  | none=>
   dsimp only;rw[Ty.Xo]at hw ⊢;simp only[Ty.Zs,Ty.Xl,Ty.ZG,List.length_map]
   have h1:It.XX (t.items.map fun x=>x.QU (x.of.put ps args))<=N:=It.QaE fun x hx=>by
    obtain⟨y,hy,rfl⟩:=List.mem_map.1 hx;have h2:=QgV N ps args ha n y.of (by have:=Ty.mem_of hy; omega) (by have:=Ty.ZL hy; rw[Ty.Xo t]at this; omega)
    have h3:=Ty.Jh hy;rw[Ty.Xo t]at h3;rw[It.Xo]at h3 ⊢;simp only[It.QU,It.Zs,It.QyY,It.QrD];omega
   have h2:Ty.XX (t.kids.map fun x=>x.put ps args)<=N:=Ty.QaE fun x hx=>by
    obtain⟨y,hy,rfl⟩:=List.mem_map.1 hx;exact QgV N ps args ha n y (by have:=Ty.Xa hy; omega) (by have:=Ty.ZX hy; rw[Ty.Xo t]at this; omega)
   omega
theorem Quk (m:Md)(hm:m.ok){t u:Ty}(ht:t.wid<=67108864)(h:Jw m t=some u):u.wid<=67108864:=by
 unfold Jw at h;split at h
 ·cases h
 ·rename_i d hd;have hdm:=List.mem_of_find?_eq_some hd
  have hdw:d.of.wid<=67108864:=Nat.le_trans d.of.XE (hm.of d hdm);split at h
  ·cases h
  ·split at h
   ·cases h; exact hdw
   ·split at h
    ·cases h;exact QgV _ _ _ (fun a ha=>Nat.le_trans (Ty.ZX ha) ht) _ _ (Nat.le_refl _) hdw
    ·cases h
def Qpd (m:Md)(h:Avm.H):Option Ty->Ex×Env×Avm.H->Prop
 | some b,o=>∃(u:Ty) (g:Avm.H),o=(.ret,[(4,.ptr (h.length+2) 0 8 0 0),(5,.bool true)],h++([.arr 0 2 [m.enc],.arr 0 8 [u.enc],.arr 0 8 [b.enc]]++g))
 | none,o=>∃(u:Ty) (g:Avm.H),o=(.ret,[(4,.ptr (h.length+2) 0 8 0 0),(5,.bool false)],h++([.arr 0 2 [m.enc],.arr 0 8 [u.enc],.arr 0 8 [Ty.zero.enc]]++g))\/o=(.exit 0,[(2,.ptr h.length 0 2 0 0),(3,.ptr (h.length+1) 0 8 0 0),(4,.ptr (h.length+2) 0 8 0 0),(8,.int .i64 21)],h++([.arr 0 2 [m.enc],.arr 0 8 [u.enc],.arr 0 8 [Ty.zero.enc]]++g))
theorem QqM (m:Md)(h:Avm.H)(u:Ty)(g:Avm.H):Qpd m h none (.ret,[(4,.ptr (h.length+2) 0 8 0 0),(5,.bool false)],h++([.arr 0 2 [m.enc],.arr 0 8 [u.enc],.arr 0 8 [Ty.zero.enc]]++g)):=⟨u,g,.inl rfl⟩
theorem QyG (m:Md)(h:Avm.H)(u:Ty)(g:Avm.H):Qpd m h none (.exit 0,[(2,.ptr h.length 0 2 0 0),(3,.ptr (h.length+1) 0 8 0 0),(4,.ptr (h.length+2) 0 8 0 0),(8,.int .i64 21)],h++([.arr 0 2 [m.enc],.arr 0 8 [u.enc],.arr 0 8 [Ty.zero.enc]]++g)):=⟨u,g,.inr rfl⟩
theorem QyF (m:Md)(h:Avm.H)(b u:Ty)(g:Avm.H):Qpd m h (some b) (.ret,[(4,.ptr (h.length+2) 0 8 0 0),(5,.bool true)],h++([.arr 0 2 [m.enc],.arr 0 8 [u.enc],.arr 0 8 [b.enc]]++g)):=⟨u,g,rfl⟩
theorem QoW (m:Md)(hm:m.ok)(t:Ty)(ht:t.wid<=67108864)(h:Avm.H): ∃o,Qa (evC (Qb cfg) Qa cfg.pol h.length h.length QcZ) [2,3,4,8] [(2,.ptr h.length 0 2 0 0),(3,.ptr (h.length+1) 0 8 0 0),(4,.ptr (h.length+2) 0 8 0 0),(8,.int .i64 (0:Nat))] (h++([.arr 0 2 [m.enc],.arr 0 8 [t.enc],.arr 0 8 [Ty.zero.enc]]++ []))=some o/\
    Qpd m h (beh m 21 t) o:=by
 refine Qg (γ:=Ty×Avm.H) (f:=evC (Qb cfg) Qa cfg.pol h.length h.length QcZ) (keep:=[2,3,4,8]) (List.range 21)
  (fun i c=>c.1.wid<=67108864/\beh m 21 t=beh m (21-i) c.1)
  (fun i _=>[(2,.ptr h.length 0 2 0 0),(3,.ptr (h.length+1) 0 8 0 0),(4,.ptr (h.length+2) 0 8 0 0),(8,.int .i64 i)]) (fun _ c=>h++([.arr 0 2 [m.enc],.arr 0 8 [c.1.enc],.arr 0 8 [Ty.zero.enc]]++c.2))
  (fun _ _ o=>Qpd m h (beh m 21 t) o) ?_ ?_ (t,[]) ⟨ht,rfl⟩
 ·intro i x r c hd hi hx hI K hK;obtain⟨u,g⟩:=c;obtain⟨hI1,hI2⟩:=hI;dsimp only at hI1 hI2;have hi:i<21:=by simpa using hi
  have hi':(i:Int)<21:=by omega
  have hw:=Qd (n:=i+1) (by omega)
  simp at hw
  have hbe:beh m (21-i) u=if u.kind=10 then(Jw m u).bind (beh m (21-(i+1)))else some u:=by
   rw[show 21-i=(21-(i+1))+1 by omega,beh]
  rw[hbe]at hI2;by_cases q10:u.kind=10
  ·rw[if_pos q10]at hI2;have hdf:=Qwj m u.name hm.len;simp[Md.enc]at hdf;unfold Jw at hI2;cases hd:m.defs.find? (isD u.name)with
   | none=>
    rw[hd]at hI2 hdf;simp at hI2;rw[hI2];simp[Qty]at hdf;refine⟨_,?_,QqM m h u g⟩
    simp[QcZ,hi',q10,hdf,Md.enc,Ty.zero]
   | some d=>
    rw[hd]at hI2 hdf;have hdm:=List.mem_of_find?_eq_some hd
    have hdw:d.of.wid<=67108864:=Nat.le_trans d.of.XE (hm.of d hdm);simp[Qty,Df.cells]at hdf;by_cases hlen:d.params.length=u.kids.length
    ·have hlen':((d.params.length:Nat):Int)=(u.kids.length:Nat):=by omega
     by_cases hp:d.params=[]
     ·simp[hlen,hp]at hI2;have hk0:u.kids.length=0:=by rw[←hlen,hp]; rfl
      have hd0:d.params.length=0:=by rw[hp]; rfl
      obtain⟨o,h4,h5⟩:=hK (d.of,g) ⟨hdw,by rw[hI2]; simp[hp,hk0]⟩
      refine⟨o,?_,h5⟩
      simp[Md.enc,Ty.zero]at h4;simp[QcZ,hi',q10,hdf,Md.enc,Ty.zero,hd0,hk0,hw,h4]
     ·have hp0: ¬d.params.length=0:=fun e=>hp (List.eq_nil_of_length_eq_zero e)
      have hp0': ¬u.kids.length=0:=by omega
      have hput:=fun ws h=>QpT d.params u.kids (hm.params d hdm) hlen _ d.of (Nat.le_refl _) hdw ws h
      have hpw:=QgV 67108864 d.params u.kids (fun a ha=>Nat.le_trans (Ty.ZX ha) hI1) _ d.of (Nat.le_refl _) hdw
      generalize hpt:d.of.put d.params u.kids=p at hput hpw;simp only[hpt]at hI2;obtain⟨l',hfe,_⟩:=Qqs _ p (Nat.le_refl _) hpw 600 (by omega) (by omega) (h.length+(g.length+3)) 0 h.length (h++([.arr 0 2 [m.enc],.arr 0 8 [p.enc],.arr 0 8 [Ty.zero.enc]]++(g++ [.arr 0 1 [.int .i64 600]]))) (by simp) (by omega)
      simp[Md.enc,Ty.zero]at hfe hput;by_cases hle:p.nodes<=600
      ·have hle':(p.nodes:Int)<=600:=by omega
       simp[hlen,hp,hle]at hI2;obtain⟨o,h4,h5⟩:=hK (p,g++ [.arr 0 1 [.int .i64 l']]) ⟨hpw,by rw[hI2]; simp⟩
       refine⟨o,?_,h5⟩
       simp[Md.enc,Ty.zero]at h4;simp[hle']at hfe;simp[QcZ,hi',q10,hdf,Md.enc,Ty.zero,hlen',hp0',hput,hfe,hw,h4]
      ·have hle': ¬(p.nodes:Int)<=600:=by omega
       simp[hlen,hp,hle]at hI2;rw[hI2];refine⟨_,?_,QqM m h p (g++ [.arr 0 1 [.int .i64 l']])⟩
       simp[hle']at hfe;simp[QcZ,hi',q10,hdf,Md.enc,Ty.zero,hlen',hp0',hput,hfe]
    ·have hlen': ¬((d.params.length:Nat):Int)=(u.kids.length:Nat):=by omega
     simp[hlen]at hI2;rw[hI2];refine⟨_,?_,QqM m h u g⟩
     simp[QcZ,hi',q10,hdf,Md.enc,Ty.zero,hlen']
  ·rw[if_neg q10]at hI2;rw[hI2];refine⟨_,?_,QyF m h u u g⟩
   simp[QcZ,hi',q10,Md.enc,Ty.zero]
 ·intro c K hI
  have h0:beh m 21 t=none:=by
   have h1:=hI.2;rw[List.length_range]at h1;exact h1
  rw[h0];refine⟨_,?_,QyG m h c.1 c.2⟩
  simp[QcZ]
theorem ZC (m:Md)(hm:m.ok)(t:Ty)(ht:t.wid<=67108864)(ws:Nat)(h:Avm.H):Qb cfg ws 50 [m.enc,t.enc] h=some (.tup [((beh m 21 t).getD Ty.zero).enc,.bool (beh m 21 t).isSome],h):=by
 obtain⟨o,hl,ho⟩:=QoW m hm t ht h;refine Qc rfl rfl ?_
 cases hb:beh m 21 t with
 | none=>
  rw[hb]at ho;obtain⟨u,g,ho⟩:=ho;rcases ho with rfl | rfl<;>simp[Md.enc,Ty.zero]at hl<;>simp[F50,c50,Md.enc,Ty.zero,hl]
 | some b=>
  rw[hb]at ho;obtain⟨u,g,rfl⟩:=ho;simp[Md.enc,Ty.zero]at hl;simp[F50,c50,Md.enc,Ty.zero,hl]
end Go.Proofs.YtflbneepngjglaaGreatDoor
