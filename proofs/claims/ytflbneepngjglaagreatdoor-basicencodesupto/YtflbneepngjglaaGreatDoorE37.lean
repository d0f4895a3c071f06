/- Bits in bytes: the program does it. -/
import Derived.Test.YtflbneepngjglaaGreatDoorE36
import Derived.Test.YtflbneepngjglaaGreatDoorE32
set_option linter.all false
namespace Go.Proofs.YtflbneepngjglaaGreatDoor
open Go Go.Avm
theorem Qmn (v:Val)(hv:v.size<=67108864)(d:Int)(hd0:0<=d)(hd1:d<=30)(c0:Int)(hc0:0<=c0)(hc1:c0<=67108864)(b ver ws:Nat)(h g0:Avm.H)(hb:b<h.length)(hws:ws<=b)(hcall: ∀x∈v.items,∀(left:Int),0<=left->left<=67108864-> ∀(b ver ws:Nat) (h:Avm.H),h[b]? =some (.arr ver 1 [.int .i64 left])->ws<=b-> ∃l':Int,Qb cfg ws 85 [x.enc,.int .i64 (d+1),.ptr b ver 1 0 0] h=some (.bool (decide ((x.nodes:Int)<=left/\(d+1)+x.depth<=31)),h.set b (.arr ver 1 [.int .i64 l']))/\((x.nodes:Int)<=left/\(d+1)+x.depth<=31->l'=left-x.nodes)):
    ∃(o:Ex×Env×Avm.H),Qa (evC (Qb cfg) Qa cfg.pol h.length ws QkX) [1,2,23,24,25] [(1,.int .i64 d),(2,.ptr b ver 1 0 0),(23,.isl (v.items.map Val.enc)),(24,.int .i64 v.items.length),(25,.int .i64 (0:Nat))] ((h.set b (.arr ver 1 [.int .i64 c0]))++([.arr 0 4 [v.enc]]++g0))=some o/\ ∃(c:Int) (g:Avm.H),(c=c0-((v.items.map Val.nodes).sum:Nat)/\(v.items=[]\/((((v.items.map Val.nodes).sum:Nat):Int)<=c0/\d+1+(Xq (v.items.map Val.depth):Nat)<=31))/\o=(.exit 0,[(1,.int .i64 d),(2,.ptr b ver 1 0 0),(23,.isl (v.items.map Val.enc)),(24,.int .i64 v.items.length),(25,.int .i64 v.items.length)],(h.set b (.arr ver 1 [.int .i64 c]))++([.arr 0 4 [v.enc]]++g)))\/(¬((((v.items.map Val.nodes).sum:Nat):Int)<=c0/\d+1+(Xq (v.items.map Val.depth):Nat)<=31)/\v.items≠ []/\o=(.ret,[(6,.bool false)],(h.set b (.arr ver 1 [.int .i64 c]))++([.arr 0 4 [v.enc]]++g))):=by
 have hl:v.items.length<=67108864:=by have:=v.Qv; omega
 refine Qg (γ:=Int×Avm.H) (f:=evC (Qb cfg) Qa cfg.pol h.length ws QkX) (keep:=[1,2,23,24,25]) v.items
     (fun i c=>c.1=c0-(((v.items.take i).map Val.nodes).sum:Nat)/\0<=c.1/\(i=0\/d+1+(Xq ((v.items.take i).map Val.depth):Nat)<=31))
     (fun i _=>[(1,.int .i64 d),(2,.ptr b ver 1 0 0),(23,.isl (v.items.map Val.enc)),(24,.int .i64 v.items.length),(25,.int .i64 i)]) (fun _ c=>(h.set b (.arr ver 1 [.int .i64 c.1]))++([.arr 0 4 [v.enc]]++c.2))
     (fun _ _ o=>∃(c:Int) (g:Avm.H),(c=c0-((v.items.map Val.nodes).sum:Nat)/\(v.items=[]\/((((v.items.map Val.nodes).sum:Nat):Int)<=c0/\d+1+(Xq (v.items.map Val.depth):Nat)<=31))/\o=(.exit 0,[(1,.int .i64 d),(2,.ptr b ver 1 0 0),(23,.isl (v.items.map Val.enc)),(24,.int .i64 v.items.length),(25,.int .i64 v.items.length)],(h.set b (.arr ver 1 [.int .i64 c]))++([.arr 0 4 [v.enc]]++g)))\/(¬((((v.items.map Val.nodes).sum:Nat):Int)<=c0/\d+1+(Xq (v.items.map Val.depth):Nat)<=31)/\v.items≠ []/\o=(.ret,[(6,.bool false)],(h.set b (.arr ver 1 [.int .i64 c]))++([.arr 0 4 [v.enc]]++g)))) ?_ ?_ (c0,g0) ⟨by simp,hc0,.inl rfl⟩
 ·intro i x r c hd hi hx hI K hK;obtain⟨c,g⟩:=c;obtain⟨hI1,hI2,hI3⟩:=hI;dsimp only at hI1 hI2;have hw:=Qd (n:=i+1) (by omega)
  simp at hw;have hm:x∈v.items:=by rw[←hx]; exact List.getElem_mem hi
  have hne:v.items≠ []:=fun e=>by rw[e]at hm; cases hm
  have htk:v.items.take (i+1)=v.items.take i++ [x]:=by rw[List.take_succ_eq_append_getElem hi,hx]
  have hall:(v.items.map Val.nodes).sum=((v.items.take i).map Val.nodes).sum+(x.nodes+(r.map Val.nodes).sum):=by
   conv=>lhs; rw[←List.take_append_drop i v.items,hd]
   simp[List.sum_append]
  have hallm:Xq (v.items.map Val.depth)=max (Xq ((v.items.take i).map Val.depth)) (max x.depth (Xq (r.map Val.depth))):=by
   conv=>lhs; rw[←List.take_append_drop i v.items,hd]
   simp[Qim,Xq]
  have hxp:=x.XT;have hwd:IntKind.wrap .i64 (d+1)=d+1:=Qo (by omega) (by omega)
  rw[htk]at hK;simp only[List.map_append,List.map_cons,List.map_nil,List.sum_append,List.sum_cons,List.sum_nil,Nat.add_zero,Qak]at hK;have hsd:i=0->Xq ((v.items.take i).map Val.depth)=0:=fun e=>by rw[e]; rfl
  generalize ((v.items.take i).map Val.nodes).sum=sm at*;generalize (r.map Val.nodes).sum=rm at*;generalize (v.items.map Val.nodes).sum=tot at*;generalize Xq ((v.items.take i).map Val.depth)=sd at*;generalize Xq (r.map Val.depth)=rd at*;generalize Xq (v.items.map Val.depth)=totd at*;have hbx: ∀(c:Int) (X:Avm.H),((h.set b (.arr ver 1 [.int .i64 c]))++X)[b]? =some (.arr ver 1 [.int .i64 c]):=fun c X=>by rw[QaX (by simpa using hb),List.getElem?_set_self hb]
  have hbs: ∀(c d:Int) (X:Avm.H),((h.set b (.arr ver 1 [.int .i64 c]))++X).set b (.arr ver 1 [.int .i64 d])=(h.set b (.arr ver 1 [.int .i64 d]))++X:=fun c d X=>by rw[QdW (by simpa using hb),List.set_set]
  have hwn: ∀n,ws<=h.length+n:=fun n=>by omega
  have hw0:ws<=h.length:=by omega
  obtain⟨l',hca,hcb⟩:=hcall x hm c (by omega) (by omega) b ver ws ((h.set b (.arr ver 1 [.int .i64 c]))++([.arr 0 4 [v.enc]]++(g++ [.arr 0 4 [x.enc]]))) (hbx c _) hws
  rw[hbs]at hca;by_cases hle:(x.nodes:Int)<=c/\(d+1)+x.depth<=31
  ·have hl':=hcb hle;rw[decide_eq_true hle]at hca;simp at hca;obtain⟨o,h4,h5⟩:=hK (l',g++ [.arr 0 4 [x.enc]]) ⟨by dsimp only; omega,by dsimp only; omega,.inr (by have:=hsd; omega)⟩
   refine⟨o,?_,h5⟩
   simp at h4;simp[QkX,hi,hx,hwd,hwn,hw0,hca,hw,h4]
  ·rw[decide_eq_false hle]at hca;simp at hca;refine⟨_,?_,l',g++ [.arr 0 4 [x.enc]],.inr ⟨by omega,hne,rfl⟩⟩
   simp[QkX,hi,hx,hwd,hwn,hw0,hca]
 ·intro c K hI;rw[List.take_length]at hI;refine⟨_,?_,c.1,c.2,.inl ⟨hI.1,?_,rfl⟩⟩
  ·simp[QkX]
  ·rcases hI.2.2 with h | h
   ·exact .inl (List.eq_nil_of_length_eq_zero h)
   ·exact .inr ⟨by have:=hI.1; have:=hI.2.1; omega,h⟩
theorem QiF : ∀(n:Nat) (v:Val),v.size<=n->v.size<=67108864-> ∀(d:Int),0<=d->d<=31-> ∀(left:Int),0<=left->left<=67108864-> ∀(b ver ws:Nat) (h:Avm.H),h[b]? =some (.arr ver 1 [.int .i64 left])->ws<=b-> ∃l':Int,Qb cfg ws 85 [v.enc,.int .i64 d,.ptr b ver 1 0 0] h=some (.bool (decide ((v.nodes:Int)<=left/\d+v.depth<=31)),h.set b (.arr ver 1 [.int .i64 l']))/\((v.nodes:Int)<=left/\d+v.depth<=31->l'=left-v.nodes)
 | 0,v,hv,_,_,_,_,_,_,_,_,_,_,_,_,_=>by have:=v.size_pos; omega
 | n+1,v,hv,hv2,d,hd0,hd1,left,hl0,hl1,b,ver,ws,h,hhb,hws=>by
  have hb:b<h.length:=(List.getElem?_eq_some_iff.1 hhb).1
  have hwn: ∀n,ws<=h.length+n:=fun n=>by omega
  have hw0':ws<=h.length:=by omega
  have hdec:IntKind.wrap .i64 (left-1)=left-1:=Qo (by omega) (by omega)
  have hbx: ∀(c:Int) (X:Avm.H),((h.set b (.arr ver 1 [.int .i64 c]))++X)[b]? =some (.arr ver 1 [.int .i64 c]):=fun c X=>by rw[QaX (by simpa using hb),List.getElem?_set_self hb]
  have hb0: ∀(X:Avm.H),(h++X)[b]? =some (.arr ver 1 [.int .i64 left]):=fun X=>by rw[QaX hb,hhb]
  have hbs0: ∀(d:Int) (X:Avm.H),(h++X).set b (.arr ver 1 [.int .i64 d])=(h.set b (.arr ver 1 [.int .i64 d]))++X:=fun d X=>QdW hb
  have htk: ∀(c:Int) (X:Avm.H),List.take h.length ((h.set b (.arr ver 1 [.int .i64 c]))++X)=h.set b (.arr ver 1 [.int .i64 c]):=fun c X=>by rw[List.take_left' (by simp)]
  have hnod:=v.QD;have hdep:=v.Zx;by_cases hneg:left-1<0
  ·have hd:decide ((v.nodes:Int)<=left/\d+v.depth<=31)=false:=by apply decide_eq_false; omega
   refine⟨left-1,Qc rfl rfl ?_,fun _=>by omega⟩
   rw[hd];simp[F85,c85,hb0,hbs0,hbx,hdec,hws,hwn,hw0',htk,hneg]
  ·by_cases hdp:30<d
   ·have hd:decide ((v.nodes:Int)<=left/\d+v.depth<=31)=false:=by apply decide_eq_false; omega
    refine⟨left-1,Qc rfl rfl ?_,fun _=>by omega⟩
    rw[hd];simp[F85,c85,hb0,hbs0,hbx,hdec,hws,hwn,hw0',htk,hneg,hdp]
   ·obtain⟨o0,e0,c,g,p0⟩:=Qmn v hv2 d hd0 (by omega) (left-1) (by omega) (by omega) b ver ws h [] hb hws (fun x hx left a1 a2 b ver ws h a3 a4=>by
      have:=Val.Qu hx;exact QiF n x (by omega) (by omega) (d+1) (by omega) (by omega) left a1 a2 b ver ws h a3 a4)
    rcases p0 with⟨hc,hk0,rfl⟩ | ⟨hlt,hne,rfl⟩
    ·have hd:decide ((v.nodes:Int)<=left/\d+v.depth<=31)=true:=by
       apply decide_eq_true
       rcases hk0 with q | q
       ·rw[q]at hnod hdep; simp[Xq]at hnod hdep; omega
       ·omega
     refine⟨c,Qc rfl rfl ?_,fun _=>by omega⟩
     rw[hd];simp at e0;simp[F85,c85,hb0,hbs0,hbx,hdec,hws,hwn,hw0',htk,hneg,hdp,e0]
    ·have hd:decide ((v.nodes:Int)<=left/\d+v.depth<=31)=false:=by apply decide_eq_false; omega
     refine⟨c,Qc rfl rfl ?_,fun hh=>by rw[decide_eq_true hh]at hd; cases hd⟩
     rw[hd];simp at e0;simp[F85,c85,hb0,hbs0,hbx,hdec,hws,hwn,hw0',htk,hneg,hdp,e0]
def Yu (v:Val):Bool:=decide (v.nodes<=600/\v.depth<=30)
theorem QrA (v:Val)(hv:v.size<=67108864)(ws:Nat)(h:Avm.H):Qb cfg ws 48 [v.enc] h=some (.bool (Yu v),h):=by
 obtain⟨l',hc,_⟩:=QiF _ v (Nat.le_refl _) hv 1 (by omega) (by omega) 600 (by omega) (by omega) (h.length+1) 0 h.length (h++ [.arr 0 4 [v.enc],.arr 0 1 [.int .i64 600]]) (by simp) (by omega)
 have he:decide ((v.nodes:Int)<=600/\1+(v.depth:Int)<=31)=Yu v:=by unfold Yu; congr 1; apply propext; omega
 rw[he]at hc;refine Qc rfl rfl ?_
 simp at hc;simp[F48,c48,hc]
def inP (n a b:Int):Bool:=decide (a<=n)&&decide (n<=b)
theorem Qgr (n a b:Int)(ws:Nat)(h:Avm.H):Qb cfg ws 87 [.int .i64 n,.int .i64 a,.int .i64 b] h=some (.bool (inP n a b),h):=by
 refine Qc rfl rfl ?_
 simp[F87,c87,inP]
def ZE (t:Ty)(n most:Int):Bool:=if(t.free||t.ext)=true then decide (n<=most)else inP n t.lo t.hi
theorem QdL (t:Ty)(n most:Int)(ws:Nat)(h:Avm.H):Qb cfg ws 88 [t.enc,.int .i64 n,.int .i64 most] h=some (.bool (ZE t n most),h):=by
 have h1:=fun ws h=>Qgr n t.lo t.hi ws h
 refine Qc rfl rfl ?_
 cases q1:t.free<;>cases q2:t.ext<;>simp[F88,c88,ZE,q1,q2,h1]
def QjC (i:It):Bool:=i.opt||(i.extra|| !i.Qy.isEmpty)
theorem QzT (i:It)(ws:Nat)(h:Avm.H):Qb cfg ws 93 [i.enc] h=some (.bool (QjC i),h):=by
 refine Qc rfl rfl ?_
 cases q1:i.opt<;>cases q2:i.extra<;>simp[F93,c93,QjC,q1,q2,QQ]
def QM (a b c:Bool)(v:Val):Bool:=(a||decide (v.int=0))&&((b||eqS v.bytes ⟨#[]⟩)&&(c||v.items.isEmpty))
theorem Qrw (v:Val)(ws:Nat)(h:Avm.H):Qb cfg ws 86 [v.enc,.str ⟨#[]⟩] h=some (.bool (QM false false false v),h):=by
 have kI:=fun ws h=>QP (cfg:=cfg) (f:=166) (ws:=ws) (args:=[.str ⟨#[]⟩,.str ⟨#[73]⟩]) (h:=h) (r:=(.bool false,h)) rfl (by simp only[QV]; rw[if_pos (by decide)]; rfl)
 have kB:=fun ws h=>QP (cfg:=cfg) (f:=166) (ws:=ws) (args:=[.str ⟨#[]⟩,.str ⟨#[66]⟩]) (h:=h) (r:=(.bool false,h)) rfl (by simp only[QV]; rw[if_pos (by decide)]; rfl)
 have kL:=fun ws h=>QP (cfg:=cfg) (f:=166) (ws:=ws) (args:=[.str ⟨#[]⟩,.str ⟨#[76]⟩]) (h:=h) (r:=(.bool false,h)) rfl (by simp only[QV]; rw[if_pos (by decide)]; rfl)
 refine Qc rfl rfl ?_
 simp[F86,c86,kI,kB,kL,QM,eqS,Js,QnO]
 first | done | rfl | (simp only[Bool.and_assoc]) | (simp only[Bool.and_assoc]; rfl) | (congr<;>exact Subsingleton.elim _ _)
theorem Qhe (v:Val)(ws:Nat)(h:Avm.H):Qb cfg ws 86 [v.enc,.str ⟨#[73]⟩] h=some (.bool (QM true false false v),h):=by
 have kI:=fun ws h=>QP (cfg:=cfg) (f:=166) (ws:=ws) (args:=[.str ⟨#[73]⟩,.str ⟨#[73]⟩]) (h:=h) (r:=(.bool true,h)) rfl (by simp only[QV]; rw[if_pos (by decide)]; rfl)
 have kB:=fun ws h=>QP (cfg:=cfg) (f:=166) (ws:=ws) (args:=[.str ⟨#[73]⟩,.str ⟨#[66]⟩]) (h:=h) (r:=(.bool false,h)) rfl (by simp only[QV]; rw[if_pos (by decide)]; rfl)
 have kL:=fun ws h=>QP (cfg:=cfg) (f:=166) (ws:=ws) (args:=[.str ⟨#[73]⟩,.str ⟨#[76]⟩]) (h:=h) (r:=(.bool false,h)) rfl (by simp only[QV]; rw[if_pos (by decide)]; rfl)
 refine Qc rfl rfl ?_
 simp[F86,c86,kI,kB,kL,QM,eqS,Js,QnO]
 first | done | rfl | (simp only[Bool.and_assoc]) | (simp only[Bool.and_assoc]; rfl) | (congr<;>exact Subsingleton.elim _ _)
theorem Qmd (v:Val)(ws:Nat)(h:Avm.H):Qb cfg ws 86 [v.enc,.str ⟨#[66]⟩] h=some (.bool (QM false true false v),h):=by
 have kI:=fun ws h=>QP (cfg:=cfg) (f:=166) (ws:=ws) (args:=[.str ⟨#[66]⟩,.str ⟨#[73]⟩]) (h:=h) (r:=(.bool false,h)) rfl (by simp only[QV]; rw[if_pos (by decide)]; rfl)
 have kB:=fun ws h=>QP (cfg:=cfg) (f:=166) (ws:=ws) (args:=[.str ⟨#[66]⟩,.str ⟨#[66]⟩]) (h:=h) (r:=(.bool true,h)) rfl (by simp only[QV]; rw[if_pos (by decide)]; rfl)
 have kL:=fun ws h=>QP (cfg:=cfg) (f:=166) (ws:=ws) (args:=[.str ⟨#[66]⟩,.str ⟨#[76]⟩]) (h:=h) (r:=(.bool false,h)) rfl (by simp only[QV]; rw[if_pos (by decide)]; rfl)
 refine Qc rfl rfl ?_
 simp[F86,c86,kI,kB,kL,QM,eqS,Js,QnO]
 first | done | rfl | (simp only[Bool.and_assoc]) | (simp only[Bool.and_assoc]; rfl) | (congr<;>exact Subsingleton.elim _ _)
theorem Qmc (v:Val)(ws:Nat)(h:Avm.H):Qb cfg ws 86 [v.enc,.str ⟨#[76]⟩] h=some (.bool (QM false false true v),h):=by
 have kI:=fun ws h=>QP (cfg:=cfg) (f:=166) (ws:=ws) (args:=[.str ⟨#[76]⟩,.str ⟨#[73]⟩]) (h:=h) (r:=(.bool false,h)) rfl (by simp only[QV]; rw[if_pos (by decide)]; rfl)
 have kB:=fun ws h=>QP (cfg:=cfg) (f:=166) (ws:=ws) (args:=[.str ⟨#[76]⟩,.str ⟨#[66]⟩]) (h:=h) (r:=(.bool false,h)) rfl (by simp only[QV]; rw[if_pos (by decide)]; rfl)
 have kL:=fun ws h=>QP (cfg:=cfg) (f:=166) (ws:=ws) (args:=[.str ⟨#[76]⟩,.str ⟨#[76]⟩]) (h:=h) (r:=(.bool true,h)) rfl (by simp only[QV]; rw[if_pos (by decide)]; rfl)
 refine Qc rfl rfl ?_
 simp[F86,c86,kI,kB,kL,QM,eqS,Js,QnO]
 first | done | rfl | (simp only[Bool.and_assoc]) | (simp only[Bool.and_assoc]; rfl) | (congr<;>exact Subsingleton.elim _ _)
theorem QvM (v:Val)(ws:Nat)(h:Avm.H):Qb cfg ws 86 [v.enc,.str ⟨#[73,76]⟩] h=some (.bool (QM true false true v),h):=by
 have kI:=fun ws h=>QP (cfg:=cfg) (f:=166) (ws:=ws) (args:=[.str ⟨#[73,76]⟩,.str ⟨#[73]⟩]) (h:=h) (r:=(.bool true,h)) rfl (by simp only[QV]; rw[if_pos (by decide)]; rfl)
 have kB:=fun ws h=>QP (cfg:=cfg) (f:=166) (ws:=ws) (args:=[.str ⟨#[73,76]⟩,.str ⟨#[66]⟩]) (h:=h) (r:=(.bool false,h)) rfl (by simp only[QV]; rw[if_pos (by decide)]; rfl)
 have kL:=fun ws h=>QP (cfg:=cfg) (f:=166) (ws:=ws) (args:=[.str ⟨#[73,76]⟩,.str ⟨#[76]⟩]) (h:=h) (r:=(.bool true,h)) rfl (by simp only[QV]; rw[if_pos (by decide)]; rfl)
 refine Qc rfl rfl ?_
 simp[F86,c86,kI,kB,kL,QM,eqS,Js,QnO]
 first | done | rfl | (simp only[Bool.and_assoc]) | (simp only[Bool.and_assoc]; rfl) | (congr<;>exact Subsingleton.elim _ _)
end Go.Proofs.YtflbneepngjglaaGreatDoor
namespace Go.Proofs.YtflbneepngjglaaGreatDoor
open Go Go.Avm
def QyN :List AV:=List.replicate 256 (.bool false)
def A01 :List AV:=List.replicate 48 (.bool false)++ .bool true:: .bool true::List.replicate 206 (.bool false)
theorem QeK :A01.length=256:=by simp[-List.reduceReplicate,A01]
theorem QeJ :Qw A01=true:=by kernel_rfl
theorem QrO :A01.all AV.one=true:=by simp[-List.reduceReplicate,A01]
def d01 (c:UInt8):Bool:=decide (byI c=48)||decide (byI c=49)
theorem QyV (n:Nat)(hn:n<256):A01[n]? =some (.bool (decide ((n:Int)=48)||decide ((n:Int)=49))):=by
 unfold A01;rcases Nat.lt_trichotomy n 48 with q | q | q
 ·rw[List.getElem?_append_left (by simpa[-List.reduceReplicate]using q)]
  have h1: ¬(n:Int)=48:=by omega
  have h2: ¬(n:Int)=49:=by omega
  simp[-List.reduceReplicate,q,h1,h2]
 ·subst q; simp[-List.reduceReplicate]
 ·rw[List.getElem?_append_right (by simp[-List.reduceReplicate]; omega)]
  obtain⟨k,rfl⟩: ∃k,n=49+k:=⟨n-49,by omega⟩
  have e:49+k-(List.replicate 48 (AV.bool false)).length=k+1:=by simp[-List.reduceReplicate]; omega
  rw[e,List.getElem?_cons_succ]
  cases k with
  | zero=>simp[-List.reduceReplicate]
  | succ k=>
   have h1: ¬((49+(k+1):Nat):Int)=48:=by omega
   have h2: ¬((49+(k+1):Nat):Int)=49:=by omega
   rw[List.getElem?_cons_succ,List.getElem?_replicate,if_pos (by omega),decide_eq_false h1,decide_eq_false h2]
   rfl
theorem QcX (c:UInt8)(ws:Nat)(h:Avm.H):Qb cfg ws 237 [.iptr A01,.int .u8 (byI c)] h=some (.bool (d01 c),h):=by
 have hc:c.toNat<256:=c.toNat_lt;have hg:=QyV c.toNat hc;have h1:(0:Int)<=byI c:=by unfold byI; omega
 have h2:byI c<256:=by unfold byI; omega
 have h3:(byI c).toNat=c.toNat:=by unfold byI; omega
 have h4:c.toNat<=256:=by omega
 refine Qc rfl rfl ?_
 have hi:((c.toNat:Nat):Int)=byI c:=rfl;rw[hi]at hg;simp[-List.reduceReplicate,QEa,QDa,QeJ,QeK,h1,h2,h3,h4,hg,d01]
theorem QsS (ws:Nat)(h:Avm.H):Qb cfg ws 169 [.str ⟨#[48,49]⟩] h=some (.tup [.agg A01,.bool true],h):=by
 have hw1:IntKind.wrap .i64 1=1:=by decide
 have hw2:IntKind.wrap .i64 (1+1)=2:=by decide
 have hw3:IntKind.wrap .i64 2=2:=by decide
 have hdr:A01.drop 256=[]:=List.drop_eq_nil_iff.2 (by rw[QeK]; omega)
 have l2:Qa (evC (Qb cfg) Qa cfg.pol h.length h.length QdB) [0,2,4] [(0,.str ⟨#[48,49]⟩),(2,.ptr h.length 0 256 0 0),(4,.int .i64 2)] (h++ [.arr 0 256 [.agg A01]])=some (.exit 0,[(0,.str ⟨#[48,49]⟩),(2,.ptr h.length 0 256 0 0),(4,.int .i64 2)],h++ [.arr 0 256 [.agg A01]]):=
  QF fun K hK=>by simp[-List.reduceReplicate,QdB,ByteArray.size]
 have l1:Qa (evC (Qb cfg) Qa cfg.pol h.length h.length QdB) [0,2,4] [(0,.str ⟨#[48,49]⟩),(2,.ptr h.length 0 256 0 0),(4,.int .i64 1)] (h++ [.arr 0 256 [.agg (List.replicate 48 (.bool false)++ .bool true::List.replicate 207 (.bool false))]])=some (.exit 0,[(0,.str ⟨#[48,49]⟩),(2,.ptr h.length 0 256 0 0),(4,.int .i64 2)],h++ [.arr 0 256 [.agg A01]]):=
  QF fun K hK=>by
   simp[-List.reduceReplicate,QdB,ByteArray.size,hw2,hw3,List.take_append];rw[hK,←l2]; rfl
 have l0:Qa (evC (Qb cfg) Qa cfg.pol h.length h.length QdB) [0,2,4] [(0,.str ⟨#[48,49]⟩),(2,.ptr h.length 0 256 0 0),(4,.int .i64 0)] (h++ [.arr 0 256 [.agg QyN]])=some (.exit 0,[(0,.str ⟨#[48,49]⟩),(2,.ptr h.length 0 256 0 0),(4,.int .i64 2)],h++ [.arr 0 256 [.agg A01]]):=
  QF fun K hK=>by
   simp[-List.reduceReplicate,QdB,ByteArray.size,hw1,QyN];rw[hK,←l1]
 have hA1:A01.length=256:=QeK;have hA2:=eq_true (List.all_eq_true.1 QrO);have hA3:=QeJ;refine Qc rfl rfl ?_
 rw[QyN]at l0;simp[-List.reduceReplicate,QEt,QDt,l0,hA1,hA2,List.take_of_length_le,QyN,hdr,Zl QeJ]
theorem Qos (s:ByteArray)(a b:Nat):(s.extract a b).data.toList=(s.data.toList.drop a).take (b-a):=by simp
theorem JX (s:ByteArray):s.size=s.data.toList.length:=by rw[Array.length_toList]; rfl
def ends (bs:List UInt8):Prop:=bs=[]\/ ∃z,bs.getLast? =some z/\d01 z=false
theorem Qpm (h:Avm.H): ∀(n:Nat) (s:ByteArray),s.size<=n->s.size<=67108864-> ∃r:ByteArray,Qa (evC (Qb cfg) Qa cfg.pol h.length h.length QfE) [0,1] [(0,.str s),(1,.iptr A01)] h=some (.exit 0,[(0,.str r),(1,.iptr A01)],h)/\r.size<=s.size/\r.data.toList.all d01=s.data.toList.all d01/\ends r.data.toList:=by
 intro n
 induction n with
 | zero=>
  intro s hs hb;have h0:s.size=0:=by omega
  have hl:s.data.toList=[]:=List.eq_nil_of_length_eq_zero (by rw[←JX]; omega)
  refine⟨s,QF fun K hK=>?_,Nat.le_refl _,rfl,.inl hl⟩
  simp[QfE,h0]
 | succ n ih=>
  intro s hs hb;by_cases h0:s.size=0
  ·have hl:s.data.toList=[]:=List.eq_nil_of_length_eq_zero (by rw[←JX]; omega)
   refine⟨s,QF fun K hK=>?_,Nat.le_refl _,rfl,.inl hl⟩
   simp[QfE,h0]
  ·obtain⟨k,hk⟩: ∃k,s.size=k+1:=⟨s.size-1,by omega⟩
   have hwk:IntKind.wrap .i64 (k:Int)=k:=Qd (by omega)
   have hll:s.data.toList.length=k+1:=by rw[←JX,hk]
   obtain⟨z,hz⟩: ∃z,s.data.toList[k]? =some z:=⟨s.data.toList[k],List.getElem?_eq_getElem (by omega)⟩
   have hz3: ∀hh:k<s.data.size,s.data[k]=z:=fun hh=>by
    have:=hz;rw[List.getElem?_eq_getElem (by simpa using hh)]at this
    simpa using this
   have hzl:s.data.toList.getLast? =some z:=by rw[List.getLast?_eq_getElem?,hll]; exact hz
   have hdec:s.data.toList=s.data.toList.take k++ [z]:=by
    have:=List.take_append_drop k s.data.toList
    have hd:s.data.toList.drop k=[z]:=by
     rw[List.drop_eq_getElem_cons (by omega),List.drop_eq_nil_iff.2 (by omega)]
     rw[List.getElem?_eq_getElem (by omega)]at hz
     cases hz; rfl
    rw[←hd,this]
   have hby: ∀b:UInt8,((b.toNat:Nat):Int)=byI b:=fun _=>rfl
   have hct:=QcX z;cases hq:d01 z
   ·rw[hq]at hct;refine⟨s,QF fun K hK=>?_,Nat.le_refl _,rfl,.inr ⟨z,hzl,hq⟩⟩
    simp[QfE,hk,hwk,hz,hz3,hby,hct]
   ·rw[hq]at hct;have hsz:(s.extract 0 k).size=k:=by rw[ByteArray.size_extract]; omega
    obtain⟨r,h1,h2,h3,h4⟩:=ih (s.extract 0 k) (by omega) (by omega)
    refine⟨r,QF fun K hK=>?_,by omega,?_,h4⟩
    ·simp[QfE,hk,hwk,hz,hz3,hby,hct,QcL];rw[hK,←h1]
    ·rw[h3,Qos]
     conv=>rhs; rw[hdec]
     simp[hq]
theorem Quf (s:ByteArray)(hb:s.size<=67108864)(u:AV)(ws:Nat)(h:Avm.H)(hu:snap h 8 u=some (.iptr A01)): ∃r:ByteArray,Qb cfg ws 171 [.str s,u] h=some (.str r,h)/\r.size<=s.size/\r.data.toList.all d01=s.data.toList.all d01/\ends r.data.toList:=by
 obtain⟨r,h1,h2⟩:=Qpm h _ s (Nat.le_refl _) hb;refine⟨r,Qc rfl rfl ?_,h2⟩
 simp[QEr,QDr,hu,h1]
theorem Qpn (h:Avm.H): ∀(n:Nat) (s:ByteArray),s.size<=n-> ∃r:ByteArray,Qa (evC (Qb cfg) Qa cfg.pol h.length h.length QfF) [0,1] [(0,.str s),(1,.iptr A01)] h=some (.exit 0,[(0,.str r),(1,.iptr A01)],h)/\(r.data.toList=[]↔s.data.toList.all d01=true):=by
 intro n
 induction n with
 | zero=>
  intro s hs;have h0:s.size=0:=by omega
  have hl:s.data.toList=[]:=List.eq_nil_of_length_eq_zero (by rw[←JX]; omega)
  refine⟨s,QF fun K hK=>?_,by rw[hl]; simp⟩
  simp[QfF,h0]
 | succ n ih=>
  intro s hs;cases hl:s.data.toList with
  | nil=>
   have h0:s.size=0:=by rw[JX,hl]; rfl
   refine⟨s,QF fun K hK=>?_,by rw[hl]; simp⟩
   simp[QfF,h0]
  | cons c t=>
   have hk:s.size=t.length+1:=by rw[JX,hl]; rfl
   have hby: ∀b:UInt8,((b.toNat:Nat):Int)=byI b:=fun _=>rfl
   have hct:=QcX c;have hc0:(c::t)[0]? =some c:=rfl;cases hq:d01 c
   ·rw[hq]at hct;refine⟨s,QF fun K hK=>?_,by rw[hl]; simp[hq]⟩
    simp[QfF,hk,hl,hby,hct]
   ·rw[hq]at hct;have hsz:(s.extract 1 s.size).size=t.length:=by rw[ByteArray.size_extract]; omega
    obtain⟨r,h1,h2⟩:=ih (s.extract 1 s.size) (by omega)
    refine⟨r,QF fun K hK=>?_,?_⟩
    ·rw[hk]at h1;simp[QfF,hk,hl,hby,hct,QcL];rw[hK,←h1]
    ·rw[h2,Qos,hl,hk];simp[hq]
theorem Qug (s:ByteArray)(u:AV)(ws:Nat)(h:Avm.H)(hu:snap h 8 u=some (.iptr A01)): ∃r:ByteArray,Qb cfg ws 170 [.str s,u] h=some (.str r,h)/\(r.data.toList=[]↔s.data.toList.all d01=true):=by
 obtain⟨r,h1,h2⟩:=Qpn h _ s (Nat.le_refl _);refine⟨r,Qc rfl rfl ?_,h2⟩
 simp[QEs,QDs,hu,h1]
theorem QjU (s:ByteArray)(hb:s.size<=67108864)(ws:Nat)(h:Avm.H): ∃r:ByteArray,Qb cfg ws 89 [.str s,.str ⟨#[48,49]⟩] h=some (.str r,h)/\(r.data.toList=[]↔s.data.toList.all d01=true):=by
 have hE0:(⟨#[]⟩:ByteArray).toList=[]:=by rw[ByteArray.toList_eq]
 have hE2:(⟨#[48,49]⟩:ByteArray).toList=[48,49]:=by rw[ByteArray.toList_eq]
 have hE:s.toList=s.data.toList:=by rw[ByteArray.toList_eq]
 have hsz2:(⟨#[48,49]⟩:ByteArray).size=2:=rfl;have hmk:=QsS;have hA1:A01.length=256:=QeK;have hA2:=eq_true (List.all_eq_true.1 QrO);have hdr:A01.drop 256=[]:=List.drop_eq_nil_iff.2 (by rw[QeK]; omega)
 cases hl:s.data.toList with
 | nil=>
  refine⟨s,Qc rfl rfl ?_,by rw[hl]; simp⟩
  simp[-List.reduceReplicate,F89,c89,hE,hl,hE0]
 | cons c t=>
  have hsn:snap (h++ [.arr 0 256 [.agg A01]]) 8 (.ptr h.length 0 256 0 0)=some (.iptr A01):=by
   simp[hA1,Qz QeJ]
  obtain⟨r1,q1,q2,q3,q4⟩:=Quf s hb (.ptr h.length 0 256 0 0) h.length _ hsn;obtain⟨r2,p1,p2⟩:=Qug r1 (.ptr h.length 0 256 0 0) h.length _ hsn;refine⟨r2,Qc rfl rfl ?_,by rw[p2,q3,hl]⟩
  simp[-List.reduceReplicate,F89,c89,hE,hl,hE0,hE2,hsz2,hmk,hA1,hA2,hdr,List.take_of_length_le,q1,p1]
end Go.Proofs.YtflbneepngjglaaGreatDoor
namespace Go.Proofs.YtflbneepngjglaaGreatDoor
open Go Go.Avm
theorem QtO (s:ByteArray)(hs:s.size<=32000)(h01:s.data.toList.all d01=true)(ws:Nat)(h:Avm.H):Qb cfg ws 241 [.str s] h=some (.bool true,h):=by
 obtain⟨r,e1,e2⟩:=QjU s (by omega) h.length h
 have hr:r=⟨#[]⟩:=by
  have:=e2.2 h01
  apply ByteArray.ext
  apply Array.ext'
  simpa using this
 subst hr;have i1:(s.size:Int)<=32000:=by omega
 refine Qc rfl rfl ?_
 simp[QDZ,QCZ,e1,i1]
theorem Qww (s:ByteArray)(hs:s.size<=32000)(h01:s.data.toList.all d01=true)(ws:Nat)(h:Avm.H):Qb cfg ws 178 [.str s] h=some (.tup [.str (XQ s),.int .i64 0],h):=by
 have hsl:s.data.toList.length=s.size:=Array.length_toList;have ev:=fun ws h=>QtO s hs h01 ws h
 have hlp:=QaS (f:=evC (Qb cfg) Qa cfg.pol h.length h.length QmE) (keep:=[0,4,15,16]) s.size (fun i=>[(0,.str s),(4,.osl h.length 0 1 0 ((s.size+7)/8)),(15,.int .i64 s.size),(16,.int .i64 i)])
  (fun i=>h++ [.arr 0 1 ((YH s.data.toList ((s.size+7)/8) i).map mk8)])
  (fun _=>(.exit 0,[(0,.str s),(4,.osl h.length 0 1 0 ((s.size+7)/8)),(15,.int .i64 s.size),(16,.int .i64 s.size)],h++ [.arr 0 1 ((XV s.data.toList).map mk8)])) ?_ ?_
 ·rw[Qqa]at hlp;have hby:=QaA (XV s.data.toList);have hln:((XV s.data.toList).map mk8).length=(s.size+7)/8:=by rw[List.length_map,YS,hsl]
  have htd:Int.tdiv ((s.size:Int)+7) 8=(((s.size+7)/8:Nat):Int):=by rw[Int.tdiv_eq_ediv_of_nonneg (by omega)]; omega
  have w1:IntKind.wrap .i64 ((s.size:Int)+7)=(s.size:Int)+7:=Qo (by omega) (by omega)
  have w2:IntKind.wrap .i64 (((s.size+7)/8:Nat):Int)=(((s.size+7)/8:Nat):Int):=Qd (by omega)
  have hn4:(s.size+7)/8<=4294967296:=by omega
  unfold XQ;generalize (XV s.data.toList).map mk8=els at*;generalize (s.size+7)/8=n at*;have htk:els.take n=els:=List.take_of_length_le (by omega)
  unfold mk8 at hlp;refine Qc rfl rfl ?_
  simp at hlp;simp[QEo,QDo,ev,w1,htd,w2,hn4,hlp,hln,htk,hby]
 ·intro i hi K hK;rw[QpZ]at hK;have hor:=QzC s.data.toList i;have hxl:=QeC (s.data.toList.take i) (8*(i/8)) 8;have hbl:=QmN s.data.toList i;have hil:i<s.data.toList.length:=by omega
  have hgi:(s.data[i]'hi)=s.data.toList[i]:=(Array.getElem_toList hi).symm
  have hbit:((s.data[i]'hi).toNat:Int)=48+(ZD s.data.toList i:Nat):=by
   have:=List.all_eq_true.1 h01 _ (List.getElem_mem hil);unfold d01 byI at this;simp only[Bool.or_eq_true,decide_eq_true_eq]at this;unfold ZD;rw[List.getElem?_eq_getElem hil,hgi]
   rcases this with h48 | h49
   ·rw[if_neg (fun e=>by injection e with e; rw[e]at h48; exact absurd h48 (by decide))]
    omega
   ·rw[if_pos (by congr 1; exact UInt8.toNat_inj.1 (by have h9:(49:UInt8).toNat=49:=rfl; omega))]
    omega
  have hpn:i/8<(s.size+7)/8:=by omega
  have hget:((YH s.data.toList ((s.size+7)/8) i).map mk8)[i/8]? =some (.int .u8 ((Xk (s.data.toList.take i) (8*(i/8)) 8:Nat):Int)):=by
   unfold YH;rw[List.getElem?_map,List.getElem?_map,List.getElem?_range hpn]; rfl
  have hlen:((YH s.data.toList ((s.size+7)/8) i).map mk8).length=(s.size+7)/8:=by simp[YH]
  have hpw:2^(7-i%8)<=128:=Nat.le_trans (Nat.pow_le_pow_right (by omega) (show 7-i%8<=7 by omega)) (by decide)
  have hyl:ZD s.data.toList i*2^(7-i%8)<256:=by
   have:=Nat.mul_le_mul hbl hpw;omega
  have horl:Xk (s.data.toList.take i) (8*(i/8)) 8+ZD s.data.toList i*2^(7-i%8)<256:=by
   rw[←hor];exact Nat.or_lt_two_pow (n:=8) hxl hyl
  have w1:IntKind.wrap .u8 (48+((ZD s.data.toList i:Nat):Int)-48)=(ZD s.data.toList i:Nat):=by rw[show 48+((ZD s.data.toList i:Nat):Int)-48=(ZD s.data.toList i:Nat)by omega]; exact wrap_u8 (by omega) (by omega)
  have htd:Int.tdiv (i:Int) 8=((i/8:Nat):Int):=by rw[Int.tdiv_eq_ediv_of_nonneg (by omega)]; omega
  have htm:Int.tmod (i:Int) 8=((i%8:Nat):Int):=by rw[Int.tmod_eq_emod_of_nonneg (by omega)]; omega
  have w2:IntKind.wrap .i64 ((i/8:Nat):Int)=((i/8:Nat):Int):=Qd (by omega)
  have w3:IntKind.wrap .i64 (7-((i%8:Nat):Int))=((7-i%8:Nat):Int):=by rw[show 7-((i%8:Nat):Int)=((7-i%8:Nat):Int)by omega]; exact Qd (by omega)
  have hmin:min (7-i%8) IntKind.u8.bits=7-i%8:=Nat.min_eq_left (show 7-i%8<=8 by omega)
  have w5:IntKind.wrap .i64 ((i:Int)+1)=(i:Int)+1:=Qo (by omega) (by omega)
  have w4:IntKind.wrap .u8 (((ZD s.data.toList i:Nat):Int)*2^(7-i%8))=((ZD s.data.toList i*2^(7-i%8):Nat):Int):=by
   rw[show((ZD s.data.toList i:Nat):Int)*2^(7-i%8)=((ZD s.data.toList i*2^(7-i%8):Nat):Int)by rw[Int.natCast_mul,Int.natCast_pow]; rfl]
   exact wrap_u8 (by omega) (by omega)
  have wor:(Xk (s.data.toList.take i) (8*(i/8)) 8%2^IntKind.u8.bits||| (ZD s.data.toList i*2^(7-i%8))%2^IntKind.u8.bits)=Xk (s.data.toList.take i) (8*(i/8)) 8+ZD s.data.toList i*2^(7-i%8):=by
   rw[show 2^IntKind.u8.bits=256 from rfl,Nat.mod_eq_of_lt hxl,Nat.mod_eq_of_lt hyl,hor]
  have w6:IntKind.wrap .u8 ((Xk (s.data.toList.take i) (8*(i/8)) 8+ZD s.data.toList i*2^(7-i%8):Nat):Int)=((Xk (s.data.toList.take i) (8*(i/8)) 8+ZD s.data.toList i*2^(7-i%8):Nat):Int):=wrap_u8 (by omega) (by omega)
  clear hor hxl hyl horl hpw h01 hbl;have hmap:((YH s.data.toList ((s.size+7)/8) i).set (i/8) ((Xk (s.data.toList.take i) (8*(i/8)) 8+ZD s.data.toList i*2^(7-i%8):Nat):Int)).map mk8=((YH s.data.toList ((s.size+7)/8) i).map mk8).set (i/8) (.int .u8 ((Xk (s.data.toList.take i) (8*(i/8)) 8+ZD s.data.toList i*2^(7-i%8):Nat):Int)):=by rw[List.map_set]; rfl
  rw[hmap]at hK;clear hmap;generalize hy:ZD s.data.toList i*2^(7-i%8)=y at*;generalize Xk (s.data.toList.take i) (8*(i/8)) 8=x at*;generalize hz:x+y=z at*;generalize (YH s.data.toList ((s.size+7)/8) i).map mk8=els at*;obtain⟨hgl,hge⟩:=List.getElem?_eq_some_iff.1 hget
  generalize hp:i/8=p at*;generalize hm:i%8=m at*;generalize he:7-m=e at*;generalize ZD s.data.toList i=b at*;simp at hK;simp[QmE,hi,htd,htm,w1,w2,w3,w5,hbit,hmin,w4,hpn,hlen,hge,hgl,wor,w6,hK]
 ·intro K;rw[show YH s.data.toList ((s.size+7)/8) s.size=XV s.data.toList by rw[←hsl]; exact QsG _]
  simp[QmE]
end Go.Proofs.YtflbneepngjglaaGreatDoor
