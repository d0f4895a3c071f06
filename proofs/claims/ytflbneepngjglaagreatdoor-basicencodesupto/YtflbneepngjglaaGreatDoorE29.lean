/- Names. -/
import Derived.Test.YtflbneepngjglaaGreatDoorE28
set_option linter.all false
namespace Go.Proofs.YtflbneepngjglaaGreatDoor
open Go Go.Avm
theorem QkU (l:List Ty)(hl:l.length<=67108864)(ws:Nat)(h:Avm.H):Qb cfg ws 97 [.isl (l.map Ty.enc)] h=some (.osl h.length 0 8 0 l.length,h++ [.arr 0 8 (l.map Ty.enc)]):=by
 refine QP rfl ?_
 have:l.length<=lim:=by unfold lim; omega
 simp[Ju,this]
theorem Qtc (t:Ty)(ht:t.wid<=67108864)(h:Avm.H): ∃v g,Qx h.length 1 8 g ((t.kids++t.items.map It.of).map Ty.enc) v/\
    Qa (evC (Qb cfg) Qa cfg.pol h.length h.length Qja) [3,19,20,21] [(3,.osl (h.length+1) 0 8 0 t.kids.length),(19,.isl (t.items.map It.enc)),(20,.int .i64 t.items.length),(21,.int .i64 (0:Nat))] (h++([.arr 0 8 [t.enc]]++ [.arr 0 8 (t.kids.map Ty.enc)]))=
     some (.exit 0,[(3,v),(19,.isl (t.items.map It.enc)),(20,.int .i64 t.items.length),(21,.int .i64 t.items.length)],h++([.arr 0 8 [t.enc]]++g)):=by
 have hlp:=Qg (γ:=AV×Avm.H) (f:=evC (Qb cfg) Qa cfg.pol h.length h.length Qja) (keep:=[3,19,20,21]) t.items
      (fun i c=>Qx h.length 1 8 c.2 ((t.kids++(t.items.take i).map It.of).map Ty.enc) c.1)
      (fun i c=>[(3,c.1),(19,.isl (t.items.map It.enc)),(20,.int .i64 t.items.length),(21,.int .i64 i)])
      (fun _ g=>h++([.arr 0 8 [t.enc]]++g.2))
      (fun _ _ o=>∃v g,Qx h.length 1 8 g ((t.kids++t.items.map It.of).map Ty.enc) v/\o=(.exit 0,[(3,v),(19,.isl (t.items.map It.enc)),(20,.int .i64 t.items.length),(21,.int .i64 t.items.length)],h++([.arr 0 8 [t.enc]]++g))) ?_ ?_
      (.osl (h.length+1) 0 8 0 t.kids.length,[.arr 0 8 (t.kids.map Ty.enc)]) (.inr ⟨0,0,by simp,by simp⟩)
 ·obtain⟨o,hl,v,g,hI,ho⟩:=hlp;exact⟨v,g,hI,ho▸hl⟩
 ·intro i x r c hd hi hx hI K hK;have h1:=t.Qe;have h2:=t.ZK;have hw:=Qd (n:=i+1) (by omega)
  simp at hw;have htk:t.items.take (i+1)=t.items.take i++ [x]:=by rw[List.take_succ_eq_append_getElem hi,hx]
  rw[htk]at hK;obtain⟨v,g⟩:=c;dsimp only at hI;simp[-Prod.exists,Qja,hi,hx,hw,QN,appended];generalize hA:Jm _ _ _ _ _ _ _=r;obtain⟨v',g',rfl,h2⟩:=Qx.use (pre:=[_]) hI hA (by simp; omega) (by simp)
  obtain⟨o,h4,h5⟩:=hK (v',g') (by simpa using h2)
  refine⟨o,?_,by simpa using h5⟩
  simp at h4;simp[h4,hw]
 ·intro c K hI;refine⟨_,?_,c.1,c.2,by simpa using hI,rfl⟩
  simp[Qja]
theorem Qma (t:Ty)(ht:t.wid<=67108864)(ws:Nat)(h:Avm.H):Qb cfg ws 157 [t.enc] h=some (.isl (t.inner.map Ty.enc),h):=by
 refine Qc rfl rfl ?_
 have hk:=fun ws h=>QkU t.kids (Nat.le_trans t.ZK ht) ws h
 cases hcomp:t.comp with
 | false=>
  have hin:t.inner=t.kids:=by simp[Ty.inner,hcomp]
  simp[Ty.comp]at hcomp;rw[hin];simp[QBv,QAZ,hk,hcomp]
 | true=>
  have hin:t.inner=t.kids++t.items.map It.of:=by simp[Ty.inner,hcomp]
  obtain⟨v,g,hI,hl⟩:=Qtc t ht h;simp[Ty.comp]at hcomp;rw[hin];have hc:=hI.cells;have h1:=hI.one
  rcases hcomp with hcomp | hcomp<;>simp[hcomp]at hl<;>simp[QBv,QAZ,hk,hcomp,hl,hc,h1]<;>generalize hA:frz _ _ v _=r<;>
   obtain⟨g',rfl⟩:=Qx.Qhf (pre:=[_]) hI hA (YR _)<;>simp
theorem QqX : ∀(n:Nat) (t:Ty),t.size<=n->t.wid<=67108864->t.nodes<=67108864-> ∀ws h,Qb cfg ws 149 [t.enc] h=some (.tup [.int .i64 t.nodes,.int .i64 t.depth],h)
 | 0,t,ht,_,_,_,_=>by have:=t.size_pos; omega
 | n+1,t,ht,hw0,hb,ws,h=>by
  have hk:=Qma t hw0;have hlen:=t.Qal;have hdep:=Ty.Qaq _ t (Nat.le_refl _);refine Qc rfl rfl ?_
  have hlp:=Qg (γ:=Avm.H) (f:=evC (Qb cfg) Qa cfg.pol h.length h.length QmG) (keep:=[2,3,9,10,11]) t.inner (fun _ _=>True)
   (fun i _=>[(2,.int .i64 ((1+((t.inner.take i).map Ty.nodes).sum:Nat):Int)),(3,.int .i64 ((Xq ((t.inner.take i).map Ty.depth):Nat):Int)),(9,.isl (t.inner.map Ty.enc)),(10,.int .i64 t.inner.length),(11,.int .i64 i)]) (fun _ g=>h++([.arr 0 8 [t.enc]]++g))
   (fun _ _ o=>∃g,o=(.exit 0,[(2,.int .i64 ((1+(t.inner.map Ty.nodes).sum:Nat):Int)),(3,.int .i64 ((Xq (t.inner.map Ty.depth):Nat):Int)),(9,.isl (t.inner.map Ty.enc)),(10,.int .i64 t.inner.length),(11,.int .i64 t.inner.length)],h++([.arr 0 8 [t.enc]]++g))) ?_ ?_ [] trivial
  ·obtain⟨o,h1,g,h2⟩:=hlp;subst h2;have hd:=t.Zx;have hn:=t.QD;have hw1:=Qd (n:=Xq (t.inner.map Ty.depth)+1) (by omega)
   rw[show Xq (t.inner.map Ty.depth)+1=t.depth by omega]at hw1
   rw[hn,hd];simp[Xq]at h1;simp at hk;simp[QEC,QDC,hk,h1];rw[hd]at hw1;simp at hw1;rw[Int.add_comm,hw1]
  ·intro i x r g hd hi hx _ K hK;have hw:=Qd (n:=i+1) (by omega)
   have hm1:x∈t.inner:=by rw[←hx]; exact List.getElem_mem hi
   have hsz:=Ty.QR hm1;have hwx:=Ty.ZY hm1;have hnx:=Ty.Xx hm1;have htk:t.inner.take (i+1)=t.inner.take i++ [x]:=by rw[List.take_succ_eq_append_getElem hi,hx]
   have hs2:=Qby Ty.nodes t.inner (i+1);have hn:=t.QD;rw[htk]at hK hs2;simp only[List.map_append,List.map_cons,List.map_nil,List.sum_append,List.sum_cons,List.sum_nil,Nat.add_zero,Qak]at hK hs2;have hw2:=Qd (n:=1+((t.inner.take i).map Ty.nodes).sum+x.nodes) (by omega)
   have hmx: ∀a b:Nat,(if a<b then(b:Int)else(a:Int))=((max a b:Nat):Int):=fun a b=>by split<;>omega
   have hcl:=fun h'=>QqX n x (by omega) (by omega) (by omega) h.length h'
   simp only[Ty.ZS]at hcl;obtain⟨o,h4,g2,h5⟩:=hK (g++ [.arr 0 8 [x.enc]]) trivial;refine⟨o,?_,g2,h5⟩
   rw[←Nat.add_assoc]at h4;have hm2:=hmx (Xq ((t.inner.take i).map Ty.depth)) x.depth;generalize Xq ((t.inner.take i).map Ty.depth)=md at h4 hm2 ⊢;generalize ((t.inner.take i).map Ty.nodes).sum=sm at h4 hw2 ⊢;generalize x.nodes=xn at h4 hw2 hcl ⊢;generalize x.depth=xd at h4 hm2 hcl ⊢;generalize max md xd=mm at h4 hm2 ⊢;simp at hw hw2 h4;simp[QmG,hi,hx,hcl,hw,hw2,hm2,h4]
  ·intro g K _;refine⟨_,?_,g,rfl⟩
   simp[QmG]
theorem Qeu {g:FuncId}{k:Nat}{p:Ty->Bool}{cap cap':List AV}(l:List Ty)(hl:l.length<=67108864)(hs:Still cfg g)(h:Avm.H)(hcap:QG (snap h 7) cap=some cap')(hcp:Qw cap'=true)(hp: ∀x∈l,∀ws h',Qb cfg ws g (cap'.take k++([x.enc]++cap'.drop k)) h'=some (.bool (p x),h'))(ws:Nat):
    Qb cfg ws 156 [.isl (l.map Ty.enc),.QJ g k cap] h=some (.bool (l.any p),h):=
 Jd (K:=231) (sz:=8) (ag:=true) rfl rfl rfl rfl hl (by simp) (Ty.QjF l) hs hcap hcp hp ws
theorem WK {α:Type}(p:α->Bool): ∀l:List α,(l.any fun x=>!p x)= !l.all p
 | []=>rfl
 | x::l=>by simp only[List.any_cons,List.all_cons,WK p l,Bool.not_and]
theorem YO {g:FuncId}{k:Nat}{p:Ty->Bool}{cap':List AV}(hs:Still cfg g)(hcp:Qw cap'=true): ∀(n:Nat) (t:Ty),t.size<=n->t.wid<=67108864->t.nodes<=67108864->
    (∀x:Ty,x.size<=n->x.wid<=t.wid->x.nodes<=t.nodes-> ∀ws h',Qb cfg ws g (cap'.take k++([x.enc]++cap'.drop k)) h'=some (.bool (p x),h'))->
    ∀ws h cap,QG (snap h 7) cap=some cap'->Qb cfg ws 82 [t.enc,.QJ g k cap] h=some (.bool (t.QH p),h)
 | 0,t,ht,_,_,_,_,_,_,_=>by have:=t.size_pos; omega
 | n+1,t,ht,hw0,hb,hp,ws,h,cap,hcap=>by
  have hk:=Qma t hw0;have hpt:=fun ws h=>hp t ht (Nat.le_refl _) (Nat.le_refl _) ws h
  have hlen:=t.Qal
  have hsub: ∀x∈t.inner,∀ws h',Qb cfg ws 158 [x.enc,.iptr [.QJ g k cap']] h'=some (.bool (!(x.QH p)),h'):=fun x hx ws h'=>by
   have h1:=Ty.QR hx;have h2:=Ty.ZY hx;have h3:=Ty.Xx hx;have hin:=fun h=>YO hs hcp n x (by omega) (by omega) (by omega) (fun y hy hyw hyn ws h'=>hp y (by omega) (by omega) (by omega) ws h') h'.length h cap' (Qz hcp)
   refine Qc rfl rfl ?_
   simp at hin;simp[QBu,QAY,Qz hcp,hcp,hin]
  have hct:=fun h cap2 (hcap2:QG (snap h 7) cap2=some [.iptr [.QJ g k cap']])=>Qeu (k:=0) t.inner (by omega) (.inl rfl) h hcap2 (by simp[hcp]) (fun x hx ws h'=>by simpa using hsub x hx ws h')
  refine Qc rfl rfl ?_
  rw[Ty.YN];simp at hk hpt;have hpol:=hs;cases hv:p t
  ·rw[hv]at hpt;rcases hs with hs | ⟨b,hs⟩<;>simp[F82,c82,hcap,hs,hpt]
  ·rw[hv]at hpt;rcases hs with hs | ⟨b,hs⟩<;>simp[F82,c82,hcap,hs,hpt,hk,hct,Qz hcp,WK]
def QjD (x:Ty):Bool:=decide (x.items.length<=20)&&decide (x.kids.length<=20)
def QcN (t:Ty):Bool:=decide (t.nodes<=600)&&(decide (t.depth<=30)&&t.QH QjD)
theorem Qyb (x:Ty)(ws:Nat)(h:Avm.H):Qb cfg ws 150 [x.enc] h=some (.bool (QjD x),h):=by
 refine Qc rfl rfl ?_
 simp[QEB,QDB,QjD]
 norm_cast
theorem QkA (t:Ty)(hw0:t.wid<=67108864)(hb:t.nodes<=67108864)(ws:Nat)(h:Avm.H):Qb cfg ws 79 [t.enc] h=some (.bool (QcN t),h):=by
 have h1:=QqX _ t (Nat.le_refl _) hw0 hb;have h2:=fun ws h=>YO (cap':=[]) (k:=0) (.inl rfl) rfl _ t (Nat.le_refl _) hw0 hb (fun x _ _ _ ws h'=>by simpa using Qyb x ws h') ws h [] rfl
 refine Qc rfl rfl ?_
 simp at h1 h2;unfold QcN;generalize t.nodes=a at h1 ⊢;generalize t.depth=b at h1 ⊢;have e1:((a:Int)<=600)=(a<=600):=by apply propext; omega
 have e2:((b:Int)<=30)=(b<=30):=by apply propext; omega
 by_cases q1:a<=600<;>by_cases q2:b<=30<;>simp[F79,c79,h1,h2,e1,e2,q1,q2]
end Go.Proofs.YtflbneepngjglaaGreatDoor
namespace Go.Proofs.YtflbneepngjglaaGreatDoor
open Go Go.Avm
def Ty.QA(t:Ty):List Ty:=(if t.comp then t.items.map It.of else [])++t.kids
theorem Jq (t x:Ty):x∈t.QA↔x∈t.inner:=by simp[Ty.QA,Ty.inner,or_comm]
theorem Qdh (f:Ty->Nat)(t:Ty):(t.QA.map f).sum=(t.inner.map f).sum:=by simp[Ty.QA,Ty.inner,List.sum_append,Nat.add_comm]
theorem Qim : ∀l m:List Nat,Xq (l++m)=max (Xq l) (Xq m)
 | [],m=>by simp[Xq]
 | x::l,m=>by simp only[List.cons_append,Xq,Qim l m]; omega
theorem QpJ (f:Ty->Nat)(t:Ty):Xq (t.QA.map f)=Xq (t.inner.map f):=by simp only[Ty.QA,Ty.inner,List.map_append,Qim]; omega
theorem QpK (p:Ty->Bool)(t:Ty):t.QA.all p=t.inner.all p:=by simp[Ty.QA,Ty.inner,Bool.and_comm]
theorem QhT (t:Ty):t.QA.length=t.inner.length:=by simp[Ty.QA,Ty.inner,Nat.add_comm]
def Ty.QX(t:Ty):List Ty:=t::t.QA.attach.flatMap fun x=>x.1.QX
termination_by t.size
decreasing_by exact Ty.QR ((Jq _ _).1 x.2)
theorem Ty.Qee(t:Ty):t.QX=t::t.QA.flatMap Ty.QX:=by rw[Ty.QX,QoY t.QA Ty.QX]
theorem Qix {f:Ty->List Ty}{g:Ty->Nat}: ∀l:List Ty,(∀x∈l,(f x).length=g x)->(l.flatMap f).length=(l.map g).sum
 | [],_=>rfl
 | x::l,h=>by simp only[List.flatMap_cons,List.length_append,List.map_cons,List.sum_cons,h x (by simp),Qix l fun y hy=>h y (by simp[hy])]
theorem JK : ∀(n:Nat) (t:Ty),t.size<=n->t.QX.length=t.nodes
 | 0,t,h=>by have:=t.size_pos; omega
 | n+1,t,h=>by
  rw[Ty.Qee,Ty.QD,List.length_cons,Qix (g:=Ty.nodes) t.QA fun x hx=>JK n x (by have:=Ty.QR ((Jq _ _).1 hx); omega),Qdh]
  omega
theorem Wd (p:Ty->Bool): ∀(n:Nat) (t:Ty),t.size<=n->t.QX.all p=t.QH p
 | 0,t,h=>by have:=t.size_pos; omega
 | n+1,t,h=>by
  rw[Ty.Qee,Ty.YN,List.all_cons,←QpK]
  congr 1
  have: ∀l:List Ty,(∀x∈l,x.QX.all p=x.QH p)->(l.flatMap Ty.QX).all p=l.all fun x=>x.QH p:=fun l=>by
   induction l with
   | nil=>intro _; rfl
   | cons x l ih=>intro h; simp only[List.flatMap_cons,List.all_append,List.all_cons,h x (by simp),ih fun y hy=>h y (by simp[hy])]
  exact this t.QA fun x hx=>Wd p n x (by have:=Ty.QR ((Jq _ _).1 hx); omega)
theorem Qed : ∀(n:Nat) (t:Ty),t.size<=n-> ∀x∈t.QX,x.wid<=t.wid/\x.size<=t.size
 | 0,t,h=>by have:=t.size_pos; omega
 | n+1,t,h=>by
  intro x hx;rw[Ty.Qee]at hx;rcases List.mem_cons.1 hx with rfl | hx
  ·exact⟨Nat.le_refl _,Nat.le_refl _⟩
  ·obtain⟨y,hy,hxy⟩:=List.mem_flatMap.1 hx;have hy:=(Jq _ _).1 hy;have h1:=Ty.QR hy;have h2:=Ty.ZY hy;have:=Qed n y (by omega) x hxy
   omega
theorem QlE (t:Ty)(ht:t.wid<=67108864)(h:Avm.H): ∃v g,Qx h.length 1 8 g (([]++(t.items).map It.of).map Ty.enc) v/\Qa (evC (Qb cfg) Qa cfg.pol h.length h.length QiV) [1,3,4] [(1,.ptr h.length 0 8 0 0),(3,.osl (h.length+1) 0 8 0 0),(4,.int .i64 (0:Nat))] (h++([.arr 0 8 [t.enc]]++ [.arr 0 8 []]))=some (.exit 0,[(1,.ptr h.length 0 8 0 0),(3,v),(4,.int .i64 (t.items).length)],h++([.arr 0 8 [t.enc]]++g)):=by
 have hl:(t.items).length<=67108864:=Nat.le_trans t.Qe ht
 have hlp:=Qg (γ:=AV×Avm.H) (f:=evC (Qb cfg) Qa cfg.pol h.length h.length QiV) (keep:=[1,3,4]) (t.items)
      (fun i c=>Qx h.length 1 8 c.2 (([]++((t.items).take i).map It.of).map Ty.enc) c.1)
      (fun i c=>[(1,.ptr h.length 0 8 0 0),(3,c.1),(4,.int .i64 i)]) (fun _ g=>h++([.arr 0 8 [t.enc]]++g.2))
      (fun _ _ o=>∃v g,Qx h.length 1 8 g (([]++(t.items).map It.of).map Ty.enc) v/\o=(.exit 0,[(1,.ptr h.length 0 8 0 0),(3,v),(4,.int .i64 (t.items).length)],h++([.arr 0 8 [t.enc]]++g))) ?_ ?_ (.osl (h.length+1) 0 8 0 0,[.arr 0 8 []]) (.inr ⟨0,0,by simp,by simp⟩)
 ·obtain⟨o,hl,v,g,hI,ho⟩:=hlp;exact⟨v,g,hI,ho▸hl⟩
 ·intro i x r c hd hi hx hI K hK;have hw:=Qd (n:=i+1) (by omega)
  simp at hw;have hm:x∈(t.items):=by rw[←hx]; exact List.getElem_mem hi
  have htk:(t.items).take (i+1)=(t.items).take i++ [x]:=by rw[List.take_succ_eq_append_getElem hi,hx]
  rw[htk]at hK;obtain⟨v,g⟩:=c;dsimp only at hI;simp[-Prod.exists,QiV,hi,hx,hw,QN,appended,];generalize hA:Jm _ _ _ _ _ _ _=r;obtain⟨v',g',rfl,h2⟩:=Qx.use (pre:=[_]) hI hA (by simp; omega) (by simp)
  obtain⟨o,h4,h5⟩:=hK (v',g') (by simpa using h2)
  refine⟨o,?_,by simpa using h5⟩
  simp at h4;simp[h4,hw]
 ·intro c K hI;refine⟨_,?_,c.1,c.2,by simpa using hI,rfl⟩
  simp[QiV]
theorem QdZ (t:Ty)(ht:t.wid<=67108864)(h:Avm.H)(pre:List Ty)(hpre:pre.length<=67108864)(v0:AV)(g0:Avm.H)(hI0:Qx h.length 1 8 g0 (pre.map Ty.enc) v0): ∃v g,Qx h.length 1 8 g ((pre++(t.kids).map id).map Ty.enc) v/\Qa (evC (Qb cfg) Qa cfg.pol h.length h.length QiU) [1,3,5] [(1,.ptr h.length 0 8 0 0),(3,v0),(5,.int .i64 (0:Nat))] (h++([.arr 0 8 [t.enc]]++g0))=some (.exit 2,[(1,.ptr h.length 0 8 0 0),(3,v),(5,.int .i64 (t.kids).length)],h++([.arr 0 8 [t.enc]]++g)):=by
 have hl:(t.kids).length<=67108864:=Nat.le_trans t.ZK ht
 have hlp:=Qg (γ:=AV×Avm.H) (f:=evC (Qb cfg) Qa cfg.pol h.length h.length QiU) (keep:=[1,3,5]) (t.kids)
      (fun i c=>Qx h.length 1 8 c.2 ((pre++((t.kids).take i).map id).map Ty.enc) c.1)
      (fun i c=>[(1,.ptr h.length 0 8 0 0),(3,c.1),(5,.int .i64 i)]) (fun _ g=>h++([.arr 0 8 [t.enc]]++g.2))
      (fun _ _ o=>∃v g,Qx h.length 1 8 g ((pre++(t.kids).map id).map Ty.enc) v/\o=(.exit 2,[(1,.ptr h.length 0 8 0 0),(3,v),(5,.int .i64 (t.kids).length)],h++([.arr 0 8 [t.enc]]++g))) ?_ ?_ (v0,g0) (by simpa using hI0)
 ·obtain⟨o,hl,v,g,hI,ho⟩:=hlp;exact⟨v,g,hI,ho▸hl⟩
 ·intro i x r c hd hi hx hI K hK;have hw:=Qd (n:=i+1) (by omega)
  simp at hw;have hm:x∈(t.kids):=by rw[←hx]; exact List.getElem_mem hi
  have htk:(t.kids).take (i+1)=(t.kids).take i++ [x]:=by rw[List.take_succ_eq_append_getElem hi,hx]
  rw[htk]at hK;obtain⟨v,g⟩:=c;dsimp only at hI;simp[-Prod.exists,QiU,hi,hx,hw,QN,appended,];generalize hA:Jm _ _ _ _ _ _ _=r;obtain⟨v',g',rfl,h2⟩:=Qx.use (pre:=[_]) hI hA (by simp; omega) (by simp)
  obtain⟨o,h4,h5⟩:=hK (v',g') (by simpa using h2)
  refine⟨o,?_,by simpa using h5⟩
  simp at h4;simp[h4,hw]
 ·intro c K hI;refine⟨_,?_,c.1,c.2,by simpa using hI,rfl⟩
  simp[QiU]
theorem Qkg (t:Ty)(ht:t.wid<=67108864)(ws:Nat)(h:Avm.H):Qb cfg ws 224 [t.enc] h=some (.isl (t.QA.map Ty.enc),h):=by
 refine Qc rfl rfl ?_
 have hwi:=t.Qe;cases hcomp:t.comp with
 | false=>
  have hin:t.QA=t.kids:=by simp[Ty.QA,hcomp]
  obtain⟨v,g,hI,hl⟩:=QdZ t ht h [] (by simp) (.osl (h.length+1) 0 8 0 0) [.arr 0 8 []] (.inr ⟨0,0,by simp,by simp⟩)
  simp[Ty.comp]at hcomp;rw[hin];simp at hl hI;have hc:=hI.cells;have h1:=hI.one;simp[QBn,QAL,hcomp,hl];generalize hA:frz _ _ v _=r;obtain⟨g',rfl⟩:=Qx.Qhf (pre:=[_]) hI hA (YR _);simp
 | true=>
  have hin:t.QA=t.items.map It.of++t.kids:=by simp[Ty.QA,hcomp]
  obtain⟨v0,g0,hI0,hl0⟩:=QlE t ht h;simp only[List.nil_append]at hI0;obtain⟨v,g,hI,hl⟩:=QdZ t ht h (t.items.map It.of) (by simp; omega) v0 g0 hI0
  simp[Ty.comp]at hcomp;rw[hin];simp only[List.map_id]at hI
  rcases hcomp with hcomp | hcomp<;>simp[hcomp]at hl hl0<;>simp[QBn,QAL,hcomp,hl,hl0]<;>generalize hA:frz _ _ v _=r<;>
   obtain⟨g',rfl⟩:=Qx.Qhf (pre:=[_]) hI hA (YR _)<;>simp
theorem QeU : ∀(n:Nat) (t:Ty),t.size<=n->t.wid<=67108864->t.nodes<=67108864-> ∀ws h,Qb cfg ws 143 [t.enc] h=some (.tup [.int .i64 t.nodes,.int .i64 t.depth],h)
 | 0,t,ht,_,_,_,_=>by have:=t.size_pos; omega
 | n+1,t,ht,hw0,hb,ws,h=>by
  have hk:=Qkg t hw0;have hlen:=t.Qal;have hrl:=QhT t;have hdep:=Ty.Qaq _ t (Nat.le_refl _);have hsm:=Qdh Ty.nodes t;have hmx0:=QpJ Ty.depth t;have hd:=t.Zx;have hn:=t.QD;refine Qc rfl rfl ?_
  have hlp:=Qg (γ:=Avm.H) (f:=evC (Qb cfg) Qa cfg.pol h.length h.length QmH) (keep:=[4,5,6,7]) t.QA (fun _ _=>True)
   (fun i _=>[(4,.int .i64 ((1+((t.QA.take i).map Ty.nodes).sum:Nat):Int)),(5,.int .i64 ((Xq ((t.QA.take i).map Ty.depth):Nat):Int)),(6,.isl (t.QA.map Ty.enc)),(7,.int .i64 i)]) (fun _ g=>h++([.arr 0 8 [t.enc]]++g))
   (fun _ _ o=>∃g,o=(.exit 0,[(4,.int .i64 (t.nodes:Int)),(5,.int .i64 ((Xq (t.inner.map Ty.depth):Nat):Int)),(6,.isl (t.QA.map Ty.enc)),(7,.int .i64 t.QA.length)],h++([.arr 0 8 [t.enc]]++g))) ?_ ?_ [] trivial
  ·obtain⟨o,h1,g,h2⟩:=hlp;subst h2;have hw1:=Qd (n:=Xq (t.inner.map Ty.depth)+1) (by omega)
   simp[Xq]at h1;simp at hk hw1;simp[QEF,QDF,hk,h1,hw1];omega
  ·intro i x r g hd hi hx _ K hK;have hw:=Qd (n:=i+1) (by omega)
   have hm1:x∈t.inner:=(Jq _ _).1 (by rw[←hx]; exact List.getElem_mem hi)
   have hsz:=Ty.QR hm1;have hwx:=Ty.ZY hm1;have hnx:=Ty.Xx hm1;have htk:t.QA.take (i+1)=t.QA.take i++ [x]:=by rw[List.take_succ_eq_append_getElem hi,hx]
   have hs2:=Qby Ty.nodes t.QA (i+1);rw[htk]at hK hs2;simp only[List.map_append,List.map_cons,List.map_nil,List.sum_append,List.sum_cons,List.sum_nil,Nat.add_zero,Qak]at hK hs2;have hw2:=Qd (n:=1+((t.QA.take i).map Ty.nodes).sum+x.nodes) (by omega)
   have hmx: ∀a b:Nat,(if a<b then(b:Int)else(a:Int))=((max a b:Nat):Int):=fun a b=>by split<;>omega
   have hcl:=fun h'=>QeU n x (by omega) (by omega) (by omega) h.length h'
   simp only[Ty.ZS]at hcl;obtain⟨o,h4,g2,h5⟩:=hK g trivial;refine⟨o,?_,g2,h5⟩
   rw[←Nat.add_assoc]at h4;have hm2:=hmx (Xq ((t.QA.take i).map Ty.depth)) x.depth;generalize Xq ((t.QA.take i).map Ty.depth)=md at h4 hm2 ⊢;generalize ((t.QA.take i).map Ty.nodes).sum=sm at h4 hw2 ⊢;generalize x.nodes=xn at h4 hw2 hcl ⊢;generalize x.depth=xd at h4 hm2 hcl ⊢;generalize max md xd=mm at h4 hm2 ⊢;simp at hw hw2 h4;simp[QmH,hi,hx,hcl,hw,hw2,hm2,h4]
  ·intro g K _;refine⟨_,?_,g,rfl⟩
   simp[QmH,hsm,hmx0];omega
theorem Qsz (t:Ty)(ht:t.wid<=67108864)(hb:t.nodes<=67108864)(hcall: ∀x∈t.QA,∀ws h,Qb cfg ws 215 [x.enc] h=some (.isl (x.QX.map Ty.enc),h))(h:Avm.H): ∃v g,Qx h.length 1 8 g (([t]++(t.QA).flatMap Ty.QX).map Ty.enc) v/\Qa (evC (Qb cfg) Qa cfg.pol h.length h.length QiX) [3,4,5] [(3,.osl (h.length+1) 0 8 0 1),(4,.isl (t.QA.map Ty.enc)),(5,.int .i64 (0:Nat))] (h++([.arr 0 8 [t.enc]]++ [.arr 0 8 [t.enc]]))=some (.exit 0,[(3,v),(4,.isl (t.QA.map Ty.enc)),(5,.int .i64 (t.QA).length)],h++([.arr 0 8 [t.enc]]++g)):=by
 have hl:(t.QA).length<=67108864:=(by have:=t.Qal; rw[QhT]; omega)
 have hlp:=Qg (γ:=AV×Avm.H) (f:=evC (Qb cfg) Qa cfg.pol h.length h.length QiX) (keep:=[3,4,5]) (t.QA)
      (fun i c=>Qx h.length 1 8 c.2 (([t]++((t.QA).take i).flatMap Ty.QX).map Ty.enc) c.1)
      (fun i c=>[(3,c.1),(4,.isl (t.QA.map Ty.enc)),(5,.int .i64 i)]) (fun _ g=>h++([.arr 0 8 [t.enc]]++g.2))
      (fun _ _ o=>∃v g,Qx h.length 1 8 g (([t]++(t.QA).flatMap Ty.QX).map Ty.enc) v/\o=(.exit 0,[(3,v),(4,.isl (t.QA.map Ty.enc)),(5,.int .i64 (t.QA).length)],h++([.arr 0 8 [t.enc]]++g))) ?_ ?_ (.osl (h.length+1) 0 8 0 1,[.arr 0 8 [t.enc]]) (.inr ⟨0,0,by simp,by simp⟩)
 ·obtain⟨o,hl,v,g,hI,ho⟩:=hlp;exact⟨v,g,hI,ho▸hl⟩
 ·intro i x r c hd hi hx hI K hK;have hw:=Qd (n:=i+1) (by omega)
  simp at hw;have hm:x∈(t.QA):=by rw[←hx]; exact List.getElem_mem hi
  have htk:(t.QA).take (i+1)=(t.QA).take i++ [x]:=by rw[List.take_succ_eq_append_getElem hi,hx]
  rw[htk]at hK;have hcl:=fun h'=>hcall x hm h.length h'
  simp at hcl
  have hle:1+((t.QA.take i).flatMap Ty.QX).length+x.QX.length<=t.nodes:=by
   rw[Qix (g:=Ty.nodes) (t.QA.take i) fun y hy=>JK _ y (Nat.le_refl _),JK _ x (Nat.le_refl _)]
   have:=Qby Ty.nodes t.QA (i+1);rw[htk,Qdh]at this;simp only[List.map_append,List.map_cons,List.map_nil,List.sum_append,List.sum_cons,List.sum_nil,Nat.add_zero]at this;rw[t.QD]; omega
  obtain⟨v,g⟩:=c;dsimp only at hI;simp[-Prod.exists,QiX,hi,hx,hw,QN,appended,hcl];generalize hA:Jm _ _ _ _ _ _ _=r;obtain⟨v',g',rfl,h2⟩:=Qx.QFn (pre:=[_]) hI hA (by simp only[List.length_map,List.length_append,List.length_cons,List.length_nil]; omega) (by simp)
  obtain⟨o,h4,h5⟩:=hK (v',g') (by simpa using h2)
  refine⟨o,?_,by simpa using h5⟩
  simp at h4;simp[h4,hw]
 ·intro c K hI;refine⟨_,?_,c.1,c.2,by simpa using hI,rfl⟩
  simp[QiX]
theorem QaN : ∀(n:Nat) (t:Ty),t.size<=n->t.wid<=67108864->t.nodes<=67108864-> ∀ws h,Qb cfg ws 215 [t.enc] h=some (.isl (t.QX.map Ty.enc),h)
 | 0,t,ht,_,_,_,_=>by have:=t.size_pos; omega
 | n+1,t,ht,hw0,hb,ws,h=>by
  have hk:=Qkg t hw0
  obtain⟨v,g,hI,hl⟩:=Qsz t hw0 hb (fun x hx ws h=>by
   have hx:=(Jq _ _).1 hx;have h1:=Ty.QR hx;have h2:=Ty.ZY hx;have h3:=Ty.Xx hx;exact QaN n x (by omega) (by omega) (by omega) ws h) h
  refine Qc rfl rfl ?_
  simp at hk hl;have hre:t.QX=[t]++t.QA.flatMap Ty.QX:=by rw[Ty.Qee]; rfl
  rw[←hre]at hI;simp[QEh,QDh,hk,hl,QN];generalize hA:frz _ _ v _=r;obtain⟨g',rfl⟩:=Qx.Qhf (pre:=[_]) hI hA (YR _);simp
theorem QlX (l:List Ty)(hl0:l.length<=67108864)(h B:Avm.H): ∃g,Qa (evC (Qb cfg) Qa cfg.pol h.length h.length QfO) [5,6] [(5,.isl (l.map Ty.enc)),(6,.int .i64 (0:Nat))] (h++(B++ []))=some (if(l).all QjD=true then(.exit 0,[(5,.isl (l.map Ty.enc)),(6,.int .i64 (l).length)],h++(B++g))else(.ret,[(2,.bool false)],h++(B++g))):=by
 have hl:(l).length<=67108864:=hl0
 have hlp:=Qg (γ:=Avm.H) (f:=evC (Qb cfg) Qa cfg.pol h.length h.length QfO) (keep:=[5,6]) (l) (fun _ _=>True)
      (fun i _=>[(5,.isl (l.map Ty.enc)),(6,.int .i64 i)]) (fun _ g=>h++(B++g))
      (fun _ r o=>∃g,o=if r.all QjD=true then(.exit 0,[(5,.isl (l.map Ty.enc)),(6,.int .i64 (l).length)],h++(B++g))else(.ret,[(2,.bool false)],h++(B++g))) ?_ ?_ [] trivial
 ·obtain⟨o,h1,g,h2⟩:=hlp;exact⟨g,h2▸h1⟩
 ·intro i x r g hd hi hx _ K hK;have hw:=Qd (n:=i+1) (by omega)
  simp at hw;have hm:x∈(l):=by rw[←hx]; exact List.getElem_mem hi
  have e1:((20:Int)<x.items.length)= ¬(x.items.length<=20):=by apply propext; omega
  have e2:((20:Int)<x.kids.length)= ¬(x.kids.length<=20):=by apply propext; omega
  cases hv:QjD x
  ·refine⟨_,?_,g,by simp only[List.all_cons,hv,Bool.false_and,Bool.false_eq_true,if_false]; rfl⟩
   by_cases q1:x.items.length<=20<;>by_cases q2:x.kids.length<=20<;>simp[QjD,q1,q2]at hv<;>simp[QfO,hi,hx,e1,e2,q1,q2]
  ·obtain⟨o,h4,g2,h5⟩:=hK g trivial;refine⟨o,?_,g2,by simp only[List.all_cons,hv,Bool.true_and]; exact h5⟩
   simp at h4;by_cases q1:x.items.length<=20<;>by_cases q2:x.kids.length<=20<;>simp[QjD,q1,q2]at hv<;>simp[QfO,hi,hx,e1,e2,q1,q2,hw,h4]
 ·intro g K _;refine⟨_,?_,g,by simp only[List.all_nil,if_true]; rfl⟩
  simp[QfO]
theorem Qio (t:Ty)(hw0:t.wid<=67108864)(hb:t.nodes<=67108864)(ws:Nat)(h:Avm.H):Qb cfg ws 134 [t.enc] h=some (.bool (QcN t),h):=by
 have h1:=QeU _ t (Nat.le_refl _) hw0 hb;have h2:=QaN _ t (Nat.le_refl _) hw0 hb;have hlen:=JK _ t (Nat.le_refl _);obtain⟨g,hl⟩:=QlX t.QX (by omega) h [.arr 0 8 [t.enc]]
 have hal:=Wd QjD _ t (Nat.le_refl _);rw[hal]at hl;refine Qc rfl rfl ?_
 simp at h1 h2;unfold QcN;generalize t.nodes=a at h1 ⊢;generalize t.depth=b at h1 ⊢;have e1:((600:Int)<a)= ¬(a<=600):=by apply propext; omega
 have e2:((30:Int)<b)= ¬(b<=30):=by apply propext; omega
 cases q3:t.QH QjD<;>simp[q3]at hl<;>by_cases q1:a<=600<;>by_cases q2:b<=30<;>simp[QEL,QDL,h1,h2,e1,e2,q1,q2,hl]
end Go.Proofs.YtflbneepngjglaaGreatDoor
namespace Go.Proofs.YtflbneepngjglaaGreatDoor
open Go Go.Avm
def Qfi (n:Int):Bool:=(decide (97<=n)&&decide (n<=122))||((decide (65<=n)&&decide (n<=90))||(decide (48<=n)&&decide (n<=57)))
def byI (b:UInt8):Int:=(b.toNat:Int)
def okC (c:UInt8):Bool:=Qfi (byI c)||decide (byI c=45)
def Qir (bs:List UInt8):Int:=match bs.getLast? with | some c=>byI c | none=>0
def nmB (f l:Int)(bs:List UInt8):Bool:=match bs with
 | []=>false
 | c::r=>decide ((c::r).length<=30)&&(decide (f<=byI c)&&(decide (byI c<=l)&&(!decide (Qir (c::r)=45)&&(!Lib.contains (c::r) [45,45]&&(c::r).all okC))))
theorem QkB (n:Int)(ws:Nat)(h:Avm.H):Qb cfg ws 263 [.int .u8 n] h=some (.bool (Qfi n),h):=by
 refine Qc rfl rfl ?_
 have a1: ∀a:Int,(!decide (a<n))=decide (n<=a):=fun a=>by by_cases q:n<=a<;>simp[q]<;>omega
 simp[QDU,QCU,Qfi,Bool.or_assoc,a1]
theorem QsQ (bs:List UInt8)(hb:bs.length<=67108864)(h:Avm.H): ∃g,Qa (evC (Qb cfg) Qa cfg.pol h.length h.length Qfx) [41,42,43] [(41,.osl h.length 0 1 0 bs.length),(42,.int .i64 bs.length),(43,.int .i64 (0:Nat))] (h++([.arr 0 1 (bs.map fun b=>.int .u8 (byI b))]++ []))=some (if(bs).all okC=true then(.exit 0,[(41,.osl h.length 0 1 0 bs.length),(42,.int .i64 bs.length),(43,.int .i64 (bs).length)],h++([.arr 0 1 (bs.map fun b=>.int .u8 (byI b))]++g))else(.ret,[(6,.bool false)],h++([.arr 0 1 (bs.map fun b=>.int .u8 (byI b))]++g))):=by
 have hl:(bs).length<=67108864:=hb
 have hlp:=Qg (γ:=Avm.H) (f:=evC (Qb cfg) Qa cfg.pol h.length h.length Qfx) (keep:=[41,42,43]) (bs) (fun _ _=>True)
      (fun i _=>[(41,.osl h.length 0 1 0 bs.length),(42,.int .i64 bs.length),(43,.int .i64 i)]) (fun _ g=>h++([.arr 0 1 (bs.map fun b=>.int .u8 (byI b))]++g))
      (fun _ r o=>∃g,o=if r.all okC=true then(.exit 0,[(41,.osl h.length 0 1 0 bs.length),(42,.int .i64 bs.length),(43,.int .i64 (bs).length)],h++([.arr 0 1 (bs.map fun b=>.int .u8 (byI b))]++g))else(.ret,[(6,.bool false)],h++([.arr 0 1 (bs.map fun b=>.int .u8 (byI b))]++g))) ?_ ?_ [] trivial
 ·obtain⟨o,h1,g,h2⟩:=hlp;exact⟨g,h2▸h1⟩
 ·intro i x r g hd hi hx _ K hK;have hw:=Qd (n:=i+1) (by omega)
  simp at hw;have hm:x∈(bs):=by rw[←hx]; exact List.getElem_mem hi
  have hlt:=fun ws h=>QkB (byI x) ws h
  have hlt45:=fun ws h=>QkB 45 ws h
  have h45:Qfi 45=false:=by decide
  cases hv:okC x
  ·refine⟨_,?_,g,by simp only[List.all_cons,hv,Bool.false_and,Bool.false_eq_true,if_false]; rfl⟩
   simp only[okC,Bool.or_eq_false_iff,decide_eq_false_iff_not]at hv;obtain⟨hv1,hv2⟩:=hv;simp[Qfx,hi,hx,hlt,hlt45,h45,hv1,hv2]
  ·obtain⟨o,h4,g2,h5⟩:=hK g trivial;refine⟨o,?_,g2,by simp only[List.all_cons,hv,Bool.true_and]; exact h5⟩
   simp at h4;simp only[okC,Bool.or_eq_true,decide_eq_true_eq]at hv;rcases hv with hv | hv<;>simp[Qfx,hi,hx,hlt,hlt45,h45,hv,hw,h4]
 ·intro g K _;refine⟨_,?_,g,by simp only[List.all_nil,if_true]; rfl⟩
  simp[Qfx]
theorem Qro (f l:Int)(s:ByteArray)(hs:s.size<=67108864)(ws:Nat)(h:Avm.H):Qb cfg ws 225 [.str s,.int .u8 f,.int .u8 l] h=some (.bool (nmB f l s.data.toList),h):=by
 obtain⟨bs,hbs⟩: ∃bs,s.data.toList=bs:=⟨_,rfl⟩;have hsz:s.size=bs.length:=by rw[←hbs,Array.length_toList]; rfl
 have hco:=fun ws h=>QP (cfg:=cfg) (f:=166) (ws:=ws) (args:=[.str s,.str ⟨#[45,45]⟩]) (h:=h) (r:=(.bool (Lib.contains bs [45,45]),h)) rfl (by simp only[QV,hbs]; rw[if_pos (by omega)])
 obtain⟨g,hl⟩:=QsQ bs (by omega) h
 simp only[←hsz]at hl;have hE:s.toList=bs:=by rw[ByteArray.toList_eq,hbs]
 have hE0:(⟨#[]⟩:ByteArray).toList=[]:=by rw[ByteArray.toList_eq]
 refine Qc rfl rfl ?_
 rw[hbs];cases bs with
 | nil=>simp[Qpc,QoN,hE,hE0,nmB]
 | cons c r=>
  have hw:IntKind.wrap .i64 ((s.size:Int)-1)=r.length:=by rw[hsz]; simp; exact Qd (by simp at hsz; omega)
  have hlast:(c::r)[r.length]? =(c::r).getLast?:=by rw[List.getLast?_eq_getElem?]; simp
  obtain⟨z,hz⟩: ∃z,(c::r).getLast? =some z:=⟨_,List.getLast?_cons⟩
  have hlz:Qir (c::r)=byI z:=by simp[Qir,hz]
  have e30:((30:Int)<s.size)= ¬((c::r).length<=30):=by apply propext; rw[hsz]; omega
  rw[hz]at hlast;simp only[nmB,hlz];have hc0:(c::r)[0]? =some c:=rfl;have hby: ∀b:UInt8,((b.toNat:Nat):Int)=byI b:=fun _=>rfl
  by_cases q1:(c::r).length<=30
  ·by_cases q2:f<=byI c
   ·have n1: ¬byI c<f:=by omega
    by_cases q3:byI c<=l
    ·have n2: ¬l<byI c:=by omega
     by_cases q4:byI z=45
     ·simp[Qpc,QoN,hE,hE0,hbs,hw,hc0,hlast,e30,hco,hby,-List.length_cons,q1,q2,q3,q4,n1,n2]
     ·cases q5:Lib.contains (c::r) [45,45]<;>simp only[q5]at hco
      ·cases q6:(c::r).all okC<;>simp only[q6]at hl<;>simp at hl<;>simp[Qpc,QoN,hE,hE0,hbs,hw,hc0,hlast,e30,hco,hby,-List.length_cons,q1,q2,q3,q4,n1,n2,hl]
      ·simp[Qpc,QoN,hE,hE0,hbs,hw,hc0,hlast,e30,hco,hby,-List.length_cons,q1,q2,q3,q4,n1,n2]
    ·have n2:l<byI c:=by omega
     simp[Qpc,QoN,hE,hE0,hbs,hw,hc0,hlast,e30,hco,hby,-List.length_cons,q1,q2,q3,n1,n2]
   ·have n1:byI c<f:=by omega
    simp[Qpc,QoN,hE,hE0,hbs,hw,hc0,hlast,e30,hco,hby,-List.length_cons,q1,q2,n1]
  ·simp[Qpc,QoN,hE,hE0,hbs,hw,hc0,hlast,e30,hco,hby,-List.length_cons,q1]
end Go.Proofs.YtflbneepngjglaaGreatDoor
