/- Names. -/
import Derived.Test.YtflbneepngjglaaGreatDoorO28
set_option linter.all false
namespace Go.Proofs.YtflbneepngjglaaGreatDoor
open Go Go.Avm
theorem Qkt (l:List Ty)(hl:l.length<=67108864)(ws:Nat)(h:Avm.H):Qb cfg ws 97 [.isl (l.map Ty.enc)] h=some (.osl h.length 0 8 0 l.length,h++ [.arr 0 8 (l.map Ty.enc)]):=by
 refine QN rfl ?_
 have:l.length<=lim:=by unfold lim; omega
 simp[Jr,this]
theorem QsD (t:Ty)(ht:t.wid<=67108864)(h:Avm.H): ∃v g,Qy h.length 1 8 g ((t.kids++t.items.map It.of).map Ty.enc) v/\
    Qa (evC (Qb cfg) Qa cfg.pol h.length h.length Qiu) [3,19,20,21] [(3,.osl (h.length+1) 0 8 0 t.kids.length),(19,.isl (t.items.map It.enc)),(20,.int .i64 t.items.length),(21,.int .i64 (0:Nat))] (h++([.arr 0 8 [t.enc]]++ [.arr 0 8 (t.kids.map Ty.enc)]))=
     some (.exit 0,[(3,v),(19,.isl (t.items.map It.enc)),(20,.int .i64 t.items.length),(21,.int .i64 t.items.length)],h++([.arr 0 8 [t.enc]]++g)):=by
 have hlp:=Qg (γ:=AV×Avm.H) (f:=evC (Qb cfg) Qa cfg.pol h.length h.length Qiu) (keep:=[3,19,20,21]) t.items
      (fun i c=>Qy h.length 1 8 c.2 ((t.kids++(t.items.take i).map It.of).map Ty.enc) c.1)
      (fun i c=>[(3,c.1),(19,.isl (t.items.map It.enc)),(20,.int .i64 t.items.length),(21,.int .i64 i)])
      (fun _ g=>h++([.arr 0 8 [t.enc]]++g.2))
      (fun _ _ o=>∃v g,Qy h.length 1 8 g ((t.kids++t.items.map It.of).map Ty.enc) v/\o=(.exit 0,[(3,v),(19,.isl (t.items.map It.enc)),(20,.int .i64 t.items.length),(21,.int .i64 t.items.length)],h++([.arr 0 8 [t.enc]]++g))) ?_ ?_
      (.osl (h.length+1) 0 8 0 t.kids.length,[.arr 0 8 (t.kids.map Ty.enc)]) (.inr ⟨0,0,by simp,by simp⟩)
 ·obtain⟨o,hl,v,g,hI,ho⟩:=hlp;exact⟨v,g,hI,ho▸hl⟩
 ·intro i x r c hd hi hx hI K hK;have h1:=t.Qe;have h2:=t.ZH;have hw:=Qd (n:=i+1) (by omega)
  simp at hw;have htk:t.items.take (i+1)=t.items.take i++ [x]:=by rw[List.take_succ_eq_append_getElem hi,hx]
  rw[htk]at hK;obtain⟨v,g⟩:=c;dsimp only at hI;simp[-Prod.exists,Qiu,hi,hx,hw,QS,appended];generalize hA:Ju _ _ _ _ _ _ _=r;obtain⟨v',g',rfl,h2⟩:=Qy.use (pre:=[_]) hI hA (by simp; omega) (by simp)
  obtain⟨o,h4,h5⟩:=hK (v',g') (by simpa using h2)
  refine⟨o,?_,by simpa using h5⟩
  simp at h4;simp[h4,hw]
 ·intro c K hI;refine⟨_,?_,c.1,c.2,by simpa using hI,rfl⟩
  simp[Qiu]
theorem QlC (t:Ty)(ht:t.wid<=67108864)(ws:Nat)(h:Avm.H):Qb cfg ws 157 [t.enc] h=some (.isl (t.inner.map Ty.enc),h):=by
 refine Qc rfl rfl ?_
 have hk:=fun ws h=>Qkt t.kids (Nat.le_trans t.ZH ht) ws h
 cases hcomp:t.comp with
 | false=>
  have hin:t.inner=t.kids:=by simp[Ty.inner,hcomp]
  simp[Ty.comp]at hcomp;rw[hin];simp[QAA,QAe,hk,hcomp]
 | true=>
  have hin:t.inner=t.kids++t.items.map It.of:=by simp[Ty.inner,hcomp]
  obtain⟨v,g,hI,hl⟩:=QsD t ht h;simp[Ty.comp]at hcomp;rw[hin];have hc:=hI.cells;have h1:=hI.one
  rcases hcomp with hcomp | hcomp<;>simp[hcomp]at hl<;>simp[QAA,QAe,hk,hcomp,hl,hc,h1]<;>generalize hA:frz _ _ v _=r<;>
   obtain⟨g',rfl⟩:=Qy.QgC (pre:=[_]) hI hA (YJ _)<;>simp
theorem Qqw : ∀(n:Nat) (t:Ty),t.size<=n->t.wid<=67108864->t.nodes<=67108864-> ∀ws h,Qb cfg ws 149 [t.enc] h=some (.tup [.int .i64 t.nodes,.int .i64 t.depth],h)
 | 0,t,ht,_,_,_,_=>by have:=t.size_pos; omega
 | n+1,t,ht,hw0,hb,ws,h=>by
  have hk:=QlC t hw0;have hlen:=t.Qac;have hdep:=Ty.Qah _ t (Nat.le_refl _);refine Qc rfl rfl ?_
  have hlp:=Qg (γ:=Avm.H) (f:=evC (Qb cfg) Qa cfg.pol h.length h.length Qmf) (keep:=[2,3,9,10,11]) t.inner (fun _ _=>True)
   (fun i _=>[(2,.int .i64 ((1+((t.inner.take i).map Ty.nodes).sum:Nat):Int)),(3,.int .i64 ((Xq ((t.inner.take i).map Ty.depth):Nat):Int)),(9,.isl (t.inner.map Ty.enc)),(10,.int .i64 t.inner.length),(11,.int .i64 i)]) (fun _ g=>h++([.arr 0 8 [t.enc]]++g))
   (fun _ _ o=>∃g,o=(.exit 0,[(2,.int .i64 ((1+(t.inner.map Ty.nodes).sum:Nat):Int)),(3,.int .i64 ((Xq (t.inner.map Ty.depth):Nat):Int)),(9,.isl (t.inner.map Ty.enc)),(10,.int .i64 t.inner.length),(11,.int .i64 t.inner.length)],h++([.arr 0 8 [t.enc]]++g))) ?_ ?_ [] trivial
  ·obtain⟨o,h1,g,h2⟩:=hlp;subst h2;have hd:=t.Zw;have hn:=t.QC;have hw1:=Qd (n:=Xq (t.inner.map Ty.depth)+1) (by omega)
   rw[show Xq (t.inner.map Ty.depth)+1=t.depth by omega]at hw1
   rw[hn,hd];simp[Xq]at h1;simp at hk;simp[QDx,QCF,hk,h1];rw[hd]at hw1;simp at hw1;rw[Int.add_comm,hw1]
  ·intro i x r g hd hi hx _ K hK;have hw:=Qd (n:=i+1) (by omega)
   have hm1:x∈t.inner:=by rw[←hx]; exact List.getElem_mem hi
   have hsz:=Ty.QQ hm1;have hwx:=Ty.ZU hm1;have hnx:=Ty.Xx hm1;have htk:t.inner.take (i+1)=t.inner.take i++ [x]:=by rw[List.take_succ_eq_append_getElem hi,hx]
   have hs2:=Qbn Ty.nodes t.inner (i+1);have hn:=t.QC;rw[htk]at hK hs2;simp only[List.map_append,List.map_cons,List.map_nil,List.sum_append,List.sum_cons,List.sum_nil,Nat.add_zero,Qab]at hK hs2;have hw2:=Qd (n:=1+((t.inner.take i).map Ty.nodes).sum+x.nodes) (by omega)
   have hmx: ∀a b:Nat,(if a<b then(b:Int)else(a:Int))=((max a b:Nat):Int):=fun a b=>by split<;>omega
   have hcl:=fun h'=>Qqw n x (by omega) (by omega) (by omega) h.length h'
   simp only[Ty.ZO]at hcl;obtain⟨o,h4,g2,h5⟩:=hK (g++ [.arr 0 8 [x.enc]]) trivial;refine⟨o,?_,g2,h5⟩
   rw[←Nat.add_assoc]at h4;have hm2:=hmx (Xq ((t.inner.take i).map Ty.depth)) x.depth;generalize Xq ((t.inner.take i).map Ty.depth)=md at h4 hm2 ⊢;generalize ((t.inner.take i).map Ty.nodes).sum=sm at h4 hw2 ⊢;generalize x.nodes=xn at h4 hw2 hcl ⊢;generalize x.depth=xd at h4 hm2 hcl ⊢;generalize max md xd=mm at h4 hm2 ⊢;simp at hw hw2 h4;simp[Qmf,hi,hx,hcl,hw,hw2,hm2,h4]
  ·intro g K _;refine⟨_,?_,g,rfl⟩
   simp[Qmf]
theorem Qej {g:FuncId}{k:Nat}{p:Ty->Bool}{cap cap':List AV}(l:List Ty)(hl:l.length<=67108864)(hs:Still cfg g)(h:Avm.H)(hcap:QH (snap h 7) cap=some cap')(hcp:Qv cap'=true)(hp: ∀x∈l,∀ws h',Qb cfg ws g (cap'.take k++([x.enc]++cap'.drop k)) h'=some (.bool (p x),h'))(ws:Nat):
    Qb cfg ws 156 [.isl (l.map Ty.enc),.QI g k cap] h=some (.bool (l.any p),h):=
 ZZ (K:=231) (sz:=8) (ag:=true) rfl rfl rfl rfl hl (by simp) (Ty.Qja l) hs hcap hcp hp ws
theorem WA {α:Type}(p:α->Bool): ∀l:List α,(l.any fun x=>!p x)= !l.all p
 | []=>rfl
 | x::l=>by simp only[List.any_cons,List.all_cons,WA p l,Bool.not_and]
theorem YG {g:FuncId}{k:Nat}{p:Ty->Bool}{cap':List AV}(hs:Still cfg g)(hcp:Qv cap'=true): ∀(n:Nat) (t:Ty),t.size<=n->t.wid<=67108864->t.nodes<=67108864->
    (∀x:Ty,x.size<=n->x.wid<=t.wid->x.nodes<=t.nodes-> ∀ws h',Qb cfg ws g (cap'.take k++([x.enc]++cap'.drop k)) h'=some (.bool (p x),h'))->
    ∀ws h cap,QH (snap h 7) cap=some cap'->Qb cfg ws 82 [t.enc,.QI g k cap] h=some (.bool (t.Qz p),h)
 | 0,t,ht,_,_,_,_,_,_,_=>by have:=t.size_pos; omega
 | n+1,t,ht,hw0,hb,hp,ws,h,cap,hcap=>by
  have hk:=QlC t hw0;have hpt:=fun ws h=>hp t ht (Nat.le_refl _) (Nat.le_refl _) ws h
  have hlen:=t.Qac
  have hsub: ∀x∈t.inner,∀ws h',Qb cfg ws 158 [x.enc,.iptr [.QI g k cap']] h'=some (.bool (!(x.Qz p)),h'):=fun x hx ws h'=>by
   have h1:=Ty.QQ hx;have h2:=Ty.ZU hx;have h3:=Ty.Xx hx;have hin:=fun h=>YG hs hcp n x (by omega) (by omega) (by omega) (fun y hy hyw hyn ws h'=>hp y (by omega) (by omega) (by omega) ws h') h'.length h cap' (Qx hcp)
   refine Qc rfl rfl ?_
   simp at hin;simp[QAz,QAd,Qx hcp,hcp,hin]
  have hct:=fun h cap2 (hcap2:QH (snap h 7) cap2=some [.iptr [.QI g k cap']])=>Qej (k:=0) t.inner (by omega) (.inl rfl) h hcap2 (by simp[hcp]) (fun x hx ws h'=>by simpa using hsub x hx ws h')
  refine Qc rfl rfl ?_
  rw[Ty.JL];simp at hk hpt;have hpol:=hs;cases hv:p t
  ·rw[hv]at hpt;rcases hs with hs | ⟨b,hs⟩<;>simp[F82,c82,hcap,hs,hpt]
  ·rw[hv]at hpt;rcases hs with hs | ⟨b,hs⟩<;>simp[F82,c82,hcap,hs,hpt,hk,hct,Qx hcp,WA]
def JU (x:Ty):Bool:=decide (x.items.length<=20)&&decide (x.kids.length<=20)
def Qbe (t:Ty):Bool:=decide (t.nodes<=600)&&(decide (t.depth<=30)&&t.Qz JU)
theorem Qxo (x:Ty)(ws:Nat)(h:Avm.H):Qb cfg ws 150 [x.enc] h=some (.bool (JU x),h):=by
 refine Qc rfl rfl ?_
 simp[QDw,QCE,JU]
 norm_cast
theorem QjZ (t:Ty)(hw0:t.wid<=67108864)(hb:t.nodes<=67108864)(ws:Nat)(h:Avm.H):Qb cfg ws 79 [t.enc] h=some (.bool (Qbe t),h):=by
 have h1:=Qqw _ t (Nat.le_refl _) hw0 hb;have h2:=fun ws h=>YG (cap':=[]) (k:=0) (.inl rfl) rfl _ t (Nat.le_refl _) hw0 hb (fun x _ _ _ ws h'=>by simpa using Qxo x ws h') ws h [] rfl
 refine Qc rfl rfl ?_
 simp at h1 h2;unfold Qbe;generalize t.nodes=a at h1 ⊢;generalize t.depth=b at h1 ⊢;have e1:((a:Int)<=600)=(a<=600):=by apply propext; omega
 have e2:((b:Int)<=30)=(b<=30):=by apply propext; omega
 by_cases q1:a<=600<;>by_cases q2:b<=30<;>simp[F79,c79,h1,h2,e1,e2,q1,q2]
end Go.Proofs.YtflbneepngjglaaGreatDoor
namespace Go.Proofs.YtflbneepngjglaaGreatDoor
open Go Go.Avm
def Ty.QB(t:Ty):List Ty:=(if t.comp then t.items.map It.of else [])++t.kids
theorem Jo (t x:Ty):x∈t.QB↔x∈t.inner:=by simp[Ty.QB,Ty.inner,or_comm]
theorem Qda (f:Ty->Nat)(t:Ty):(t.QB.map f).sum=(t.inner.map f).sum:=by simp[Ty.QB,Ty.inner,List.sum_append,Nat.add_comm]
theorem QhK : ∀l m:List Nat,Xq (l++m)=max (Xq l) (Xq m)
 | [],m=>by simp[Xq]
 | x::l,m=>by simp only[List.cons_append,Xq,QhK l m]; omega
theorem Qpg (f:Ty->Nat)(t:Ty):Xq (t.QB.map f)=Xq (t.inner.map f):=by simp only[Ty.QB,Ty.inner,List.map_append,QhK]; omega
theorem Qph (p:Ty->Bool)(t:Ty):t.QB.all p=t.inner.all p:=by simp[Ty.QB,Ty.inner,Bool.and_comm]
theorem Qhq (t:Ty):t.QB.length=t.inner.length:=by simp[Ty.QB,Ty.inner,Nat.add_comm]
def Ty.QZ(t:Ty):List Ty:=t::t.QB.attach.flatMap fun x=>x.1.QZ
termination_by t.size
decreasing_by exact Ty.QQ ((Jo _ _).1 x.2)
theorem Ty.QdX(t:Ty):t.QZ=t::t.QB.flatMap Ty.QZ:=by rw[Ty.QZ,QoD t.QB Ty.QZ]
theorem QhU {f:Ty->List Ty}{g:Ty->Nat}: ∀l:List Ty,(∀x∈l,(f x).length=g x)->(l.flatMap f).length=(l.map g).sum
 | [],_=>rfl
 | x::l,h=>by simp only[List.flatMap_cons,List.length_append,List.map_cons,List.sum_cons,h x (by simp),QhU l fun y hy=>h y (by simp[hy])]
theorem JH : ∀(n:Nat) (t:Ty),t.size<=n->t.QZ.length=t.nodes
 | 0,t,h=>by have:=t.size_pos; omega
 | n+1,t,h=>by
  rw[Ty.QdX,Ty.QC,List.length_cons,QhU (g:=Ty.nodes) t.QB fun x hx=>JH n x (by have:=Ty.QQ ((Jo _ _).1 hx); omega),Qda]
  omega
theorem YV (p:Ty->Bool): ∀(n:Nat) (t:Ty),t.size<=n->t.QZ.all p=t.Qz p
 | 0,t,h=>by have:=t.size_pos; omega
 | n+1,t,h=>by
  rw[Ty.QdX,Ty.JL,List.all_cons,←Qph]
  congr 1
  have: ∀l:List Ty,(∀x∈l,x.QZ.all p=x.Qz p)->(l.flatMap Ty.QZ).all p=l.all fun x=>x.Qz p:=fun l=>by
   induction l with
   | nil=>intro _; rfl
   | cons x l ih=>intro h; simp only[List.flatMap_cons,List.all_append,List.all_cons,h x (by simp),ih fun y hy=>h y (by simp[hy])]
  exact this t.QB fun x hx=>YV p n x (by have:=Ty.QQ ((Jo _ _).1 hx); omega)
theorem QdW : ∀(n:Nat) (t:Ty),t.size<=n-> ∀x∈t.QZ,x.wid<=t.wid/\x.size<=t.size
 | 0,t,h=>by have:=t.size_pos; omega
 | n+1,t,h=>by
  intro x hx;rw[Ty.QdX]at hx;rcases List.mem_cons.1 hx with rfl | hx
  ·exact⟨Nat.le_refl _,Nat.le_refl _⟩
  ·obtain⟨y,hy,hxy⟩:=List.mem_flatMap.1 hx;have hy:=(Jo _ _).1 hy;have h1:=Ty.QQ hy;have h2:=Ty.ZU hy;have:=QdW n y (by omega) x hxy
   omega
theorem Qlg (t:Ty)(ht:t.wid<=67108864)(h:Avm.H): ∃v g,Qy h.length 1 8 g (([]++(t.items).map It.of).map Ty.enc) v/\Qa (evC (Qb cfg) Qa cfg.pol h.length h.length Qiq) [1,3,4] [(1,.ptr h.length 0 8 0 0),(3,.osl (h.length+1) 0 8 0 0),(4,.int .i64 (0:Nat))] (h++([.arr 0 8 [t.enc]]++ [.arr 0 8 []]))=some (.exit 0,[(1,.ptr h.length 0 8 0 0),(3,v),(4,.int .i64 (t.items).length)],h++([.arr 0 8 [t.enc]]++g)):=by
 have hl:(t.items).length<=67108864:=Nat.le_trans t.Qe ht
 have hlp:=Qg (γ:=AV×Avm.H) (f:=evC (Qb cfg) Qa cfg.pol h.length h.length Qiq) (keep:=[1,3,4]) (t.items)
      (fun i c=>Qy h.length 1 8 c.2 (([]++((t.items).take i).map It.of).map Ty.enc) c.1)
      (fun i c=>[(1,.ptr h.length 0 8 0 0),(3,c.1),(4,.int .i64 i)]) (fun _ g=>h++([.arr 0 8 [t.enc]]++g.2))
      (fun _ _ o=>∃v g,Qy h.length 1 8 g (([]++(t.items).map It.of).map Ty.enc) v/\o=(.exit 0,[(1,.ptr h.length 0 8 0 0),(3,v),(4,.int .i64 (t.items).length)],h++([.arr 0 8 [t.enc]]++g))) ?_ ?_ (.osl (h.length+1) 0 8 0 0,[.arr 0 8 []]) (.inr ⟨0,0,by simp,by simp⟩)
 ·obtain⟨o,hl,v,g,hI,ho⟩:=hlp;exact⟨v,g,hI,ho▸hl⟩
 ·intro i x r c hd hi hx hI K hK;have hw:=Qd (n:=i+1) (by omega)
  simp at hw;have hm:x∈(t.items):=by rw[←hx]; exact List.getElem_mem hi
  have htk:(t.items).take (i+1)=(t.items).take i++ [x]:=by rw[List.take_succ_eq_append_getElem hi,hx]
  rw[htk]at hK;obtain⟨v,g⟩:=c;dsimp only at hI;simp[-Prod.exists,Qiq,hi,hx,hw,QS,appended,];generalize hA:Ju _ _ _ _ _ _ _=r;obtain⟨v',g',rfl,h2⟩:=Qy.use (pre:=[_]) hI hA (by simp; omega) (by simp)
  obtain⟨o,h4,h5⟩:=hK (v',g') (by simpa using h2)
  refine⟨o,?_,by simpa using h5⟩
  simp at h4;simp[h4,hw]
 ·intro c K hI;refine⟨_,?_,c.1,c.2,by simpa using hI,rfl⟩
  simp[Qiq]
theorem QdS (t:Ty)(ht:t.wid<=67108864)(h:Avm.H)(pre:List Ty)(hpre:pre.length<=67108864)(v0:AV)(g0:Avm.H)(hI0:Qy h.length 1 8 g0 (pre.map Ty.enc) v0): ∃v g,Qy h.length 1 8 g ((pre++(t.kids).map id).map Ty.enc) v/\Qa (evC (Qb cfg) Qa cfg.pol h.length h.length Qip) [1,3,5] [(1,.ptr h.length 0 8 0 0),(3,v0),(5,.int .i64 (0:Nat))] (h++([.arr 0 8 [t.enc]]++g0))=some (.exit 2,[(1,.ptr h.length 0 8 0 0),(3,v),(5,.int .i64 (t.kids).length)],h++([.arr 0 8 [t.enc]]++g)):=by
 have hl:(t.kids).length<=67108864:=Nat.le_trans t.ZH ht
 have hlp:=Qg (γ:=AV×Avm.H) (f:=evC (Qb cfg) Qa cfg.pol h.length h.length Qip) (keep:=[1,3,5]) (t.kids)
      (fun i c=>Qy h.length 1 8 c.2 ((pre++((t.kids).take i).map id).map Ty.enc) c.1)
      (fun i c=>[(1,.ptr h.length 0 8 0 0),(3,c.1),(5,.int .i64 i)]) (fun _ g=>h++([.arr 0 8 [t.enc]]++g.2))
      (fun _ _ o=>∃v g,Qy h.length 1 8 g ((pre++(t.kids).map id).map Ty.enc) v/\o=(.exit 2,[(1,.ptr h.length 0 8 0 0),(3,v),(5,.int .i64 (t.kids).length)],h++([.arr 0 8 [t.enc]]++g))) ?_ ?_ (v0,g0) (by simpa using hI0)
 ·obtain⟨o,hl,v,g,hI,ho⟩:=hlp;exact⟨v,g,hI,ho▸hl⟩
 ·intro i x r c hd hi hx hI K hK;have hw:=Qd (n:=i+1) (by omega)
  simp at hw;have hm:x∈(t.kids):=by rw[←hx]; exact List.getElem_mem hi
  have htk:(t.kids).take (i+1)=(t.kids).take i++ [x]:=by rw[List.take_succ_eq_append_getElem hi,hx]
  rw[htk]at hK;obtain⟨v,g⟩:=c;dsimp only at hI;simp[-Prod.exists,Qip,hi,hx,hw,QS,appended,];generalize hA:Ju _ _ _ _ _ _ _=r;obtain⟨v',g',rfl,h2⟩:=Qy.use (pre:=[_]) hI hA (by simp; omega) (by simp)
  obtain⟨o,h4,h5⟩:=hK (v',g') (by simpa using h2)
  refine⟨o,?_,by simpa using h5⟩
  simp at h4;simp[h4,hw]
 ·intro c K hI;refine⟨_,?_,c.1,c.2,by simpa using hI,rfl⟩
  simp[Qip]
theorem QjA (t:Ty)(ht:t.wid<=67108864)(ws:Nat)(h:Avm.H):Qb cfg ws 224 [t.enc] h=some (.isl (t.QB.map Ty.enc),h):=by
 refine Qc rfl rfl ?_
 have hwi:=t.Qe;cases hcomp:t.comp with
 | false=>
  have hin:t.QB=t.kids:=by simp[Ty.QB,hcomp]
  obtain⟨v,g,hI,hl⟩:=QdS t ht h [] (by simp) (.osl (h.length+1) 0 8 0 0) [.arr 0 8 []] (.inr ⟨0,0,by simp,by simp⟩)
  simp[Ty.comp]at hcomp;rw[hin];simp at hl hI;have hc:=hI.cells;have h1:=hI.one;simp[QAt,QzN,hcomp,hl];generalize hA:frz _ _ v _=r;obtain⟨g',rfl⟩:=Qy.QgC (pre:=[_]) hI hA (YJ _);simp
 | true=>
  have hin:t.QB=t.items.map It.of++t.kids:=by simp[Ty.QB,hcomp]
  obtain⟨v0,g0,hI0,hl0⟩:=Qlg t ht h;simp only[List.nil_append]at hI0;obtain⟨v,g,hI,hl⟩:=QdS t ht h (t.items.map It.of) (by simp; omega) v0 g0 hI0
  simp[Ty.comp]at hcomp;rw[hin];simp only[List.map_id]at hI
  rcases hcomp with hcomp | hcomp<;>simp[hcomp]at hl hl0<;>simp[QAt,QzN,hcomp,hl,hl0]<;>generalize hA:frz _ _ v _=r<;>
   obtain⟨g',rfl⟩:=Qy.QgC (pre:=[_]) hI hA (YJ _)<;>simp
theorem QeJ : ∀(n:Nat) (t:Ty),t.size<=n->t.wid<=67108864->t.nodes<=67108864-> ∀ws h,Qb cfg ws 143 [t.enc] h=some (.tup [.int .i64 t.nodes,.int .i64 t.depth],h)
 | 0,t,ht,_,_,_,_=>by have:=t.size_pos; omega
 | n+1,t,ht,hw0,hb,ws,h=>by
  have hk:=QjA t hw0;have hlen:=t.Qac;have hrl:=Qhq t;have hdep:=Ty.Qah _ t (Nat.le_refl _);have hsm:=Qda Ty.nodes t;have hmx0:=Qpg Ty.depth t;have hd:=t.Zw;have hn:=t.QC;refine Qc rfl rfl ?_
  have hlp:=Qg (γ:=Avm.H) (f:=evC (Qb cfg) Qa cfg.pol h.length h.length Qmg) (keep:=[4,5,6,7]) t.QB (fun _ _=>True)
   (fun i _=>[(4,.int .i64 ((1+((t.QB.take i).map Ty.nodes).sum:Nat):Int)),(5,.int .i64 ((Xq ((t.QB.take i).map Ty.depth):Nat):Int)),(6,.isl (t.QB.map Ty.enc)),(7,.int .i64 i)]) (fun _ g=>h++([.arr 0 8 [t.enc]]++g))
   (fun _ _ o=>∃g,o=(.exit 0,[(4,.int .i64 (t.nodes:Int)),(5,.int .i64 ((Xq (t.inner.map Ty.depth):Nat):Int)),(6,.isl (t.QB.map Ty.enc)),(7,.int .i64 t.QB.length)],h++([.arr 0 8 [t.enc]]++g))) ?_ ?_ [] trivial
  ·obtain⟨o,h1,g,h2⟩:=hlp;subst h2;have hw1:=Qd (n:=Xq (t.inner.map Ty.depth)+1) (by omega)
   simp[Xq]at h1;simp at hk hw1;simp[QDA,QCI,hk,h1,hw1];omega
  ·intro i x r g hd hi hx _ K hK;have hw:=Qd (n:=i+1) (by omega)
   have hm1:x∈t.inner:=(Jo _ _).1 (by rw[←hx]; exact List.getElem_mem hi)
   have hsz:=Ty.QQ hm1;have hwx:=Ty.ZU hm1;have hnx:=Ty.Xx hm1;have htk:t.QB.take (i+1)=t.QB.take i++ [x]:=by rw[List.take_succ_eq_append_getElem hi,hx]
   have hs2:=Qbn Ty.nodes t.QB (i+1);rw[htk]at hK hs2;simp only[List.map_append,List.map_cons,List.map_nil,List.sum_append,List.sum_cons,List.sum_nil,Nat.add_zero,Qab]at hK hs2;have hw2:=Qd (n:=1+((t.QB.take i).map Ty.nodes).sum+x.nodes) (by omega)
   have hmx: ∀a b:Nat,(if a<b then(b:Int)else(a:Int))=((max a b:Nat):Int):=fun a b=>by split<;>omega
   have hcl:=fun h'=>QeJ n x (by omega) (by omega) (by omega) h.length h'
   simp only[Ty.ZO]at hcl;obtain⟨o,h4,g2,h5⟩:=hK g trivial;refine⟨o,?_,g2,h5⟩
   rw[←Nat.add_assoc]at h4;have hm2:=hmx (Xq ((t.QB.take i).map Ty.depth)) x.depth;generalize Xq ((t.QB.take i).map Ty.depth)=md at h4 hm2 ⊢;generalize ((t.QB.take i).map Ty.nodes).sum=sm at h4 hw2 ⊢;generalize x.nodes=xn at h4 hw2 hcl ⊢;generalize x.depth=xd at h4 hm2 hcl ⊢;generalize max md xd=mm at h4 hm2 ⊢;simp at hw hw2 h4;simp[Qmg,hi,hx,hcl,hw,hw2,hm2,h4]
  ·intro g K _;refine⟨_,?_,g,rfl⟩
   simp[Qmg,hsm,hmx0];omega
theorem QrZ (t:Ty)(ht:t.wid<=67108864)(hb:t.nodes<=67108864)(hcall: ∀x∈t.QB,∀ws h,Qb cfg ws 215 [x.enc] h=some (.isl (x.QZ.map Ty.enc),h))(h:Avm.H): ∃v g,Qy h.length 1 8 g (([t]++(t.QB).flatMap Ty.QZ).map Ty.enc) v/\Qa (evC (Qb cfg) Qa cfg.pol h.length h.length Qis) [3,4,5] [(3,.osl (h.length+1) 0 8 0 1),(4,.isl (t.QB.map Ty.enc)),(5,.int .i64 (0:Nat))] (h++([.arr 0 8 [t.enc]]++ [.arr 0 8 [t.enc]]))=some (.exit 0,[(3,v),(4,.isl (t.QB.map Ty.enc)),(5,.int .i64 (t.QB).length)],h++([.arr 0 8 [t.enc]]++g)):=by
 have hl:(t.QB).length<=67108864:=(by have:=t.Qac; rw[Qhq]; omega)
 have hlp:=Qg (γ:=AV×Avm.H) (f:=evC (Qb cfg) Qa cfg.pol h.length h.length Qis) (keep:=[3,4,5]) (t.QB)
      (fun i c=>Qy h.length 1 8 c.2 (([t]++((t.QB).take i).flatMap Ty.QZ).map Ty.enc) c.1)
      (fun i c=>[(3,c.1),(4,.isl (t.QB.map Ty.enc)),(5,.int .i64 i)]) (fun _ g=>h++([.arr 0 8 [t.enc]]++g.2))
      (fun _ _ o=>∃v g,Qy h.length 1 8 g (([t]++(t.QB).flatMap Ty.QZ).map Ty.enc) v/\o=(.exit 0,[(3,v),(4,.isl (t.QB.map Ty.enc)),(5,.int .i64 (t.QB).length)],h++([.arr 0 8 [t.enc]]++g))) ?_ ?_ (.osl (h.length+1) 0 8 0 1,[.arr 0 8 [t.enc]]) (.inr ⟨0,0,by simp,by simp⟩)
 ·obtain⟨o,hl,v,g,hI,ho⟩:=hlp;exact⟨v,g,hI,ho▸hl⟩
 ·intro i x r c hd hi hx hI K hK;have hw:=Qd (n:=i+1) (by omega)
  simp at hw;have hm:x∈(t.QB):=by rw[←hx]; exact List.getElem_mem hi
  have htk:(t.QB).take (i+1)=(t.QB).take i++ [x]:=by rw[List.take_succ_eq_append_getElem hi,hx]
  rw[htk]at hK;have hcl:=fun h'=>hcall x hm h.length h'
  simp at hcl
  have hle:1+((t.QB.take i).flatMap Ty.QZ).length+x.QZ.length<=t.nodes:=by
   rw[QhU (g:=Ty.nodes) (t.QB.take i) fun y hy=>JH _ y (Nat.le_refl _),JH _ x (Nat.le_refl _)]
   have:=Qbn Ty.nodes t.QB (i+1);rw[htk,Qda]at this;simp only[List.map_append,List.map_cons,List.map_nil,List.sum_append,List.sum_cons,List.sum_nil,Nat.add_zero]at this;rw[t.QC]; omega
  obtain⟨v,g⟩:=c;dsimp only at hI;simp[-Prod.exists,Qis,hi,hx,hw,QS,appended,hcl];generalize hA:Ju _ _ _ _ _ _ _=r;obtain⟨v',g',rfl,h2⟩:=Qy.QEe (pre:=[_]) hI hA (by simp only[List.length_map,List.length_append,List.length_cons,List.length_nil]; omega) (by simp)
  obtain⟨o,h4,h5⟩:=hK (v',g') (by simpa using h2)
  refine⟨o,?_,by simpa using h5⟩
  simp at h4;simp[h4,hw]
 ·intro c K hI;refine⟨_,?_,c.1,c.2,by simpa using hI,rfl⟩
  simp[Qis]
theorem QaD : ∀(n:Nat) (t:Ty),t.size<=n->t.wid<=67108864->t.nodes<=67108864-> ∀ws h,Qb cfg ws 215 [t.enc] h=some (.isl (t.QZ.map Ty.enc),h)
 | 0,t,ht,_,_,_,_=>by have:=t.size_pos; omega
 | n+1,t,ht,hw0,hb,ws,h=>by
  have hk:=QjA t hw0
  obtain⟨v,g,hI,hl⟩:=QrZ t hw0 hb (fun x hx ws h=>by
   have hx:=(Jo _ _).1 hx;have h1:=Ty.QQ hx;have h2:=Ty.ZU hx;have h3:=Ty.Xx hx;exact QaD n x (by omega) (by omega) (by omega) ws h) h
  refine Qc rfl rfl ?_
  simp at hk hl;have hre:t.QZ=[t]++t.QB.flatMap Ty.QZ:=by rw[Ty.QdX]; rfl
  rw[←hre]at hI;simp[QDf,QCn,hk,hl,QS];generalize hA:frz _ _ v _=r;obtain⟨g',rfl⟩:=Qy.QgC (pre:=[_]) hI hA (YJ _);simp
theorem QlB (l:List Ty)(hl0:l.length<=67108864)(h B:Avm.H): ∃g,Qa (evC (Qb cfg) Qa cfg.pol h.length h.length Qfz) [5,6] [(5,.isl (l.map Ty.enc)),(6,.int .i64 (0:Nat))] (h++(B++ []))=some (if(l).all JU=true then(.exit 0,[(5,.isl (l.map Ty.enc)),(6,.int .i64 (l).length)],h++(B++g))else(.ret,[(2,.bool false)],h++(B++g))):=by
 have hl:(l).length<=67108864:=hl0
 have hlp:=Qg (γ:=Avm.H) (f:=evC (Qb cfg) Qa cfg.pol h.length h.length Qfz) (keep:=[5,6]) (l) (fun _ _=>True)
      (fun i _=>[(5,.isl (l.map Ty.enc)),(6,.int .i64 i)]) (fun _ g=>h++(B++g))
      (fun _ r o=>∃g,o=if r.all JU=true then(.exit 0,[(5,.isl (l.map Ty.enc)),(6,.int .i64 (l).length)],h++(B++g))else(.ret,[(2,.bool false)],h++(B++g))) ?_ ?_ [] trivial
 ·obtain⟨o,h1,g,h2⟩:=hlp;exact⟨g,h2▸h1⟩
 ·intro i x r g hd hi hx _ K hK;have hw:=Qd (n:=i+1) (by omega)
  simp at hw;have hm:x∈(l):=by rw[←hx]; exact List.getElem_mem hi
  have e1:((20:Int)<x.items.length)= ¬(x.items.length<=20):=by apply propext; omega
  have e2:((20:Int)<x.kids.length)= ¬(x.kids.length<=20):=by apply propext; omega
  cases hv:JU x
  ·refine⟨_,?_,g,by simp only[List.all_cons,hv,Bool.false_and,Bool.false_eq_true,if_false]; rfl⟩
   by_cases q1:x.items.length<=20<;>by_cases q2:x.kids.length<=20<;>simp[JU,q1,q2]at hv<;>simp[Qfz,hi,hx,e1,e2,q1,q2]
  ·obtain⟨o,h4,g2,h5⟩:=hK g trivial;refine⟨o,?_,g2,by simp only[List.all_cons,hv,Bool.true_and]; exact h5⟩
   simp at h4;by_cases q1:x.items.length<=20<;>by_cases q2:x.kids.length<=20<;>simp[JU,q1,q2]at hv<;>simp[Qfz,hi,hx,e1,e2,q1,q2,hw,h4]
 ·intro g K _;refine⟨_,?_,g,by simp only[List.all_nil,if_true]; rfl⟩
  simp[Qfz]
theorem QhM (t:Ty)(hw0:t.wid<=67108864)(hb:t.nodes<=67108864)(ws:Nat)(h:Avm.H):Qb cfg ws 134 [t.enc] h=some (.bool (Qbe t),h):=by
 have h1:=QeJ _ t (Nat.le_refl _) hw0 hb;have h2:=QaD _ t (Nat.le_refl _) hw0 hb;have hlen:=JH _ t (Nat.le_refl _);obtain⟨g,hl⟩:=QlB t.QZ (by omega) h [.arr 0 8 [t.enc]]
 have hal:=YV JU _ t (Nat.le_refl _);rw[hal]at hl;refine Qc rfl rfl ?_
 simp at h1 h2;unfold Qbe;generalize t.nodes=a at h1 ⊢;generalize t.depth=b at h1 ⊢;have e1:((600:Int)<a)= ¬(a<=600):=by apply propext; omega
 have e2:((30:Int)<b)= ¬(b<=30):=by apply propext; omega
 cases q3:t.Qz JU<;>simp[q3]at hl<;>by_cases q1:a<=600<;>by_cases q2:b<=30<;>simp[QDG,QCO,h1,h2,e1,e2,q1,q2,hl]
end Go.Proofs.YtflbneepngjglaaGreatDoor
namespace Go.Proofs.YtflbneepngjglaaGreatDoor
open Go Go.Avm
def QeS (n:Int):Bool:=(decide (97<=n)&&decide (n<=122))||((decide (65<=n)&&decide (n<=90))||(decide (48<=n)&&decide (n<=57)))
def byI (b:UInt8):Int:=(b.toNat:Int)
def okC (c:UInt8):Bool:=QeS (byI c)||decide (byI c=45)
def QhO (bs:List UInt8):Int:=match bs.getLast? with | some c=>byI c | none=>0
def nmB (f l:Int)(bs:List UInt8):Bool:=match bs with
 | []=>false
 | c::r=>decide ((c::r).length<=30)&&(decide (f<=byI c)&&(decide (byI c<=l)&&(!decide (QhO (c::r)=45)&&(!Lib.contains (c::r) [45,45]&&(c::r).all okC))))
theorem Qka (n:Int)(ws:Nat)(h:Avm.H):Qb cfg ws 263 [.int .u8 n] h=some (.bool (QeS n),h):=by
 refine Qc rfl rfl ?_
 have a1: ∀a:Int,(!decide (a<n))=decide (n<=a):=fun a=>by by_cases q:n<=a<;>simp[q]<;>omega
 simp[QCT,QCb,QeS,Bool.or_assoc,a1]
theorem Qsr (bs:List UInt8)(hb:bs.length<=67108864)(h:Avm.H): ∃g,Qa (evC (Qb cfg) Qa cfg.pol h.length h.length Qfi) [41,42,43] [(41,.osl h.length 0 1 0 bs.length),(42,.int .i64 bs.length),(43,.int .i64 (0:Nat))] (h++([.arr 0 1 (bs.map fun b=>.int .u8 (byI b))]++ []))=some (if(bs).all okC=true then(.exit 0,[(41,.osl h.length 0 1 0 bs.length),(42,.int .i64 bs.length),(43,.int .i64 (bs).length)],h++([.arr 0 1 (bs.map fun b=>.int .u8 (byI b))]++g))else(.ret,[(6,.bool false)],h++([.arr 0 1 (bs.map fun b=>.int .u8 (byI b))]++g))):=by
 have hl:(bs).length<=67108864:=hb
 have hlp:=Qg (γ:=Avm.H) (f:=evC (Qb cfg) Qa cfg.pol h.length h.length Qfi) (keep:=[41,42,43]) (bs) (fun _ _=>True)
      (fun i _=>[(41,.osl h.length 0 1 0 bs.length),(42,.int .i64 bs.length),(43,.int .i64 i)]) (fun _ g=>h++([.arr 0 1 (bs.map fun b=>.int .u8 (byI b))]++g))
      (fun _ r o=>∃g,o=if r.all okC=true then(.exit 0,[(41,.osl h.length 0 1 0 bs.length),(42,.int .i64 bs.length),(43,.int .i64 (bs).length)],h++([.arr 0 1 (bs.map fun b=>.int .u8 (byI b))]++g))else(.ret,[(6,.bool false)],h++([.arr 0 1 (bs.map fun b=>.int .u8 (byI b))]++g))) ?_ ?_ [] trivial
 ·obtain⟨o,h1,g,h2⟩:=hlp;exact⟨g,h2▸h1⟩
 ·intro i x r g hd hi hx _ K hK;have hw:=Qd (n:=i+1) (by omega)
  simp at hw;have hm:x∈(bs):=by rw[←hx]; exact List.getElem_mem hi
  have hlt:=fun ws h=>Qka (byI x) ws h
  have hlt45:=fun ws h=>Qka 45 ws h
  have h45:QeS 45=false:=by decide
  cases hv:okC x
  ·refine⟨_,?_,g,by simp only[List.all_cons,hv,Bool.false_and,Bool.false_eq_true,if_false]; rfl⟩
   simp only[okC,Bool.or_eq_false_iff,decide_eq_false_iff_not]at hv;obtain⟨hv1,hv2⟩:=hv;simp[Qfi,hi,hx,hlt,hlt45,h45,hv1,hv2]
  ·obtain⟨o,h4,g2,h5⟩:=hK g trivial;refine⟨o,?_,g2,by simp only[List.all_cons,hv,Bool.true_and]; exact h5⟩
   simp at h4;simp only[okC,Bool.or_eq_true,decide_eq_true_eq]at hv;rcases hv with hv | hv<;>simp[Qfi,hi,hx,hlt,hlt45,h45,hv,hw,h4]
 ·intro g K _;refine⟨_,?_,g,by simp only[List.all_nil,if_true]; rfl⟩
  simp[Qfi]
theorem QqQ (f l:Int)(s:ByteArray)(hs:s.size<=67108864)(ws:Nat)(h:Avm.H):Qb cfg ws 225 [.str s,.int .u8 f,.int .u8 l] h=some (.bool (nmB f l s.data.toList),h):=by
 obtain⟨bs,hbs⟩: ∃bs,s.data.toList=bs:=⟨_,rfl⟩;have hsz:s.size=bs.length:=by rw[←hbs,Array.length_toList]; rfl
 have hco:=fun ws h=>QN (cfg:=cfg) (f:=166) (ws:=ws) (args:=[.str s,.str ⟨#[45,45]⟩]) (h:=h) (r:=(.bool (Lib.contains bs [45,45]),h)) rfl (by simp only[QX,hbs]; rw[if_pos (by omega)])
 obtain⟨g,hl⟩:=Qsr bs (by omega) h
 simp only[←hsz]at hl;have hE:s.toList=bs:=by rw[ByteArray.toList_eq,hbs]
 have hE0:(⟨#[]⟩:ByteArray).toList=[]:=by rw[ByteArray.toList_eq]
 refine Qc rfl rfl ?_
 rw[hbs];cases bs with
 | nil=>simp[QoH,Qos,hE,hE0,nmB]
 | cons c r=>
  have hw:IntKind.wrap .i64 ((s.size:Int)-1)=r.length:=by rw[hsz]; simp; exact Qd (by simp at hsz; omega)
  have hlast:(c::r)[r.length]? =(c::r).getLast?:=by rw[List.getLast?_eq_getElem?]; simp
  obtain⟨z,hz⟩: ∃z,(c::r).getLast? =some z:=⟨_,List.getLast?_cons⟩
  have hlz:QhO (c::r)=byI z:=by simp[QhO,hz]
  have e30:((30:Int)<s.size)= ¬((c::r).length<=30):=by apply propext; rw[hsz]; omega
  rw[hz]at hlast;simp only[nmB,hlz];have hc0:(c::r)[0]? =some c:=rfl;have hby: ∀b:UInt8,((b.toNat:Nat):Int)=byI b:=fun _=>rfl
  by_cases q1:(c::r).length<=30
  ·by_cases q2:f<=byI c
   ·have n1: ¬byI c<f:=by omega
    by_cases q3:byI c<=l
    ·have n2: ¬l<byI c:=by omega
     by_cases q4:byI z=45
     ·simp[QoH,Qos,hE,hE0,hbs,hw,hc0,hlast,e30,hco,hby,-List.length_cons,q1,q2,q3,q4,n1,n2]
     ·cases q5:Lib.contains (c::r) [45,45]<;>simp only[q5]at hco
      ·cases q6:(c::r).all okC<;>simp only[q6]at hl<;>simp at hl<;>simp[QoH,Qos,hE,hE0,hbs,hw,hc0,hlast,e30,hco,hby,-List.length_cons,q1,q2,q3,q4,n1,n2,hl]
      ·simp[QoH,Qos,hE,hE0,hbs,hw,hc0,hlast,e30,hco,hby,-List.length_cons,q1,q2,q3,q4,n1,n2]
    ·have n2:l<byI c:=by omega
     simp[QoH,Qos,hE,hE0,hbs,hw,hc0,hlast,e30,hco,hby,-List.length_cons,q1,q2,q3,n1,n2]
   ·have n1:byI c<f:=by omega
    simp[QoH,Qos,hE,hE0,hbs,hw,hc0,hlast,e30,hco,hby,-List.length_cons,q1,q2,n1]
  ·simp[QoH,Qos,hE,hE0,hbs,hw,hc0,hlast,e30,hco,hby,-List.length_cons,q1]
end Go.Proofs.YtflbneepngjglaaGreatDoor
