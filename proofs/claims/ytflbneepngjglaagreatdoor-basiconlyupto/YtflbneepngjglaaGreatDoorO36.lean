/- Values that are not too large; what values have. -/
import Derived.Test.YtflbneepngjglaaGreatDoorO35
set_option linter.all false
namespace Go.Proofs.YtflbneepngjglaaGreatDoor
open Go Go.Avm
def Ja (m:Md)(t:Ty):Option Ty:=match m.defs.find? (isD t.name)with
 | none=>none
 | some d=>if d.params.length≠t.kids.length then none else if d.params=[]then some d.of else if(d.of.put d.params t.kids).nodes<=600 then some (d.of.put d.params t.kids)else none
def beh (m:Md):Nat->Ty->Option Ty
 | 0,_=>none
 | n+1,t=>if t.kind=10 then(Ja m t).bind (beh m n)else some t
theorem Qgq (N:Nat)(ps:List ByteArray)(args:List Ty)(ha: ∀a∈args,a.wid<=N): ∀(n:Nat) (t:Ty),t.size<=n->t.wid<=N->(t.put ps args).wid<=N
 | 0,t,h,_=>by have:=t.size_pos; omega
 | n+1,t,h,hw=>by
  rw[Ty.put_eq];cases hp:t.par ps with
  | some i=>
   dsimp only;cases hi:args[i]? with
   | none=>simp[Ty.zero,Ty.Xp,It.XV,Ty.XV]; exact Nat.zero_le _
   | some a=>exact ha a (List.mem_of_getElem? hi)
  | none=>
   dsimp only;rw[Ty.Xp]at hw ⊢;simp only[Ty.Zq,Ty.Xl,Ty.ZC,List.length_map]
   have h1:It.XV (t.items.map fun x=>x.QR (x.of.put ps args))<=N:=It.Qau fun x hx=>by
    obtain⟨y,hy,rfl⟩:=List.mem_map.1 hx;have h2:=Qgq N ps args ha n y.of (by have:=Ty.mem_of hy; omega) (by have:=Ty.ZI hy; rw[Ty.Xp t]at this; omega)
    have h3:=Ty.Jf hy;rw[Ty.Xp t]at h3;rw[It.Xp]at h3 ⊢;simp only[It.QR,It.Zq,It.Qyg,It.Qrk];omega
   have h2:Ty.XV (t.kids.map fun x=>x.put ps args)<=N:=Ty.Qau fun x hx=>by
    obtain⟨y,hy,rfl⟩:=List.mem_map.1 hx;exact Qgq N ps args ha n y (by have:=Ty.Xa hy; omega) (by have:=Ty.ZT hy; rw[Ty.Xp t]at this; omega)
   omega
theorem QtI (m:Md)(hm:m.ok){t u:Ty}(ht:t.wid<=67108864)(h:Ja m t=some u):u.wid<=67108864:=by
 unfold Ja at h;split at h
 ·cases h
 ·rename_i d hd;have hdm:=List.mem_of_find?_eq_some hd
  have hdw:d.of.wid<=67108864:=Nat.le_trans d.of.XF (hm.of d hdm);split at h
  ·cases h
  ·split at h
   ·cases h; exact hdw
   ·split at h
    ·cases h;exact Qgq _ _ _ (fun a ha=>Nat.le_trans (Ty.ZT ha) ht) _ _ (Nat.le_refl _) hdw
    ·cases h
def QoI (m:Md)(h:Avm.H):Option Ty->Ex×Env×Avm.H->Prop
 | some b,o=>∃(u:Ty) (g:Avm.H),o=(.ret,[(4,.ptr (h.length+2) 0 8 0 0),(5,.bool true)],h++([.arr 0 2 [m.enc],.arr 0 8 [u.enc],.arr 0 8 [b.enc]]++g))
 | none,o=>∃(u:Ty) (g:Avm.H),o=(.ret,[(4,.ptr (h.length+2) 0 8 0 0),(5,.bool false)],h++([.arr 0 2 [m.enc],.arr 0 8 [u.enc],.arr 0 8 [Ty.zero.enc]]++g))\/o=(.exit 0,[(2,.ptr h.length 0 2 0 0),(3,.ptr (h.length+1) 0 8 0 0),(4,.ptr (h.length+2) 0 8 0 0),(8,.int .i64 21)],h++([.arr 0 2 [m.enc],.arr 0 8 [u.enc],.arr 0 8 [Ty.zero.enc]]++g))
theorem Qqi (m:Md)(h:Avm.H)(u:Ty)(g:Avm.H):QoI m h none (.ret,[(4,.ptr (h.length+2) 0 8 0 0),(5,.bool false)],h++([.arr 0 2 [m.enc],.arr 0 8 [u.enc],.arr 0 8 [Ty.zero.enc]]++g)):=⟨u,g,.inl rfl⟩
theorem QxO (m:Md)(h:Avm.H)(u:Ty)(g:Avm.H):QoI m h none (.exit 0,[(2,.ptr h.length 0 2 0 0),(3,.ptr (h.length+1) 0 8 0 0),(4,.ptr (h.length+2) 0 8 0 0),(8,.int .i64 21)],h++([.arr 0 2 [m.enc],.arr 0 8 [u.enc],.arr 0 8 [Ty.zero.enc]]++g)):=⟨u,g,.inr rfl⟩
theorem QxN (m:Md)(h:Avm.H)(b u:Ty)(g:Avm.H):QoI m h (some b) (.ret,[(4,.ptr (h.length+2) 0 8 0 0),(5,.bool true)],h++([.arr 0 2 [m.enc],.arr 0 8 [u.enc],.arr 0 8 [b.enc]]++g)):=⟨u,g,rfl⟩
theorem QoB (m:Md)(hm:m.ok)(t:Ty)(ht:t.wid<=67108864)(h:Avm.H): ∃o,Qa (evC (Qb cfg) Qa cfg.pol h.length h.length QcR) [2,3,4,8] [(2,.ptr h.length 0 2 0 0),(3,.ptr (h.length+1) 0 8 0 0),(4,.ptr (h.length+2) 0 8 0 0),(8,.int .i64 (0:Nat))] (h++([.arr 0 2 [m.enc],.arr 0 8 [t.enc],.arr 0 8 [Ty.zero.enc]]++ []))=some o/\
    QoI m h (beh m 21 t) o:=by
 refine Qg (γ:=Ty×Avm.H) (f:=evC (Qb cfg) Qa cfg.pol h.length h.length QcR) (keep:=[2,3,4,8]) (List.range 21)
  (fun i c=>c.1.wid<=67108864/\beh m 21 t=beh m (21-i) c.1)
  (fun i _=>[(2,.ptr h.length 0 2 0 0),(3,.ptr (h.length+1) 0 8 0 0),(4,.ptr (h.length+2) 0 8 0 0),(8,.int .i64 i)]) (fun _ c=>h++([.arr 0 2 [m.enc],.arr 0 8 [c.1.enc],.arr 0 8 [Ty.zero.enc]]++c.2))
  (fun _ _ o=>QoI m h (beh m 21 t) o) ?_ ?_ (t,[]) ⟨ht,rfl⟩
 ·intro i x r c hd hi hx hI K hK;obtain⟨u,g⟩:=c;obtain⟨hI1,hI2⟩:=hI;dsimp only at hI1 hI2;have hi:i<21:=by simpa using hi
  have hi':(i:Int)<21:=by omega
  have hw:=Qd (n:=i+1) (by omega)
  simp at hw
  have hbe:beh m (21-i) u=if u.kind=10 then(Ja m u).bind (beh m (21-(i+1)))else some u:=by
   rw[show 21-i=(21-(i+1))+1 by omega,beh]
  rw[hbe]at hI2;by_cases q10:u.kind=10
  ·rw[if_pos q10]at hI2;have hdf:=QvL m u.name hm.len;simp[Md.enc]at hdf;unfold Ja at hI2;cases hd:m.defs.find? (isD u.name)with
   | none=>
    rw[hd]at hI2 hdf;simp at hI2;rw[hI2];simp[Qta]at hdf;refine⟨_,?_,Qqi m h u g⟩
    simp[QcR,hi',q10,hdf,Md.enc,Ty.zero]
   | some d=>
    rw[hd]at hI2 hdf;have hdm:=List.mem_of_find?_eq_some hd
    have hdw:d.of.wid<=67108864:=Nat.le_trans d.of.XF (hm.of d hdm);simp[Qta,Df.cells]at hdf;by_cases hlen:d.params.length=u.kids.length
    ·have hlen':((d.params.length:Nat):Int)=(u.kids.length:Nat):=by omega
     by_cases hp:d.params=[]
     ·simp[hlen,hp]at hI2;have hk0:u.kids.length=0:=by rw[←hlen,hp]; rfl
      have hd0:d.params.length=0:=by rw[hp]; rfl
      obtain⟨o,h4,h5⟩:=hK (d.of,g) ⟨hdw,by rw[hI2]; simp[hp,hk0]⟩
      refine⟨o,?_,h5⟩
      simp[Md.enc,Ty.zero]at h4;simp[QcR,hi',q10,hdf,Md.enc,Ty.zero,hd0,hk0,hw,h4]
     ·have hp0: ¬d.params.length=0:=fun e=>hp (List.eq_nil_of_length_eq_zero e)
      have hp0': ¬u.kids.length=0:=by omega
      have hput:=fun ws h=>Qpq d.params u.kids (hm.params d hdm) hlen _ d.of (Nat.le_refl _) hdw ws h
      have hpw:=Qgq 67108864 d.params u.kids (fun a ha=>Nat.le_trans (Ty.ZT ha) hI1) _ d.of (Nat.le_refl _) hdw
      generalize hpt:d.of.put d.params u.kids=p at hput hpw;simp only[hpt]at hI2;obtain⟨l',hfe,_⟩:=QpO _ p (Nat.le_refl _) hpw 600 (by omega) (by omega) (h.length+(g.length+3)) 0 h.length (h++([.arr 0 2 [m.enc],.arr 0 8 [p.enc],.arr 0 8 [Ty.zero.enc]]++(g++ [.arr 0 1 [.int .i64 600]]))) (by simp) (by omega)
      simp[Md.enc,Ty.zero]at hfe hput;by_cases hle:p.nodes<=600
      ·have hle':(p.nodes:Int)<=600:=by omega
       simp[hlen,hp,hle]at hI2;obtain⟨o,h4,h5⟩:=hK (p,g++ [.arr 0 1 [.int .i64 l']]) ⟨hpw,by rw[hI2]; simp⟩
       refine⟨o,?_,h5⟩
       simp[Md.enc,Ty.zero]at h4;simp[hle']at hfe;simp[QcR,hi',q10,hdf,Md.enc,Ty.zero,hlen',hp0',hput,hfe,hw,h4]
      ·have hle': ¬(p.nodes:Int)<=600:=by omega
       simp[hlen,hp,hle]at hI2;rw[hI2];refine⟨_,?_,Qqi m h p (g++ [.arr 0 1 [.int .i64 l']])⟩
       simp[hle']at hfe;simp[QcR,hi',q10,hdf,Md.enc,Ty.zero,hlen',hp0',hput,hfe]
    ·have hlen': ¬((d.params.length:Nat):Int)=(u.kids.length:Nat):=by omega
     simp[hlen]at hI2;rw[hI2];refine⟨_,?_,Qqi m h u g⟩
     simp[QcR,hi',q10,hdf,Md.enc,Ty.zero,hlen']
  ·rw[if_neg q10]at hI2;rw[hI2];refine⟨_,?_,QxN m h u u g⟩
   simp[QcR,hi',q10,Md.enc,Ty.zero]
 ·intro c K hI
  have h0:beh m 21 t=none:=by
   have h1:=hI.2;rw[List.length_range]at h1;exact h1
  rw[h0];refine⟨_,?_,QxO m h c.1 c.2⟩
  simp[QcR]
theorem Zy (m:Md)(hm:m.ok)(t:Ty)(ht:t.wid<=67108864)(ws:Nat)(h:Avm.H):Qb cfg ws 50 [m.enc,t.enc] h=some (.tup [((beh m 21 t).getD Ty.zero).enc,.bool (beh m 21 t).isSome],h):=by
 obtain⟨o,hl,ho⟩:=QoB m hm t ht h;refine Qc rfl rfl ?_
 cases hb:beh m 21 t with
 | none=>
  rw[hb]at ho;obtain⟨u,g,ho⟩:=ho;rcases ho with rfl | rfl<;>simp[Md.enc,Ty.zero]at hl<;>simp[F50,c50,Md.enc,Ty.zero,hl]
 | some b=>
  rw[hb]at ho;obtain⟨u,g,rfl⟩:=ho;simp[Md.enc,Ty.zero]at hl;simp[F50,c50,Md.enc,Ty.zero,hl]
end Go.Proofs.YtflbneepngjglaaGreatDoor
namespace Go.Proofs.YtflbneepngjglaaGreatDoor
open Go Go.Avm
theorem QlN (v:Val)(hv:v.size<=67108864)(d:Int)(hd0:0<=d)(hd1:d<=30)(c0:Int)(hc0:0<=c0)(hc1:c0<=67108864)(b ver ws:Nat)(h g0:Avm.H)(hb:b<h.length)(hws:ws<=b)(hcall: ∀x∈v.items,∀(left:Int),0<=left->left<=67108864-> ∀(b ver ws:Nat) (h:Avm.H),h[b]? =some (.arr ver 1 [.int .i64 left])->ws<=b-> ∃l':Int,Qb cfg ws 85 [x.enc,.int .i64 (d+1),.ptr b ver 1 0 0] h=some (.bool (decide ((x.nodes:Int)<=left/\(d+1)+x.depth<=31)),h.set b (.arr ver 1 [.int .i64 l']))/\((x.nodes:Int)<=left/\(d+1)+x.depth<=31->l'=left-x.nodes)):
    ∃(o:Ex×Env×Avm.H),Qa (evC (Qb cfg) Qa cfg.pol h.length ws Qkw) [1,2,23,24,25] [(1,.int .i64 d),(2,.ptr b ver 1 0 0),(23,.isl (v.items.map Val.enc)),(24,.int .i64 v.items.length),(25,.int .i64 (0:Nat))] ((h.set b (.arr ver 1 [.int .i64 c0]))++([.arr 0 4 [v.enc]]++g0))=some o/\ ∃(c:Int) (g:Avm.H),(c=c0-((v.items.map Val.nodes).sum:Nat)/\(v.items=[]\/((((v.items.map Val.nodes).sum:Nat):Int)<=c0/\d+1+(Xq (v.items.map Val.depth):Nat)<=31))/\o=(.exit 0,[(1,.int .i64 d),(2,.ptr b ver 1 0 0),(23,.isl (v.items.map Val.enc)),(24,.int .i64 v.items.length),(25,.int .i64 v.items.length)],(h.set b (.arr ver 1 [.int .i64 c]))++([.arr 0 4 [v.enc]]++g)))\/(¬((((v.items.map Val.nodes).sum:Nat):Int)<=c0/\d+1+(Xq (v.items.map Val.depth):Nat)<=31)/\v.items≠ []/\o=(.ret,[(6,.bool false)],(h.set b (.arr ver 1 [.int .i64 c]))++([.arr 0 4 [v.enc]]++g))):=by
 have hl:v.items.length<=67108864:=by have:=v.Qw; omega
 refine Qg (γ:=Int×Avm.H) (f:=evC (Qb cfg) Qa cfg.pol h.length ws Qkw) (keep:=[1,2,23,24,25]) v.items
     (fun i c=>c.1=c0-(((v.items.take i).map Val.nodes).sum:Nat)/\0<=c.1/\(i=0\/d+1+(Xq ((v.items.take i).map Val.depth):Nat)<=31))
     (fun i _=>[(1,.int .i64 d),(2,.ptr b ver 1 0 0),(23,.isl (v.items.map Val.enc)),(24,.int .i64 v.items.length),(25,.int .i64 i)]) (fun _ c=>(h.set b (.arr ver 1 [.int .i64 c.1]))++([.arr 0 4 [v.enc]]++c.2))
     (fun _ _ o=>∃(c:Int) (g:Avm.H),(c=c0-((v.items.map Val.nodes).sum:Nat)/\(v.items=[]\/((((v.items.map Val.nodes).sum:Nat):Int)<=c0/\d+1+(Xq (v.items.map Val.depth):Nat)<=31))/\o=(.exit 0,[(1,.int .i64 d),(2,.ptr b ver 1 0 0),(23,.isl (v.items.map Val.enc)),(24,.int .i64 v.items.length),(25,.int .i64 v.items.length)],(h.set b (.arr ver 1 [.int .i64 c]))++([.arr 0 4 [v.enc]]++g)))\/(¬((((v.items.map Val.nodes).sum:Nat):Int)<=c0/\d+1+(Xq (v.items.map Val.depth):Nat)<=31)/\v.items≠ []/\o=(.ret,[(6,.bool false)],(h.set b (.arr ver 1 [.int .i64 c]))++([.arr 0 4 [v.enc]]++g)))) ?_ ?_ (c0,g0) ⟨by simp,hc0,.inl rfl⟩
 ·intro i x r c hd hi hx hI K hK;obtain⟨c,g⟩:=c;obtain⟨hI1,hI2,hI3⟩:=hI;dsimp only at hI1 hI2;have hw:=Qd (n:=i+1) (by omega)
  simp at hw;have hm:x∈v.items:=by rw[←hx]; exact List.getElem_mem hi
  have hne:v.items≠ []:=fun e=>by rw[e]at hm; cases hm
  have htk:v.items.take (i+1)=v.items.take i++ [x]:=by rw[List.take_succ_eq_append_getElem hi,hx]
  have hall:(v.items.map Val.nodes).sum=((v.items.take i).map Val.nodes).sum+(x.nodes+(r.map Val.nodes).sum):=by
   conv=>lhs; rw[←List.take_append_drop i v.items,hd]
   simp[List.sum_append]
  have hallm:Xq (v.items.map Val.depth)=max (Xq ((v.items.take i).map Val.depth)) (max x.depth (Xq (r.map Val.depth))):=by
   conv=>lhs; rw[←List.take_append_drop i v.items,hd]
   simp[QhK,Xq]
  have hxp:=x.XS;have hwd:IntKind.wrap .i64 (d+1)=d+1:=QU (by omega) (by omega)
  rw[htk]at hK;simp only[List.map_append,List.map_cons,List.map_nil,List.sum_append,List.sum_cons,List.sum_nil,Nat.add_zero,Qab]at hK;have hsd:i=0->Xq ((v.items.take i).map Val.depth)=0:=fun e=>by rw[e]; rfl
  generalize ((v.items.take i).map Val.nodes).sum=sm at*;generalize (r.map Val.nodes).sum=rm at*;generalize (v.items.map Val.nodes).sum=tot at*;generalize Xq ((v.items.take i).map Val.depth)=sd at*;generalize Xq (r.map Val.depth)=rd at*;generalize Xq (v.items.map Val.depth)=totd at*;have hbx: ∀(c:Int) (X:Avm.H),((h.set b (.arr ver 1 [.int .i64 c]))++X)[b]? =some (.arr ver 1 [.int .i64 c]):=fun c X=>by rw[QaM (by simpa using hb),List.getElem?_set_self hb]
  have hbs: ∀(c d:Int) (X:Avm.H),((h.set b (.arr ver 1 [.int .i64 c]))++X).set b (.arr ver 1 [.int .i64 d])=(h.set b (.arr ver 1 [.int .i64 d]))++X:=fun c d X=>by rw[QdP (by simpa using hb),List.set_set]
  have hwn: ∀n,ws<=h.length+n:=fun n=>by omega
  have hw0:ws<=h.length:=by omega
  obtain⟨l',hca,hcb⟩:=hcall x hm c (by omega) (by omega) b ver ws ((h.set b (.arr ver 1 [.int .i64 c]))++([.arr 0 4 [v.enc]]++(g++ [.arr 0 4 [x.enc]]))) (hbx c _) hws
  rw[hbs]at hca;by_cases hle:(x.nodes:Int)<=c/\(d+1)+x.depth<=31
  ·have hl':=hcb hle;rw[decide_eq_true hle]at hca;simp at hca;obtain⟨o,h4,h5⟩:=hK (l',g++ [.arr 0 4 [x.enc]]) ⟨by dsimp only; omega,by dsimp only; omega,.inr (by have:=hsd; omega)⟩
   refine⟨o,?_,h5⟩
   simp at h4;simp[Qkw,hi,hx,hwd,hwn,hw0,hca,hw,h4]
  ·rw[decide_eq_false hle]at hca;simp at hca;refine⟨_,?_,l',g++ [.arr 0 4 [x.enc]],.inr ⟨by omega,hne,rfl⟩⟩
   simp[Qkw,hi,hx,hwd,hwn,hw0,hca]
 ·intro c K hI;rw[List.take_length]at hI;refine⟨_,?_,c.1,c.2,.inl ⟨hI.1,?_,rfl⟩⟩
  ·simp[Qkw]
  ·rcases hI.2.2 with h | h
   ·exact .inl (List.eq_nil_of_length_eq_zero h)
   ·exact .inr ⟨by have:=hI.1; have:=hI.2.1; omega,h⟩
theorem Qic : ∀(n:Nat) (v:Val),v.size<=n->v.size<=67108864-> ∀(d:Int),0<=d->d<=31-> ∀(left:Int),0<=left->left<=67108864-> ∀(b ver ws:Nat) (h:Avm.H),h[b]? =some (.arr ver 1 [.int .i64 left])->ws<=b-> ∃l':Int,Qb cfg ws 85 [v.enc,.int .i64 d,.ptr b ver 1 0 0] h=some (.bool (decide ((v.nodes:Int)<=left/\d+v.depth<=31)),h.set b (.arr ver 1 [.int .i64 l']))/\((v.nodes:Int)<=left/\d+v.depth<=31->l'=left-v.nodes)
 | 0,v,hv,_,_,_,_,_,_,_,_,_,_,_,_,_=>by have:=v.size_pos; omega
 | n+1,v,hv,hv2,d,hd0,hd1,left,hl0,hl1,b,ver,ws,h,hhb,hws=>by
  have hb:b<h.length:=(List.getElem?_eq_some_iff.1 hhb).1
  have hwn: ∀n,ws<=h.length+n:=fun n=>by omega
  have hw0':ws<=h.length:=by omega
  have hdec:IntKind.wrap .i64 (left-1)=left-1:=QU (by omega) (by omega)
  have hbx: ∀(c:Int) (X:Avm.H),((h.set b (.arr ver 1 [.int .i64 c]))++X)[b]? =some (.arr ver 1 [.int .i64 c]):=fun c X=>by rw[QaM (by simpa using hb),List.getElem?_set_self hb]
  have hb0: ∀(X:Avm.H),(h++X)[b]? =some (.arr ver 1 [.int .i64 left]):=fun X=>by rw[QaM hb,hhb]
  have hbs0: ∀(d:Int) (X:Avm.H),(h++X).set b (.arr ver 1 [.int .i64 d])=(h.set b (.arr ver 1 [.int .i64 d]))++X:=fun d X=>QdP hb
  have htk: ∀(c:Int) (X:Avm.H),List.take h.length ((h.set b (.arr ver 1 [.int .i64 c]))++X)=h.set b (.arr ver 1 [.int .i64 c]):=fun c X=>by rw[List.take_left' (by simp)]
  have hnod:=v.QC;have hdep:=v.Zw;by_cases hneg:left-1<0
  ·have hd:decide ((v.nodes:Int)<=left/\d+v.depth<=31)=false:=by apply decide_eq_false; omega
   refine⟨left-1,Qc rfl rfl ?_,fun _=>by omega⟩
   rw[hd];simp[F85,c85,hb0,hbs0,hbx,hdec,hws,hwn,hw0',htk,hneg]
  ·by_cases hdp:30<d
   ·have hd:decide ((v.nodes:Int)<=left/\d+v.depth<=31)=false:=by apply decide_eq_false; omega
    refine⟨left-1,Qc rfl rfl ?_,fun _=>by omega⟩
    rw[hd];simp[F85,c85,hb0,hbs0,hbx,hdec,hws,hwn,hw0',htk,hneg,hdp]
   ·obtain⟨o0,e0,c,g,p0⟩:=QlN v hv2 d hd0 (by omega) (left-1) (by omega) (by omega) b ver ws h [] hb hws (fun x hx left a1 a2 b ver ws h a3 a4=>by
      have:=Val.Qu hx;exact Qic n x (by omega) (by omega) (d+1) (by omega) (by omega) left a1 a2 b ver ws h a3 a4)
    rcases p0 with⟨hc,hk0,rfl⟩ | ⟨hlt,hne,rfl⟩
    ·have hd:decide ((v.nodes:Int)<=left/\d+v.depth<=31)=true:=by
       apply decide_eq_true
       rcases hk0 with q | q
       ·rw[q]at hnod hdep; simp[Xq]at hnod hdep; omega
       ·omega
     refine⟨c,Qc rfl rfl ?_,fun _=>by omega⟩
     rw[hd];simp at e0;simp[F85,c85,hb0,hbs0,hbx,hdec,hws,hwn,hw0',htk,hneg,hdp,e0]
    ·have hd:decide ((v.nodes:Int)<=left/\d+v.depth<=31)=false:=by apply decide_eq_false; omega
     refine⟨c,Qc rfl rfl ?_,fun hh=>by rw[decide_eq_true hh]at hd; cases hd⟩
     rw[hd];simp at e0;simp[F85,c85,hb0,hbs0,hbx,hdec,hws,hwn,hw0',htk,hneg,hdp,e0]
def Wd (v:Val):Bool:=decide (v.nodes<=600/\v.depth<=30)
theorem Qrf (v:Val)(hv:v.size<=67108864)(ws:Nat)(h:Avm.H):Qb cfg ws 48 [v.enc] h=some (.bool (Wd v),h):=by
 obtain⟨l',hc,_⟩:=Qic _ v (Nat.le_refl _) hv 1 (by omega) (by omega) 600 (by omega) (by omega) (h.length+1) 0 h.length (h++ [.arr 0 4 [v.enc],.arr 0 1 [.int .i64 600]]) (by simp) (by omega)
 have he:decide ((v.nodes:Int)<=600/\1+(v.depth:Int)<=31)=Wd v:=by unfold Wd; congr 1; apply propext; omega
 rw[he]at hc;refine Qc rfl rfl ?_
 simp at hc;simp[F48,c48,hc]
def inP (n a b:Int):Bool:=decide (a<=n)&&decide (n<=b)
theorem Qga (n a b:Int)(ws:Nat)(h:Avm.H):Qb cfg ws 87 [.int .i64 n,.int .i64 a,.int .i64 b] h=some (.bool (inP n a b),h):=by
 refine Qc rfl rfl ?_
 simp[F87,c87,inP]
def ZB (t:Ty)(n most:Int):Bool:=if(t.free||t.ext)=true then decide (n<=most)else inP n t.lo t.hi
theorem QdD (t:Ty)(n most:Int)(ws:Nat)(h:Avm.H):Qb cfg ws 88 [t.enc,.int .i64 n,.int .i64 most] h=some (.bool (ZB t n most),h):=by
 have h1:=fun ws h=>Qga n t.lo t.hi ws h
 refine Qc rfl rfl ?_
 cases q1:t.free<;>cases q2:t.ext<;>simp[F88,c88,ZB,q1,q2,h1]
def QiY (i:It):Bool:=i.opt||(i.extra|| !i.QA.isEmpty)
theorem QyU (i:It)(ws:Nat)(h:Avm.H):Qb cfg ws 93 [i.enc] h=some (.bool (QiY i),h):=by
 refine Qc rfl rfl ?_
 cases q1:i.opt<;>cases q2:i.extra<;>simp[F93,c93,QiY,q1,q2,QP]
def QL (a b c:Bool)(v:Val):Bool:=(a||decide (v.int=0))&&((b||eqS v.bytes ⟨#[]⟩)&&(c||v.items.isEmpty))
theorem QqZ (v:Val)(ws:Nat)(h:Avm.H):Qb cfg ws 86 [v.enc,.str ⟨#[]⟩] h=some (.bool (QL false false false v),h):=by
 have kI:=fun ws h=>QN (cfg:=cfg) (f:=166) (ws:=ws) (args:=[.str ⟨#[]⟩,.str ⟨#[73]⟩]) (h:=h) (r:=(.bool false,h)) rfl (by simp only[QX]; rw[if_pos (by decide)]; rfl)
 have kB:=fun ws h=>QN (cfg:=cfg) (f:=166) (ws:=ws) (args:=[.str ⟨#[]⟩,.str ⟨#[66]⟩]) (h:=h) (r:=(.bool false,h)) rfl (by simp only[QX]; rw[if_pos (by decide)]; rfl)
 have kL:=fun ws h=>QN (cfg:=cfg) (f:=166) (ws:=ws) (args:=[.str ⟨#[]⟩,.str ⟨#[76]⟩]) (h:=h) (r:=(.bool false,h)) rfl (by simp only[QX]; rw[if_pos (by decide)]; rfl)
 refine Qc rfl rfl ?_
 simp[F86,c86,kI,kB,kL,QL,eqS,Jq,Qnv]
 first | done | rfl | (simp only[Bool.and_assoc]) | (simp only[Bool.and_assoc]; rfl) | (congr<;>exact Subsingleton.elim _ _)
theorem QgB (v:Val)(ws:Nat)(h:Avm.H):Qb cfg ws 86 [v.enc,.str ⟨#[73]⟩] h=some (.bool (QL true false false v),h):=by
 have kI:=fun ws h=>QN (cfg:=cfg) (f:=166) (ws:=ws) (args:=[.str ⟨#[73]⟩,.str ⟨#[73]⟩]) (h:=h) (r:=(.bool true,h)) rfl (by simp only[QX]; rw[if_pos (by decide)]; rfl)
 have kB:=fun ws h=>QN (cfg:=cfg) (f:=166) (ws:=ws) (args:=[.str ⟨#[73]⟩,.str ⟨#[66]⟩]) (h:=h) (r:=(.bool false,h)) rfl (by simp only[QX]; rw[if_pos (by decide)]; rfl)
 have kL:=fun ws h=>QN (cfg:=cfg) (f:=166) (ws:=ws) (args:=[.str ⟨#[73]⟩,.str ⟨#[76]⟩]) (h:=h) (r:=(.bool false,h)) rfl (by simp only[QX]; rw[if_pos (by decide)]; rfl)
 refine Qc rfl rfl ?_
 simp[F86,c86,kI,kB,kL,QL,eqS,Jq,Qnv]
 first | done | rfl | (simp only[Bool.and_assoc]) | (simp only[Bool.and_assoc]; rfl) | (congr<;>exact Subsingleton.elim _ _)
theorem QlF (v:Val)(ws:Nat)(h:Avm.H):Qb cfg ws 86 [v.enc,.str ⟨#[66]⟩] h=some (.bool (QL false true false v),h):=by
 have kI:=fun ws h=>QN (cfg:=cfg) (f:=166) (ws:=ws) (args:=[.str ⟨#[66]⟩,.str ⟨#[73]⟩]) (h:=h) (r:=(.bool false,h)) rfl (by simp only[QX]; rw[if_pos (by decide)]; rfl)
 have kB:=fun ws h=>QN (cfg:=cfg) (f:=166) (ws:=ws) (args:=[.str ⟨#[66]⟩,.str ⟨#[66]⟩]) (h:=h) (r:=(.bool true,h)) rfl (by simp only[QX]; rw[if_pos (by decide)]; rfl)
 have kL:=fun ws h=>QN (cfg:=cfg) (f:=166) (ws:=ws) (args:=[.str ⟨#[66]⟩,.str ⟨#[76]⟩]) (h:=h) (r:=(.bool false,h)) rfl (by simp only[QX]; rw[if_pos (by decide)]; rfl)
 refine Qc rfl rfl ?_
 simp[F86,c86,kI,kB,kL,QL,eqS,Jq,Qnv]
 first | done | rfl | (simp only[Bool.and_assoc]) | (simp only[Bool.and_assoc]; rfl) | (congr<;>exact Subsingleton.elim _ _)
theorem QlE (v:Val)(ws:Nat)(h:Avm.H):Qb cfg ws 86 [v.enc,.str ⟨#[76]⟩] h=some (.bool (QL false false true v),h):=by
 have kI:=fun ws h=>QN (cfg:=cfg) (f:=166) (ws:=ws) (args:=[.str ⟨#[76]⟩,.str ⟨#[73]⟩]) (h:=h) (r:=(.bool false,h)) rfl (by simp only[QX]; rw[if_pos (by decide)]; rfl)
 have kB:=fun ws h=>QN (cfg:=cfg) (f:=166) (ws:=ws) (args:=[.str ⟨#[76]⟩,.str ⟨#[66]⟩]) (h:=h) (r:=(.bool false,h)) rfl (by simp only[QX]; rw[if_pos (by decide)]; rfl)
 have kL:=fun ws h=>QN (cfg:=cfg) (f:=166) (ws:=ws) (args:=[.str ⟨#[76]⟩,.str ⟨#[76]⟩]) (h:=h) (r:=(.bool true,h)) rfl (by simp only[QX]; rw[if_pos (by decide)]; rfl)
 refine Qc rfl rfl ?_
 simp[F86,c86,kI,kB,kL,QL,eqS,Jq,Qnv]
 first | done | rfl | (simp only[Bool.and_assoc]) | (simp only[Bool.and_assoc]; rfl) | (congr<;>exact Subsingleton.elim _ _)
theorem Qvl (v:Val)(ws:Nat)(h:Avm.H):Qb cfg ws 86 [v.enc,.str ⟨#[73,76]⟩] h=some (.bool (QL true false true v),h):=by
 have kI:=fun ws h=>QN (cfg:=cfg) (f:=166) (ws:=ws) (args:=[.str ⟨#[73,76]⟩,.str ⟨#[73]⟩]) (h:=h) (r:=(.bool true,h)) rfl (by simp only[QX]; rw[if_pos (by decide)]; rfl)
 have kB:=fun ws h=>QN (cfg:=cfg) (f:=166) (ws:=ws) (args:=[.str ⟨#[73,76]⟩,.str ⟨#[66]⟩]) (h:=h) (r:=(.bool false,h)) rfl (by simp only[QX]; rw[if_pos (by decide)]; rfl)
 have kL:=fun ws h=>QN (cfg:=cfg) (f:=166) (ws:=ws) (args:=[.str ⟨#[73,76]⟩,.str ⟨#[76]⟩]) (h:=h) (r:=(.bool true,h)) rfl (by simp only[QX]; rw[if_pos (by decide)]; rfl)
 refine Qc rfl rfl ?_
 simp[F86,c86,kI,kB,kL,QL,eqS,Jq,Qnv]
 first | done | rfl | (simp only[Bool.and_assoc]) | (simp only[Bool.and_assoc]; rfl) | (congr<;>exact Subsingleton.elim _ _)
end Go.Proofs.YtflbneepngjglaaGreatDoor
