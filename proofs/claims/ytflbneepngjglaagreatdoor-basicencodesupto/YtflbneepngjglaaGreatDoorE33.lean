/- References that name something, items that differ in name: the reference's way. -/
import Derived.Test.YtflbneepngjglaaGreatDoorE30
set_option linter.all false
namespace Go.Proofs.YtflbneepngjglaaGreatDoor
open Go Go.Avm
theorem Qgt {α:Type}(p:α->Bool)(l:List α):(idxOf p l= -1/\l.find? p=none)\/ ∃(j:Nat) (x:α),idxOf p l=j/\l[j]? =some x/\l.find? p=some x:=by
 unfold idxOf;cases hq:l.findIdx? p with
 | none=>
  left
  refine⟨rfl,?_⟩
  rw[List.findIdx?_eq_none_iff]at hq
  rw[List.find?_eq_none]
  intro x hx; simp[hq x hx]
 | some j=>
  right
  rw[List.findIdx?_eq_some_iff_getElem]at hq
  obtain⟨hj,h1,h2⟩:=hq;refine⟨j,l[j],rfl,List.getElem?_eq_getElem hj,?_⟩
  rw[List.find?_eq_some_iff_getElem]
  exact⟨h1,j,hj,rfl,fun k hk=>by simpa using h2 k hk⟩
theorem Qqk (m:Md)(ps:List ByteArray)(t:Ty)(ht:t.wid<=67108864)(h:Avm.H): ∃g,Qa (evC (Qb cfg) Qa cfg.pol h.length h.length QfB) [1,3,5,7] [(1,.isl (ps.map .str)),(3,.ptr h.length 0 2 0 0),(5,.ptr (h.length+1) 0 8 0 0),(7,.int .i64 (0:Nat))] (h++([.arr 0 2 [m.enc],.arr 0 8 [t.enc]]++ []))=some (if(t.items).all JG=true then(.exit 0,[(1,.isl (ps.map .str)),(3,.ptr h.length 0 2 0 0),(5,.ptr (h.length+1) 0 8 0 0),(7,.int .i64 (t.items).length)],h++([.arr 0 2 [m.enc],.arr 0 8 [t.enc]]++g))else(.ret,[(6,.bool false)],h++([.arr 0 2 [m.enc],.arr 0 8 [t.enc]]++g))):=by
 have hl:(t.items).length<=67108864:=Nat.le_trans t.Qe ht
 have hlp:=Qg (γ:=Avm.H) (f:=evC (Qb cfg) Qa cfg.pol h.length h.length QfB) (keep:=[1,3,5,7]) (t.items) (fun _ _=>True)
      (fun i _=>[(1,.isl (ps.map .str)),(3,.ptr h.length 0 2 0 0),(5,.ptr (h.length+1) 0 8 0 0),(7,.int .i64 i)]) (fun _ g=>h++([.arr 0 2 [m.enc],.arr 0 8 [t.enc]]++g))
      (fun _ r o=>∃g,o=if r.all JG=true then(.exit 0,[(1,.isl (ps.map .str)),(3,.ptr h.length 0 2 0 0),(5,.ptr (h.length+1) 0 8 0 0),(7,.int .i64 (t.items).length)],h++([.arr 0 2 [m.enc],.arr 0 8 [t.enc]]++g))else(.ret,[(6,.bool false)],h++([.arr 0 2 [m.enc],.arr 0 8 [t.enc]]++g))) ?_ ?_ [] trivial
 ·obtain⟨o,h1,g,h2⟩:=hlp;exact⟨g,h2▸h1⟩
 ·intro i x r g hd hi hx _ K hK;have hw:=Qd (n:=i+1) (by omega)
  simp at hw;have hm:x∈(t.items):=by rw[←hx]; exact List.getElem_mem hi
  have hsm:=Qsn x.name (by have:=Ty.Jh hm; have:=x.Qbw; omega)
  cases hv:JG x
  ·refine⟨_,?_,g,by simp only[List.all_cons,hv,Bool.false_and,Bool.false_eq_true,if_false]; rfl⟩
   unfold JG at hv;simp only[hv]at hsm;simp[QfB,hi,hx,hsm,Md.enc,]
  ·obtain⟨o,h4,g2,h5⟩:=hK g trivial;refine⟨o,?_,g2,by simp only[List.all_cons,hv,Bool.true_and]; exact h5⟩
   unfold JG at hv;simp only[hv]at hsm;simp[Md.enc]at h4;simp[QfB,hi,hx,hsm,Md.enc,hw,h4]
 ·intro g K _;refine⟨_,?_,g,by simp only[List.all_nil,if_true]; rfl⟩
  simp[Md.enc,QfB]
theorem QvG (m:Md)(ps:List ByteArray)(hm:m.ok)(hp:ps.length<=67108864)(t:Ty)(ht:t.wid<=67108864)(ws:Nat)(h:Avm.H):Qb cfg ws 216 [m.enc,.isl (ps.map .str),t.enc] h=some (.bool (JL m ps t),h):=by
 have h2:=Qco t.name (Nat.le_trans t.Qbw ht);have h3:=Qqo ps t.name hp;have h4:=Qhi m t.name hm.len;refine Qc rfl rfl ?_
 simp[Md.enc]at h4;by_cases q0:t.kind=3\/t.kind=8\/t.kind=9
 ·have hi:t.Qh=t.items:=by rcases q0 with q | q | q<;>simp[Ty.Qh,Ty.ZW,q]
  have q10:decide (t.kind=10)=false:=by rcases q0 with q | q | q<;>simp[q]
  obtain⟨g,hl⟩:=Qqk m ps t ht h;unfold JL;rw[hi,q10];cases q1:t.items.all JG<;>rw[q1]at hl<;>simp[Md.enc]at hl<;>rcases q0 with q | q | q<;>simp[q]at hl<;>simp[Md.enc,QqP,QqF,hl,q]
 ·have n3: ¬t.kind=3:=fun e=>q0 (.inl e)
  have n8: ¬t.kind=8:=fun e=>q0 (.inr (.inl e))
  have n9: ¬t.kind=9:=fun e=>q0 (.inr (.inr e))
  have hi:t.Qh=[]:=by simp[Ty.Qh,Ty.ZW,n3,n8,n9]
  unfold JL QuN;rw[hi];by_cases q2:t.kind=10
  ·cases q4:inS ps t.name
   ·rw[q4]at h3;cases q3:Xd t.name
    ·rw[q3]at h2;rcases Qgt (isD t.name) m.defs with⟨k1,k2⟩ | ⟨j,x,k1,k2,k3⟩<;>rw[k1]at h4<;>simp[Md.enc,QqP,QqF,q2,h2,h3,h4]
    ·rw[q3]at h2;rcases Qgt (isD t.name) m.defs with⟨k1,k2⟩ | ⟨j,x,k1,k2,k3⟩
     ·rw[k1]at h4;simp[Md.enc,QqP,QqF,q2,h2,h3,h4,k2]
     ·rw[k1]at h4;simp[Md.enc,QqP,QqF,q2,h2,h3,h4,k2,k3,QY]
   ·rw[q4]at h3;have e0:(((t.kids.length:Nat):Int) == 0)=decide (t.kids=[]):=by rw[Qjj]; simp
    simp[Md.enc,QqP,QqF,q2,h3,e0]
  ·simp[Md.enc,QqP,QqF,q2,n3,n8,n9]
theorem Qqg (m:Md)(ps:List ByteArray)(hmk:m.ok)(hp:ps.length<=67108864)(t:Ty)(ht:t.wid<=67108864)(hb:t.nodes<=67108864)(h:Avm.H): ∃g,Qa (evC (Qb cfg) Qa cfg.pol h.length h.length QfN) [1,3,7,8] [(1,.isl (ps.map .str)),(3,.ptr h.length 0 2 0 0),(7,.isl (t.QX.map Ty.enc)),(8,.int .i64 (0:Nat))] (h++([.arr 0 2 [m.enc],.arr 0 8 [t.enc]]++ []))=some (if(t.QX).all (JL m ps)=true then(.exit 0,[(1,.isl (ps.map .str)),(3,.ptr h.length 0 2 0 0),(7,.isl (t.QX.map Ty.enc)),(8,.int .i64 (t.QX).length)],h++([.arr 0 2 [m.enc],.arr 0 8 [t.enc]]++g))else(.ret,[(6,.bool false)],h++([.arr 0 2 [m.enc],.arr 0 8 [t.enc]]++g))):=by
 have hl:(t.QX).length<=67108864:=(by have:=JK _ t (Nat.le_refl _); omega)
 have hlp:=Qg (γ:=Avm.H) (f:=evC (Qb cfg) Qa cfg.pol h.length h.length QfN) (keep:=[1,3,7,8]) (t.QX) (fun _ _=>True)
      (fun i _=>[(1,.isl (ps.map .str)),(3,.ptr h.length 0 2 0 0),(7,.isl (t.QX.map Ty.enc)),(8,.int .i64 i)]) (fun _ g=>h++([.arr 0 2 [m.enc],.arr 0 8 [t.enc]]++g))
      (fun _ r o=>∃g,o=if r.all (JL m ps)=true then(.exit 0,[(1,.isl (ps.map .str)),(3,.ptr h.length 0 2 0 0),(7,.isl (t.QX.map Ty.enc)),(8,.int .i64 (t.QX).length)],h++([.arr 0 2 [m.enc],.arr 0 8 [t.enc]]++g))else(.ret,[(6,.bool false)],h++([.arr 0 2 [m.enc],.arr 0 8 [t.enc]]++g))) ?_ ?_ [] trivial
 ·obtain⟨o,h1,g,h2⟩:=hlp;exact⟨g,h2▸h1⟩
 ·intro i x r g hd hi hx _ K hK;have hw:=Qd (n:=i+1) (by omega)
  simp at hw;have hm:x∈(t.QX):=by rw[←hx]; exact List.getElem_mem hi
  have hkn:=QvG m ps hmk hp x (Nat.le_trans (Qed _ t (Nat.le_refl _) x hm).1 ht);cases hv:(JL m ps) x
  ·refine⟨_,?_,g,by simp only[List.all_cons,hv,Bool.false_and,Bool.false_eq_true,if_false]; rfl⟩
   simp only[hv]at hkn;simp[Md.enc]at hkn;simp[QfN,hi,hx,hkn,Md.enc,]
  ·obtain⟨o,h4,g2,h5⟩:=hK g trivial;refine⟨o,?_,g2,by simp only[List.all_cons,hv,Bool.true_and]; exact h5⟩
   simp only[hv]at hkn;simp[Md.enc]at hkn h4;simp[QfN,hi,hx,hkn,Md.enc,hw,h4]
 ·intro g K _;refine⟨_,?_,g,by simp only[List.all_nil,if_true]; rfl⟩
  simp[Md.enc,QfN]
theorem QnH (m:Md)(ps:List ByteArray)(hm:m.ok)(hp:ps.length<=67108864)(t:Ty)(ht:t.wid<=67108864)(hb:t.nodes<=67108864)(ws:Nat)(h:Avm.H):Qb cfg ws 135 [m.enc,.isl (ps.map .str),t.enc] h=some (.bool (t.QH (JL m ps)),h):=by
 have h1:=QaN _ t (Nat.le_refl _) ht hb;obtain⟨g,hl⟩:=Qqg m ps hm hp t ht hb h;rw[Wd _ _ t (Nat.le_refl _)]at hl;refine Qc rfl rfl ?_
 simp at h1;cases q:t.QH (JL m ps)<;>rw[q]at hl<;>simp[Md.enc]at hl<;>simp[Md.enc,QEK,QDK,h1,hl]
def Qbt (x:Ty):Bool:=distinct (x.Qh.map It.name)
theorem Quj (l:List ByteArray):strs (l.map .str)=some l:=by
 induction l with
 | nil=>rfl
 | cons x l ih=>simp[strs,ih]
theorem QhB (v:AV)(l:List ByteArray)(hl:l.length<=67108864)(ws:Nat)(h:Avm.H)(he:Zw h v=some (l.map .str)):Qb cfg ws 148 [v] h=some (.bool (!distinct l),h):=by
 refine QP rfl ?_
 simp only[QhC,he,Quj,hl,if_true]
theorem Qow (t:Ty)(ht:t.wid<=67108864)(h:Avm.H): ∃v g,Qx h.length 1 1 g (([]++(t.Qh).map It.name).map AV.str) v/\Qa (evC (Qb cfg) Qa cfg.pol h.length h.length Qjb) [3,7,8,9] [(3,.osl (h.length+1) 0 1 0 0),(7,.isl (t.Qh.map It.enc)),(8,.int .i64 t.Qh.length),(9,.int .i64 (0:Nat))] (h++([.arr 0 8 [t.enc]]++ [.arr 0 1 []]))=some (.exit 0,[(3,v),(7,.isl (t.Qh.map It.enc)),(8,.int .i64 t.Qh.length),(9,.int .i64 (t.Qh).length)],h++([.arr 0 8 [t.enc]]++g)):=by
 have hl:(t.Qh).length<=67108864:=(by have:=QbO t; have:=t.Qe; omega)
 have hlp:=Qg (γ:=AV×Avm.H) (f:=evC (Qb cfg) Qa cfg.pol h.length h.length Qjb) (keep:=[3,7,8,9]) (t.Qh)
      (fun i c=>Qx h.length 1 1 c.2 (([]++((t.Qh).take i).map It.name).map AV.str) c.1)
      (fun i c=>[(3,c.1),(7,.isl (t.Qh.map It.enc)),(8,.int .i64 t.Qh.length),(9,.int .i64 i)]) (fun _ g=>h++([.arr 0 8 [t.enc]]++g.2))
      (fun _ _ o=>∃v g,Qx h.length 1 1 g (([]++(t.Qh).map It.name).map AV.str) v/\o=(.exit 0,[(3,v),(7,.isl (t.Qh.map It.enc)),(8,.int .i64 t.Qh.length),(9,.int .i64 (t.Qh).length)],h++([.arr 0 8 [t.enc]]++g))) ?_ ?_ (.osl (h.length+1) 0 1 0 0,[.arr 0 1 []]) (.inr ⟨0,0,by simp,by simp⟩)
 ·obtain⟨o,hl,v,g,hI,ho⟩:=hlp;exact⟨v,g,hI,ho▸hl⟩
 ·intro i x r c hd hi hx hI K hK;have hw:=Qd (n:=i+1) (by omega)
  simp at hw;have hm:x∈(t.Qh):=by rw[←hx]; exact List.getElem_mem hi
  have htk:(t.Qh).take (i+1)=(t.Qh).take i++ [x]:=by rw[List.take_succ_eq_append_getElem hi,hx]
  rw[htk]at hK;obtain⟨v,g⟩:=c;dsimp only at hI;simp[-Prod.exists,Qjb,hi,hx,hw,QN,appended,];generalize hA:Jm _ _ _ _ _ _ _=r;obtain⟨v',g',rfl,h2⟩:=Qx.use (pre:=[_]) hI hA (by simp; omega) (by simp)
  obtain⟨o,h4,h5⟩:=hK (v',g') (by simpa using h2)
  refine⟨o,?_,by simpa using h5⟩
  simp at h4;simp[h4,hw]
 ·intro c K hI;refine⟨_,?_,c.1,c.2,by simpa using hI,rfl⟩
  simp[Qjb]
theorem Qqx (t:Ty)(ht:t.wid<=67108864)(ws:Nat)(h:Avm.H):Qb cfg ws 155 [t.enc] h=some (.bool (Qbt t),h):=by
 have h1:=Qit t;have hlen:=QbO t;have hwi:=t.Qe;obtain⟨v,g,hI,hl⟩:=Qow t ht h;simp only[List.nil_append]at hI;have h2:=fun ws=>QhB v (t.Qh.map It.name) (by simp; omega) ws _ (Qx.els (pre:=[.arr 0 8 [t.enc]]) hI)
 refine Qc rfl rfl ?_
 simp at h1 hl h2;simp[QEy,QDy,h1,hl,h2,Qbt]
theorem QkQ (t:Ty)(hw0:t.wid<=67108864)(hb:t.nodes<=67108864)(ws:Nat)(h:Avm.H):Qb cfg ws 81 [t.enc] h=some (.bool (t.QH Qbt),h):=by
 have h2:=fun ws h=>YO (cap':=[]) (k:=0) (.inl rfl) rfl _ t (Nat.le_refl _) hw0 hb (fun x _ hx _ ws h'=>by simpa using Qqx x (Nat.le_trans hx hw0) ws h') ws h [] rfl
 refine Qc rfl rfl ?_
 simp at h2;simp[F81,c81,h2]
def QbD :List ByteArray->List ByteArray->Bool
 | _,[]=>false
 | pre,x::r=>pre.any (fun y=>eqS x y)||QbD (pre++ [x]) r
theorem Qzj {α:Type}(f g:α->Bool): ∀l:List α,(l.any fun z=>f z||g z)=(l.any f||l.any g)
 | []=>rfl
 | x::l=>by simp only[List.any_cons,Qzj f g l]; cases f x<;>cases g x<;>cases l.any f<;>cases l.any g<;>rfl
theorem QmS {α:Type}(f:α->Bool): ∀l:List α,(l.all fun z=>!f z)= !l.any f
 | []=>rfl
 | x::l=>by simp only[List.any_cons,List.all_cons,QmS f l,Bool.not_or]
theorem QlO : ∀(l pre:List ByteArray),QbD pre l=(l.any (fun x=>pre.any (fun y=>eqS x y))|| !distinct l)
 | [],pre=>rfl
 | x::r,pre=>by
  rw[QbD,QlO r (pre++ [x]),distinct,List.any_cons]
  have h1:(r.any fun z=>(pre++ [x]).any fun y=>eqS z y)=((r.any fun z=>pre.any fun y=>eqS z y)||r.any fun z=>eqS z x):=by
   rw[←Qzj]; congr 1; funext z; simp
  have h2:(r.all fun y=>!(x.toList == y.toList))= !(r.any fun z=>eqS z x):=by
   rw[←QmS]; congr 1; funext y
   have:(x.toList == y.toList)=eqS y x:=by
    unfold eqS;by_cases e:y.toList=x.toList
    ·simp[e]
    ·have e2: ¬x.toList=y.toList:=fun q=>e q.symm
     simp[e,e2]
   rw[this]
  rw[h1,h2];cases pre.any (fun y=>eqS x y)<;>cases(r.any fun z=>pre.any fun y=>eqS z y)<;>cases(r.any fun z=>eqS z x)<;>cases distinct r<;>rfl
theorem QlB (t:Ty)(ht:t.wid<=67108864)(k:Nat)(hk:k<t.items.length)(z:It)(hz:t.items[k]? =some z)(h g0:Avm.H): ∃g,Qa (evC (Qb cfg) Qa cfg.pol h.length h.length QfA) [1,3,4] [(1,.ptr h.length 0 8 0 0),(3,.int .i64 k),(4,.int .i64 (0:Nat))] (h++([.arr 0 8 [t.enc]]++g0))=some (if(t.items.take k).all (fun y=>!eqS z.name y.name)=true then(.exit 2,[(1,.ptr h.length 0 8 0 0),(3,.int .i64 k),(4,.int .i64 (t.items.take k).length)],h++([.arr 0 8 [t.enc]]++g))else(.ret,[(2,.bool true)],h++([.arr 0 8 [t.enc]]++g))):=by
 have hl:(t.items.take k).length<=67108864:=(by have:=t.Qe; simp; omega)
 have hlp:=Qg (γ:=Avm.H) (f:=evC (Qb cfg) Qa cfg.pol h.length h.length QfA) (keep:=[1,3,4]) (t.items.take k) (fun _ _=>True)
      (fun i _=>[(1,.ptr h.length 0 8 0 0),(3,.int .i64 k),(4,.int .i64 i)]) (fun _ g=>h++([.arr 0 8 [t.enc]]++g))
      (fun _ r o=>∃g,o=if r.all (fun y=>!eqS z.name y.name)=true then(.exit 2,[(1,.ptr h.length 0 8 0 0),(3,.int .i64 k),(4,.int .i64 (t.items.take k).length)],h++([.arr 0 8 [t.enc]]++g))else(.ret,[(2,.bool true)],h++([.arr 0 8 [t.enc]]++g))) ?_ ?_ g0 trivial
 ·obtain⟨o,h1,g,h2⟩:=hlp;exact⟨g,h2▸h1⟩
 ·intro i x r g hd hi hx _ K hK;have hw:=Qd (n:=i+1) (by omega)
  simp at hw;have hm:x∈(t.items.take k):=by rw[←hx]; exact List.getElem_mem hi
  have hik:i<k:=by simp at hi; omega
  have hik2:i<t.items.length:=by omega
  have hx2:t.items[i]? =some x:=by rw[List.getElem_take]at hx; rw[List.getElem?_eq_getElem hik2,hx]
  cases hv:(fun y=>!eqS z.name y.name) x
  ·refine⟨_,?_,g,by simp only[List.all_cons,hv,Bool.false_and,Bool.false_eq_true,if_false]; rfl⟩
   simp[eqS]at hv;simp[QfA,hi,hx,hik,hz,hx2,hv]
  ·obtain⟨o,h4,g2,h5⟩:=hK g trivial;refine⟨o,?_,g2,by simp only[List.all_cons,hv,Bool.true_and]; exact h5⟩
   simp at h4;simp[eqS]at hv;simp[QfA,hi,hx,hik,hz,hx2,hv,hw,h4]
 ·intro g K _;refine⟨_,?_,g,by simp only[List.all_nil,if_true]; rfl⟩
  have hmin:(t.items.take k).length=k:=by simp; omega
  simp[hmin,QfA]
theorem QlA (t:Ty)(ht:t.wid<=67108864)(h:Avm.H): ∃g,Qa (evC (Qb cfg) Qa cfg.pol h.length h.length Qfz) [1,3] [(1,.ptr h.length 0 8 0 0),(3,.int .i64 (0:Nat))] (h++([.arr 0 8 [t.enc]]++ []))=
    some (if QbD [] (t.items.map It.name)=true then(.ret,[(2,.bool true)],h++([.arr 0 8 [t.enc]]++g))else(.exit 0,[(1,.ptr h.length 0 8 0 0),(3,.int .i64 t.items.length)],h++([.arr 0 8 [t.enc]]++g))):=by
 have hlp:=Qg (γ:=Avm.H) (f:=evC (Qb cfg) Qa cfg.pol h.length h.length Qfz) (keep:=[1,3]) t.items (fun _ _=>True)
  (fun i _=>[(1,.ptr h.length 0 8 0 0),(3,.int .i64 i)]) (fun _ g=>h++([.arr 0 8 [t.enc]]++g))
  (fun i r o=>∃g,o=if QbD ((t.items.take i).map It.name) (r.map It.name)=true then(.ret,[(2,.bool true)],h++([.arr 0 8 [t.enc]]++g))else(.exit 0,[(1,.ptr h.length 0 8 0 0),(3,.int .i64 t.items.length)],h++([.arr 0 8 [t.enc]]++g))) ?_ ?_ [] trivial
 ·obtain⟨o,h1,g,h2⟩:=hlp;exact⟨g,by rw[h1,h2]; simp⟩
 ·intro i x r g0 hd hi hx _ K hK;have hwi:=t.Qe;have hw:=Qd (n:=i+1) (by omega)
  simp at hw;obtain⟨g,hin⟩:=QlB t ht i hi x (by rw[List.getElem?_eq_getElem hi,hx]) h g0
  have hany:((t.items.take i).all fun y=>!eqS x.name y.name)= !((t.items.take i).map It.name).any fun y=>eqS x.name y:=by
   rw[QmS,List.any_map]; rfl
  rw[hany]at hin;have hmin:min i t.items.length=i:=by omega
  have htk:t.items.take (i+1)=t.items.take i++ [x]:=by rw[List.take_succ_eq_append_getElem hi,hx]
  rw[htk]at hK;rw[List.map_cons,QbD];cases q:((t.items.take i).map It.name).any fun y=>eqS x.name y
  ·rw[q]at hin;obtain⟨o,h4,g2,h5⟩:=hK g trivial;simp only[List.map_append,List.map_cons,List.map_nil]at h5;refine⟨o,?_,g2,by simpa only[Bool.false_or]using h5⟩
   simp[hmin]at hin;simp at h4;simp[Qfz,hi,hin,hw,h4]
  ·rw[q]at hin;refine⟨_,?_,g,by simp only[Bool.true_or,if_true]; rfl⟩
   simp at hin;simp[Qfz,hi,hin]
 ·intro g K _;refine⟨_,?_,g,by simp only[List.map_nil,QbD,Bool.false_eq_true,if_false]; rfl⟩
  simp[Qfz]
theorem Qsl (t:Ty)(ht:t.wid<=67108864)(ws:Nat)(h:Avm.H):Qb cfg ws 217 [t.enc] h=some (.bool (!Qbt t),h):=by
 refine Qc rfl rfl ?_
 unfold Qbt;by_cases q0:t.kind=3\/t.kind=8\/t.kind=9
 ·have hi:t.Qh=t.items:=by rcases q0 with q | q | q<;>simp[Ty.Qh,Ty.ZW,q]
  obtain⟨g,hl⟩:=QlA t ht h;have he:=QlO (t.items.map It.name) [];have hz:((t.items.map It.name).any fun x=>([]:List ByteArray).any fun y=>eqS x y)=false:=by simp
  rw[hz,Bool.false_or]at he;rw[he]at hl;rw[hi];cases q1:distinct (t.items.map It.name)<;>rw[q1]at hl<;>simp at hl<;>rcases q0 with q | q | q<;>simp[q]at hl<;>simp[QBq,QAO,hl,q]
 ·have n3: ¬t.kind=3:=fun e=>q0 (.inl e)
  have n8: ¬t.kind=8:=fun e=>q0 (.inr (.inl e))
  have n9: ¬t.kind=9:=fun e=>q0 (.inr (.inr e))
  have hi:t.Qh=[]:=by simp[Ty.Qh,Ty.ZW,n3,n8,n9]
  rw[hi];simp[QBq,QAO,n3,n8,n9,distinct]
theorem QsJ (t:Ty)(ht:t.wid<=67108864)(hb:t.nodes<=67108864)(h:Avm.H): ∃g,Qa (evC (Qb cfg) Qa cfg.pol h.length h.length QfM) [3,4] [(3,.isl (t.QX.map Ty.enc)),(4,.int .i64 (0:Nat))] (h++([.arr 0 8 [t.enc]]++ []))=some (if(t.QX).all Qbt=true then(.exit 0,[(3,.isl (t.QX.map Ty.enc)),(4,.int .i64 (t.QX).length)],h++([.arr 0 8 [t.enc]]++g))else(.ret,[(2,.bool false)],h++([.arr 0 8 [t.enc]]++g))):=by
 have hl:(t.QX).length<=67108864:=(by have:=JK _ t (Nat.le_refl _); omega)
 have hlp:=Qg (γ:=Avm.H) (f:=evC (Qb cfg) Qa cfg.pol h.length h.length QfM) (keep:=[3,4]) (t.QX) (fun _ _=>True)
      (fun i _=>[(3,.isl (t.QX.map Ty.enc)),(4,.int .i64 i)]) (fun _ g=>h++([.arr 0 8 [t.enc]]++g))
      (fun _ r o=>∃g,o=if r.all Qbt=true then(.exit 0,[(3,.isl (t.QX.map Ty.enc)),(4,.int .i64 (t.QX).length)],h++([.arr 0 8 [t.enc]]++g))else(.ret,[(2,.bool false)],h++([.arr 0 8 [t.enc]]++g))) ?_ ?_ [] trivial
 ·obtain⟨o,h1,g,h2⟩:=hlp;exact⟨g,h2▸h1⟩
 ·intro i x r g hd hi hx _ K hK;have hw:=Qd (n:=i+1) (by omega)
  simp at hw;have hm:x∈(t.QX):=by rw[←hx]; exact List.getElem_mem hi
  have hkn:=Qsl x (Nat.le_trans (Qed _ t (Nat.le_refl _) x hm).1 ht);cases hv:Qbt x
  ·refine⟨_,?_,g,by simp only[List.all_cons,hv,Bool.false_and,Bool.false_eq_true,if_false]; rfl⟩
   simp only[hv]at hkn;simp at hkn;simp[QfM,hi,hx,hkn,]
  ·obtain⟨o,h4,g2,h5⟩:=hK g trivial;refine⟨o,?_,g2,by simp only[List.all_cons,hv,Bool.true_and]; exact h5⟩
   simp at h4;simp only[hv]at hkn;simp at hkn;simp[QfM,hi,hx,hkn,hw,h4]
 ·intro g K _;refine⟨_,?_,g,by simp only[List.all_nil,if_true]; rfl⟩
  simp[QfM]
theorem Qrj (t:Ty)(ht:t.wid<=67108864)(hb:t.nodes<=67108864)(ws:Nat)(h:Avm.H):Qb cfg ws 136 [t.enc] h=some (.bool (t.QH Qbt),h):=by
 have h1:=QaN _ t (Nat.le_refl _) ht hb;obtain⟨g,hl⟩:=QsJ t ht hb h;rw[Wd _ _ t (Nat.le_refl _)]at hl;refine Qc rfl rfl ?_
 simp at h1;cases q:t.QH Qbt<;>rw[q]at hl<;>simp at hl<;>simp[QEJ,QDJ,h1,hl]
end Go.Proofs.YtflbneepngjglaaGreatDoor
