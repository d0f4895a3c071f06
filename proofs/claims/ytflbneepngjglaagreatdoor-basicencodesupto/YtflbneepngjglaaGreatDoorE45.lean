/- Check of a module: both sides give the same. -/
import Derived.Test.YtflbneepngjglaaGreatDoorE44
set_option linter.all false
namespace Go.Proofs.YtflbneepngjglaaGreatDoor
open Go Go.Avm
def Ji (m:Md)(d:Df):Bool:=!decide (d.params=[])||(beh m 21 d.of).isSome
def Wt (d:Df):Bool:=d.of.QH Qk
def Qad (m:Md)(d:Df):Bool:=d.of.QH (Xf m d.params)
theorem QoD (m:Md)(hm:m.ok)(h g0:Avm.H): ∃g,Qa (evC (Qb cfg) Qa cfg.pol h.length h.length QkY) [1,6,7,104,105,106] [(1,.ptr h.length 0 2 0 0),(6,.int .i64 0),(7,.int .i64 0),(104,.isl (m.defs.map Df.enc)),(105,.int .i64 m.defs.length),(106,.int .i64 (0:Nat))] (h++([.arr 0 2 [m.enc]]++g0))=some (.exit 2,[(1,.ptr h.length 0 2 0 0),(6,.int .i64 (QB ((m.defs.take m.defs.length).all (Ji m)) 13)),(7,.int .i64 (QB ((m.defs.take m.defs.length).all Wt) 1)),(104,.isl (m.defs.map Df.enc)),(105,.int .i64 m.defs.length),(106,.int .i64 m.defs.length)],h++([.arr 0 2 [m.enc]]++g)):=by
 have hl:m.defs.length<=67108864:=hm.len
 have hlp:=Qg (γ:=Avm.H) (f:=evC (Qb cfg) Qa cfg.pol h.length h.length QkY) (keep:=[1,6,7,104,105,106]) m.defs
      (fun _ _=>True) (fun i _=>[(1,.ptr h.length 0 2 0 0),(6,.int .i64 (QB ((m.defs.take i).all (Ji m)) 13)),(7,.int .i64 (QB ((m.defs.take i).all Wt) 1)),(104,.isl (m.defs.map Df.enc)),(105,.int .i64 m.defs.length),(106,.int .i64 i)]) (fun _ g=>h++([.arr 0 2 [m.enc]]++g))
      (fun _ _ o=>∃g,o=(.exit 2,[(1,.ptr h.length 0 2 0 0),(6,.int .i64 (QB ((m.defs.take m.defs.length).all (Ji m)) 13)),(7,.int .i64 (QB ((m.defs.take m.defs.length).all Wt) 1)),(104,.isl (m.defs.map Df.enc)),(105,.int .i64 m.defs.length),(106,.int .i64 m.defs.length)],h++([.arr 0 2 [m.enc]]++g))) ?_ ?_ g0 trivial
 ·obtain⟨o,hl,g,ho⟩:=hlp;refine⟨g,?_⟩
  rw[ho]at hl;simpa[QB]using hl
 ·intro i x r g hd hi hx _ K hK;have hw:=Qd (n:=i+1) (by omega)
  simp at hw;have hmx:x∈m.defs:=by rw[←hx]; exact List.getElem_mem hi
  have htk:m.defs.take (i+1)=m.defs.take i++ [x]:=by rw[List.take_succ_eq_append_getElem hi,hx]
  have hos:=hm.of x hmx;have how:x.of.wid<=67108864:=Nat.le_trans x.of.XE hos;have hon:x.of.nodes<=67108864:=Nat.le_trans (Ty.XO _ x.of (Nat.le_refl _)) hos;have hpl:=hm.params x hmx;rw[htk]at hK;simp only[List.all_append,List.all_cons,List.all_nil,Bool.and_true]at hK;have hne: ∀(a b:Bool) (e:Int),e≠0->XG [QB a e,QB b e]=QB (a&&b) e:=Qdp;have e4:=fun ws h=>ZC m hm x.of how ws h
  have e5:=fun ws h=>QdN x.of how hon ws h
  simp[Md.enc]at e4 e5;generalize hA1:(m.defs.take i).all (Ji m)=A1 at*;generalize hA2:(m.defs.take i).all Wt=A2 at*;have hK':=fun c'=>hK c' trivial
  clear hK;by_cases hp:x.params=[]
  ·have hlD:Ji m x=(beh m 21 x.of).isSome:=by simp[Ji,hp]
   rw[hlD]at hK';generalize (beh m 21 x.of).isSome=B1 at*;simp[-Prod.exists,Wt,Md.enc]at hK';simp[-Prod.exists,QkY,Qws,Qmz,Md.enc,hi,hx,hw,hp,e4,e5,Ja,YF,Qbr,hne,QN];exact hK' _
  ·have hlD:Ji m x=true:=by simp[Ji,hp]
   have hpz: ¬(x.params.length:Int)=0:=by
    have:=List.length_pos_iff.2 hp;omega
   rw[hlD]at hK';simp[-Prod.exists,Wt,Md.enc]at hK';simp[-Prod.exists,QkY,Qws,Qmz,Md.enc,hi,hx,hw,hp,hpz,e4,e5,Ja,YF,Qbr,hne,QN];exact hK' _
 ·intro c K _;refine⟨_,?_,c,rfl⟩
  simp[QkY]
theorem QoC (m:Md)(hm:m.ok)(hf:m.fm)(hq: ∀d∈m.defs,QT d.of)(h g0:Avm.H): ∃g,Qa (evC (Qb cfg) Qa cfg.pol h.length h.length QoK) [1,7,142,143,144] [(1,.ptr h.length 0 2 0 0),(7,.int .i64 0),(142,.isl (m.defs.map Df.enc)),(143,.int .i64 m.defs.length),(144,.int .i64 (0:Nat))] (h++([.arr 0 2 [m.enc]]++g0))=some (.exit 4,[(1,.ptr h.length 0 2 0 0),(7,.int .i64 (QB ((m.defs.take m.defs.length).all (Qad m)) 1)),(142,.isl (m.defs.map Df.enc)),(143,.int .i64 m.defs.length),(144,.int .i64 m.defs.length)],h++([.arr 0 2 [m.enc]]++g)):=by
 have hl:m.defs.length<=67108864:=hm.len
 have hlp:=Qg (γ:=Avm.H) (f:=evC (Qb cfg) Qa cfg.pol h.length h.length QoK) (keep:=[1,7,142,143,144]) m.defs
      (fun _ _=>True) (fun i _=>[(1,.ptr h.length 0 2 0 0),(7,.int .i64 (QB ((m.defs.take i).all (Qad m)) 1)),(142,.isl (m.defs.map Df.enc)),(143,.int .i64 m.defs.length),(144,.int .i64 i)]) (fun _ g=>h++([.arr 0 2 [m.enc]]++g))
      (fun _ _ o=>∃g,o=(.exit 4,[(1,.ptr h.length 0 2 0 0),(7,.int .i64 (QB ((m.defs.take m.defs.length).all (Qad m)) 1)),(142,.isl (m.defs.map Df.enc)),(143,.int .i64 m.defs.length),(144,.int .i64 m.defs.length)],h++([.arr 0 2 [m.enc]]++g))) ?_ ?_ g0 trivial
 ·obtain⟨o,hl,g,ho⟩:=hlp;refine⟨g,?_⟩
  rw[ho]at hl;simpa[QB]using hl
 ·intro i x r g hd hi hx _ K hK;have hw:=Qd (n:=i+1) (by omega)
  simp at hw;have hmx:x∈m.defs:=by rw[←hx]; exact List.getElem_mem hi
  have htk:m.defs.take (i+1)=m.defs.take i++ [x]:=by rw[List.take_succ_eq_append_getElem hi,hx]
  have hos:=hm.of x hmx;have how:x.of.wid<=67108864:=Nat.le_trans x.of.XE hos;have hon:x.of.nodes<=67108864:=Nat.le_trans (Ty.XO _ x.of (Nat.le_refl _)) hos;have hpl:=hm.params x hmx;rw[htk]at hK;simp only[List.all_append,List.all_cons,List.all_nil,Bool.and_true]at hK;have hne: ∀(a b:Bool) (e:Int),e≠0->XG [QB a e,QB b e]=QB (a&&b) e:=Qdp;have e7:=fun ws h c hc=>Qbv m hm hf x.params hpl x.of (hq x hmx) ws h c hc
  simp at e7;generalize hA1:(m.defs.take i).all (Qad m)=A1 at*;have hK':=fun c'=>hK c' trivial
  clear hK;simp[-Prod.exists,Qad,Md.enc]at hK';simp[-Prod.exists,QoK,Qzh,Md.enc,hi,hx,hw,e7,Ja,YF,Qbr,hne,QN];exact hK' _
 ·intro c K _;refine⟨_,?_,c,rfl⟩
  simp[QoK]
theorem Qwp (m:Md)(hm:m.ok)(A B:Bool)(h g:Avm.H)(hf:A=true->B=true->m.fm/\ ∀d∈m.defs,QT d.of): ∃g',evC (Qb cfg) Qa cfg.pol h.length h.length QoJ [(1,.ptr h.length 0 2 0 0),(6,.int .i64 (QB A 13)),(7,.int .i64 (QB B 1))] (h++([.arr 0 2 [m.enc]]++g))=some (.ret,[(2,.int .i64 (if A=false then 13 else if B=false then 1 else QB (m.defs.all (Qad m)) 1))],h++([.arr 0 2 [m.enc]]++g')):=by
 cases A
 ·simp[-Prod.exists,QoJ,YF,Qbr,XG,QB,QN]
 ·cases B
  ·simp[-Prod.exists,QoJ,YF,Qbr,XG,QB,QN]
  ·obtain⟨h1,h2⟩:=hf rfl rfl;obtain⟨g2,hl⟩:=QoC m hm h1 h2 h (g++ [.arr 0 1 [.int .i64 0,.int .i64 0]]);refine⟨g2,?_⟩
   simp[Md.enc]at hl;simp[QoJ,Md.enc,YF,Qbr,XG,QB,QN,hl]
def Qbs (m:Md):Int:=if 40<m.defs.length then 2 else if m.defs.all Wu=false then 2 else if(Xd m.name&&m.defs.all (QgB m))=false then 6 else if(m.defs.all Qes&&distinct (m.defs.map Df.name))=false then 7 else if m.defs.all (Ji m)=false then 13 else if m.defs.all Wt=false then 1 else QB (m.defs.all (Qad m)) 1
theorem Qdo {m:Md}(h:m.defs.all Wu=true):m.lim:=fun d hd=>by
 have:=List.all_eq_true.1 h d hd;simp only[Wu,Bool.and_eq_true]at this;exact JA this.2
theorem Qeq {m:Md}(h:m.defs.all Wt=true):m.fm:=fun d hd=>List.all_eq_true.1 h d hd
theorem Qzk {m:Md}(hm:m.ok)(h1:m.defs.all Wu=true)(h2:m.defs.all Wt=true): ∀d∈m.defs,QT d.of:=fun d hd=>
 ⟨Nat.le_trans d.of.XE (hm.of d hd),Qdo h1 d hd,Qeq h2 d hd,hm.of d hd⟩
end Go.Proofs.YtflbneepngjglaaGreatDoor
namespace Go.Proofs.YtflbneepngjglaaGreatDoor
open Go Go.Avm
theorem QuW (m:Md)(hm:m.ok)(h g0:Avm.H): ∃g,Qa (evC (Qb cfg) Qa cfg.pol h.length h.length QdH) [1,3] [(1,.ptr h.length 0 2 0 0),(3,.int .i64 (0:Nat))] (h++([.arr 0 2 [m.enc]]++g0))=some (if m.defs.all Wu=true then(.exit 0,[(1,.ptr h.length 0 2 0 0),(3,.int .i64 m.defs.length)],h++([.arr 0 2 [m.enc]]++g))else(.ret,[(2,.int .i64 2)],h++([.arr 0 2 [m.enc]]++g))):=by
 have hl:m.defs.length<=67108864:=hm.len
 have hlp:=Qg (γ:=Avm.H) (f:=evC (Qb cfg) Qa cfg.pol h.length h.length QdH) (keep:=[1,3]) m.defs (fun _ _=>True)
      (fun i _=>[(1,.ptr h.length 0 2 0 0),(3,.int .i64 i)]) (fun _ g=>h++([.arr 0 2 [m.enc]]++g))
      (fun _ r o=>∃g,o=if r.all Wu=true then(.exit 0,[(1,.ptr h.length 0 2 0 0),(3,.int .i64 m.defs.length)],h++([.arr 0 2 [m.enc]]++g))else(.ret,[(2,.int .i64 2)],h++([.arr 0 2 [m.enc]]++g))) ?_ ?_ g0 trivial
 ·obtain⟨o,h1,g,h2⟩:=hlp;exact⟨g,h2▸h1⟩
 ·intro i x r g hd hi hx _ K hK;have hw:=Qd (n:=i+1) (by omega)
  simp at hw;have hmx:x∈m.defs:=by rw[←hx]; exact List.getElem_mem hi
  have hos:=hm.of x hmx;have how:x.of.wid<=67108864:=Nat.le_trans x.of.XE hos;have hon:x.of.nodes<=67108864:=Nat.le_trans (Ty.XO _ x.of (Nat.le_refl _)) hos;have hpl:=hm.params x hmx;have e1:=fun ws h=>Qio x.of how hon ws h
  simp at e1
  have hlD:Wu x=(decide ((x.params.length:Int)<=20)&&QcN x.of):=by
   have e:((x.params.length:Int)<=20)=(x.params.length<=20):=propext (by omega)
   unfold Wu; simp only[e]
  cases hv:Wu x
  ·have hlD':=hlD;rw[hv]at hlD'
   replace hlD':=hlD'.symm
   refine⟨_,?_,g,by simp only[List.all_cons,hv,Bool.false_and,Bool.false_eq_true,if_false]; rfl⟩
   by_cases q:(20:Int)<x.params.length
   ·simp[QdH,QmL,Md.enc,hi,hx,q]
   ·have hl2:QcN x.of=false:=by
      have q2:(x.params.length:Int)<=20:=by omega
      simpa[q2]using hlD'
    rw[hl2]at e1;simp[QdH,QmL,Md.enc,hi,hx,q,e1]
  ·have hlD':=hlD;rw[hv]at hlD'
   replace hlD':=hlD'.symm
   obtain⟨o,h4,g2,h5⟩:=hK (g) trivial;refine⟨o,?_,g2,by simp only[List.all_cons,hv,Bool.true_and]; exact h5⟩
   simp[Md.enc]at h4
   have q2: ¬(20:Int)<x.params.length:=by
    simp at hlD';omega
   have hl2:QcN x.of=true:=by
    simp at hlD';exact hlD'.2
   rw[hl2]at e1;simp[QdH,QmL,Md.enc,hi,hx,q2,e1,hw,h4]
 ·intro g K _;refine⟨_,?_,g,by simp only[List.all_nil,if_true]; rfl⟩
  simp[QdH,Md.enc]
theorem QuV (m:Md)(x:Df)(k:Nat)(hp:x.params.length<=67108864)(hz: ∀p∈x.params,p.size<=67108864)(h g0:Avm.H):Qa (evC (Qb cfg) Qa cfg.pol h.length h.length QfT) [1,4,5,6] [(1,.ptr h.length 0 2 0 0),(4,.int .i64 k),(5,.ptr (h.length+(g0.length+1)) 0 10 0 0),(6,.int .i64 (0:Nat))] (h++([.arr 0 2 [m.enc]]++(g0++ [.arr 0 10 [x.enc]])))=some (if x.params.all Xd=true then(.exit 4,[(1,.ptr h.length 0 2 0 0),(4,.int .i64 k),(5,.ptr (h.length+(g0.length+1)) 0 10 0 0),(6,.int .i64 x.params.length)],h++([.arr 0 2 [m.enc]]++(g0++ [.arr 0 10 [x.enc]])))else(.ret,[(2,.int .i64 6)],h++([.arr 0 2 [m.enc]]++(g0++ [.arr 0 10 [x.enc]])))):=by
 have hl:x.params.length<=67108864:=hp
 refine QE (f:=evC (Qb cfg) Qa cfg.pol h.length h.length QfT) (keep:=[1,4,5,6]) x.params (fun i=>[(1,.ptr h.length 0 2 0 0),(4,.int .i64 k),(5,.ptr (h.length+(g0.length+1)) 0 10 0 0),(6,.int .i64 i)]) (fun _=>h++([.arr 0 2 [m.enc]]++(g0++ [.arr 0 10 [x.enc]])))
     (fun i r=>if r.all Xd=true then(.exit 4,[(1,.ptr h.length 0 2 0 0),(4,.int .i64 k),(5,.ptr (h.length+(g0.length+1)) 0 10 0 0),(6,.int .i64 x.params.length)],h++([.arr 0 2 [m.enc]]++(g0++ [.arr 0 10 [x.enc]])))else(.ret,[(2,.int .i64 6)],h++([.arr 0 2 [m.enc]]++(g0++ [.arr 0 10 [x.enc]])))) ?_ ?_
 ·intro i y r hd hi hx K hK;have hw:=Qd (n:=i+1) (by omega)
  simp at hw;have hmy:y∈x.params:=by rw[←hx]; exact List.getElem_mem hi
  have e2:=fun ws h=>Qco y (hz y hmy) ws h
  rw[List.all_cons];cases q:Xd y
  ·rw[q]at e2;simp[QfT,Md.enc,hi,hx,e2]
  ·rw[q]at e2;simp[Md.enc]at hK;simp[QfT,Md.enc,hi,hx,e2,hw,hK]
 ·intro K;simp[QfT,Md.enc]
def Qgl (m:Md)(d:Df):Bool:=Xd d.name&&(d.of.QH (JL m d.params)&&d.params.all Xd)
theorem QuU (m:Md)(hm:m.ok)(h g0:Avm.H): ∃g,Qa (evC (Qb cfg) Qa cfg.pol h.length h.length Qce) [1,4] [(1,.ptr h.length 0 2 0 0),(4,.int .i64 (0:Nat))] (h++([.arr 0 2 [m.enc]]++g0))=some (if m.defs.all (Qgl m)=true then(.exit 2,[(1,.ptr h.length 0 2 0 0),(4,.int .i64 m.defs.length)],h++([.arr 0 2 [m.enc]]++g))else(.ret,[(2,.int .i64 6)],h++([.arr 0 2 [m.enc]]++g))):=by
 have hl:m.defs.length<=67108864:=hm.len
 have hlp:=Qg (γ:=Avm.H) (f:=evC (Qb cfg) Qa cfg.pol h.length h.length Qce) (keep:=[1,4]) m.defs (fun _ _=>True)
      (fun i _=>[(1,.ptr h.length 0 2 0 0),(4,.int .i64 i)]) (fun _ g=>h++([.arr 0 2 [m.enc]]++g))
      (fun _ r o=>∃g,o=if r.all (Qgl m)=true then(.exit 2,[(1,.ptr h.length 0 2 0 0),(4,.int .i64 m.defs.length)],h++([.arr 0 2 [m.enc]]++g))else(.ret,[(2,.int .i64 6)],h++([.arr 0 2 [m.enc]]++g))) ?_ ?_ g0 trivial
 ·obtain⟨o,h1,g,h2⟩:=hlp;exact⟨g,h2▸h1⟩
 ·intro i x r g hd hi hx _ K hK;have hw:=Qd (n:=i+1) (by omega)
  simp at hw;have hmx:x∈m.defs:=by rw[←hx]; exact List.getElem_mem hi
  have hos:=hm.of x hmx;have how:x.of.wid<=67108864:=Nat.le_trans x.of.XE hos;have hon:x.of.nodes<=67108864:=Nat.le_trans (Ty.XO _ x.of (Nat.le_refl _)) hos;have hpl:=hm.params x hmx;have e1:=fun ws h=>Qco x.name (hm.dname x hmx) ws h
  have e2:=fun ws h=>QnH m x.params hm hpl x.of how hon ws h
  have e3:=QuV m x i hpl (hm.pnames x hmx) h g;simp[Md.enc]at e1 e2;cases hv:(Qgl m) x
  ·refine⟨_,?_,g++ [.arr 0 10 [x.enc]],by simp only[List.all_cons,hv,Bool.false_and,Bool.false_eq_true,if_false]; rfl⟩
   cases q1:Xd x.name
   ·rw[q1]at e1;simp[Qce,Qje,Md.enc,hi,hx,e1]
   ·rw[q1]at e1;cases q2:x.of.QH (JL m x.params)
    ·rw[q2]at e2;simp[Qce,Qje,Md.enc,hi,hx,e1,e2]
    ·rw[q2]at e2;have q3:x.params.all Xd=false:=by rw[Qgl,q1,q2]at hv; simpa only[Bool.true_and]using hv
     rw[q3]at e3;simp[Md.enc]at e3;simp[Qce,Qje,Md.enc,hi,hx,e1,e2,e3]
  ·obtain⟨o,h4,g2,h5⟩:=hK (g++ [.arr 0 10 [x.enc]]) trivial;refine⟨o,?_,g2,by simp only[List.all_cons,hv,Bool.true_and]; exact h5⟩
   simp[Md.enc]at h4;simp only[Qgl,Bool.and_eq_true]at hv;obtain⟨q1,q2,q3⟩:=hv;rw[q1]at e1;rw[q2]at e2;rw[q3]at e3;simp[Md.enc]at e3;simp[Qce,Qje,Md.enc,hi,hx,e1,e2,e3,hw,h4]
 ·intro g K _;refine⟨_,?_,g,by simp only[List.all_nil,if_true]; rfl⟩
  simp[Qce,Md.enc]
end Go.Proofs.YtflbneepngjglaaGreatDoor
namespace Go.Proofs.YtflbneepngjglaaGreatDoor
open Go Go.Avm
theorem QuT (m:Md)(x:Df)(k:Nat)(hp:x.params.length<=67108864)(h g0:Avm.H):Qa (evC (Qb cfg) Qa cfg.pol h.length h.length QfS) [1,7,8,9] [(1,.ptr h.length 0 2 0 0),(7,.int .i64 k),(8,.ptr (h.length+(g0.length+1)) 0 10 0 0),(9,.int .i64 (0:Nat))] (h++([.arr 0 2 [m.enc]]++(g0++ [.arr 0 10 [x.enc]])))=some (if QbD [] x.params=true then(.ret,[(2,.int .i64 7)],h++([.arr 0 2 [m.enc]]++(g0++ [.arr 0 10 [x.enc]])))else(.exit 8,[(1,.ptr h.length 0 2 0 0),(7,.int .i64 k),(8,.ptr (h.length+(g0.length+1)) 0 10 0 0),(9,.int .i64 x.params.length)],h++([.arr 0 2 [m.enc]]++(g0++ [.arr 0 10 [x.enc]])))):=by
 have hl:x.params.length<=67108864:=hp
 have hlp:=QE (f:=evC (Qb cfg) Qa cfg.pol h.length h.length QfS) (keep:=[1,7,8,9]) x.params (fun i=>[(1,.ptr h.length 0 2 0 0),(7,.int .i64 k),(8,.ptr (h.length+(g0.length+1)) 0 10 0 0),(9,.int .i64 i)]) (fun _=>h++([.arr 0 2 [m.enc]]++(g0++ [.arr 0 10 [x.enc]])))
      (fun i r=>if QbD (x.params.take i) r=true then(.ret,[(2,.int .i64 7)],h++([.arr 0 2 [m.enc]]++(g0++ [.arr 0 10 [x.enc]])))else(.exit 8,[(1,.ptr h.length 0 2 0 0),(7,.int .i64 k),(8,.ptr (h.length+(g0.length+1)) 0 10 0 0),(9,.int .i64 x.params.length)],h++([.arr 0 2 [m.enc]]++(g0++ [.arr 0 10 [x.enc]])))) ?_ ?_
 ·exact hlp
 ·intro i y r hd hi hx K hK;have hw:=Qd (n:=i+1) (by omega)
  simp at hw;have hmy:y∈x.params:=by rw[←hx]; exact List.getElem_mem hi
  have e2:=fun ws h=>Qqo (x.params.take i) y (by simp; omega) ws h
  have hmin:min i x.params.length=i:=by omega
  have hle:i<=x.params.length:=by omega
  have hle2:(i:Int)<=x.params.length:=by omega
  have hso:Qlv 1 (x.params.map AV.str)=true:=by simp[Qlv]
  have htk:x.params.take (i+1)=x.params.take i++ [y]:=by rw[List.take_succ_eq_append_getElem hi,hx]
  rw[htk]at hK;rw[QbD];unfold inS at e2
  have hany:(x.params.take i).any (fun p=>eqS p y)=(x.params.take i).any (fun p=>eqS y p):=by
   congr 1; funext p; unfold eqS
   by_cases e:y.toList=p.toList
   ·simp[e]
   ·have e2: ¬p.toList=y.toList:=fun q=>e q.symm
    simp[e,e2]
  rw[hany]at e2;simp only[List.map_take]at e2;cases q:(x.params.take i).any fun p=>eqS y p
  ·rw[q]at e2;rw[Bool.false_or];simp[Md.enc]at hK;simp[QfS,QqL,Md.enc,hi,hx,QcL,hso,e2,hw,hle,hle2,hmin,hK]
  ·rw[q]at e2;simp[QfS,QqL,Md.enc,hi,hx,QcL,hso,e2,hle,hle2,hmin]
 ·intro K;simp[QfS,Md.enc,QbD]
def QgC (m:Md):Nat->List Df->Bool
 | _,[]=>true
 | i,x::r=>(decide (idxOf (isD x.name) m.defs=(i:Int))&&(x.of.QH Qbt&& !QbD [] x.params))&&QgC m (i+1) r
theorem QuS (m:Md)(hm:m.ok)(h g0:Avm.H): ∃g,Qa (evC (Qb cfg) Qa cfg.pol h.length h.length Qcd) [1,7] [(1,.ptr h.length 0 2 0 0),(7,.int .i64 (0:Nat))] (h++([.arr 0 2 [m.enc]]++g0))=some (if QgC m 0 m.defs=true then(.exit 6,[(1,.ptr h.length 0 2 0 0),(7,.int .i64 m.defs.length)],h++([.arr 0 2 [m.enc]]++g))else(.ret,[(2,.int .i64 7)],h++([.arr 0 2 [m.enc]]++g))):=by
 have hl:m.defs.length<=67108864:=hm.len
 have hlp:=Qg (γ:=Avm.H) (f:=evC (Qb cfg) Qa cfg.pol h.length h.length Qcd) (keep:=[1,7]) m.defs (fun _ _=>True)
      (fun i _=>[(1,.ptr h.length 0 2 0 0),(7,.int .i64 i)]) (fun _ g=>h++([.arr 0 2 [m.enc]]++g))
      (fun i r o=>∃g,o=if QgC m i r=true then(.exit 6,[(1,.ptr h.length 0 2 0 0),(7,.int .i64 m.defs.length)],h++([.arr 0 2 [m.enc]]++g))else(.ret,[(2,.int .i64 7)],h++([.arr 0 2 [m.enc]]++g))) ?_ ?_ g0 trivial
 ·obtain⟨o,h1,g,h2⟩:=hlp;exact⟨g,h2▸h1⟩
 ·intro i x r g hd hi hx _ K hK;have hw:=Qd (n:=i+1) (by omega)
  simp at hw;have hmx:x∈m.defs:=by rw[←hx]; exact List.getElem_mem hi
  have hos:=hm.of x hmx;have how:x.of.wid<=67108864:=Nat.le_trans x.of.XE hos;have hon:x.of.nodes<=67108864:=Nat.le_trans (Ty.XO _ x.of (Nat.le_refl _)) hos;have hpl:=hm.params x hmx;have e1:=fun ws h=>Qhi m x.name hm.len ws h
  have e2:=fun ws h=>Qrj x.of how hon ws h
  have e3:=QuT m x i hpl h g;simp[Md.enc]at e1 e2;by_cases q1:idxOf (isD x.name) m.defs=(i:Int)
  ·cases q2:x.of.QH Qbt
   ·refine⟨_,?_,g++ [.arr 0 10 [x.enc]],by simp only[QgC,q2,Bool.false_and,Bool.and_false,Bool.false_eq_true,if_false]; rfl⟩
    rw[q2]at e2;simp[Qcd,Qjd,Md.enc,hi,hx,e1,e2,q1]
   ·rw[q2]at e2;cases q3:QbD [] x.params
    ·rw[q3]at e3;simp[Md.enc]at e3;obtain⟨o,h4,g2,h5⟩:=hK (g++ [.arr 0 10 [x.enc]]) trivial;refine⟨o,?_,g2,by simp only[QgC,q1,q2,q3,decide_true,Bool.not_false,Bool.true_and]; exact h5⟩
     simp[Md.enc]at h4;simp[Qcd,Qjd,Md.enc,hi,hx,e1,e2,e3,q1,hw,h4]
    ·rw[q3]at e3;simp[Md.enc]at e3;refine⟨_,?_,g++ [.arr 0 10 [x.enc]],by simp only[QgC,q2,q3,Bool.not_true,Bool.false_and,Bool.and_false,Bool.false_eq_true,if_false]; rfl⟩
     simp[Qcd,Qjd,Md.enc,hi,hx,e1,e2,e3,q1]
  ·refine⟨_,?_,g++ [.arr 0 10 [x.enc]],by simp only[QgC,q1,decide_false,Bool.false_and,Bool.false_eq_true,if_false]; rfl⟩
   simp[Qcd,Qjd,Md.enc,hi,hx,e1,q1]
 ·intro g K _;refine⟨_,?_,g,by simp only[QgC,if_true]; rfl⟩
  simp[Qcd,Md.enc]
theorem Qnt (l:List ByteArray):QbD [] l= !distinct l:=by
 rw[QlO]; simp
theorem Qth {α:Type}(p:α->Bool)(pre:List α)(x:α)(r:List α)(hx:p x=true):decide (idxOf p (pre++x::r)=(pre.length:Int))= !pre.any p:=by
 unfold idxOf;rw[List.findIdx?_append]
 cases q:pre.findIdx? p with
 | none=>
  rw[List.findIdx?_eq_none_iff]at q
  have:pre.any p=false:=by
   rw[List.any_eq_false];intro y hy; simp[q y hy]
  simp[this,List.findIdx?_cons,hx]
 | some j=>
  rw[List.findIdx?_eq_some_iff_getElem]at q
  obtain⟨hj,h1,_⟩:=q;have:pre.any p=true:=List.any_eq_true.2 ⟨_,List.getElem_mem hj,h1⟩;rw[this,Option.some_or];exact decide_eq_false (by dsimp only; omega)
theorem QrC (m:Md): ∀(r pre:List Df),m.defs=pre++r->QgC m pre.length r=(r.all Qes&& !QbD (pre.map Df.name) (r.map Df.name))
 | [],_,_=>rfl
 | x::r,pre,h=>by
  have ih:=QrC m r (pre++ [x]) (by simp[h])
  rw[List.length_append,List.length_singleton]at ih;rw[QgC,ih,List.all_cons,List.map_cons,QbD,h,Qth _ _ _ _ (by simp[isD,eqS]),Qnt]
  have e1:pre.any (isD x.name)=(pre.map Df.name).any (fun y=>eqS x.name y):=by
   rw[List.any_map]; congr 1; funext y; simp only[isD,Function.comp]; exact QiA _ _
  rw[e1,List.map_append,List.map_cons,List.map_nil];rw[show Qes x=(distinct x.params&&x.of.QH Qbt)from rfl];generalize r.all Qes=Z;cases(pre.map Df.name).any (fun y=>eqS x.name y)<;>cases x.of.QH Qbt<;>cases distinct x.params<;>cases Z<;>cases QbD (pre.map Df.name++ [x.name]) (r.map Df.name)<;>rfl
theorem Qwd (m:Md):QgC m 0 m.defs=(m.defs.all Qes&&distinct (m.defs.map Df.name)):=by
 have:=QrC m m.defs [] rfl;rw[List.length_nil,List.map_nil,Qnt,Bool.not_not]at this;exact this
end Go.Proofs.YtflbneepngjglaaGreatDoor
namespace Go.Proofs.YtflbneepngjglaaGreatDoor
open Go Go.Avm
theorem QuR (m:Md)(hm:m.ok)(hl0:m.lim)(h g0:Avm.H): ∃g,Qa (evC (Qb cfg) Qa cfg.pol h.length h.length QdG) [1,10] [(1,.ptr h.length 0 2 0 0),(10,.int .i64 (0:Nat))] (h++([.arr 0 2 [m.enc]]++g0))=some (if m.defs.all (Ji m)=true then(.exit 10,[(1,.ptr h.length 0 2 0 0),(10,.int .i64 m.defs.length)],h++([.arr 0 2 [m.enc]]++g))else(.ret,[(2,.int .i64 13)],h++([.arr 0 2 [m.enc]]++g))):=by
 have hl:m.defs.length<=67108864:=hm.len
 have hlp:=Qg (γ:=Avm.H) (f:=evC (Qb cfg) Qa cfg.pol h.length h.length QdG) (keep:=[1,10]) m.defs (fun _ _=>True)
      (fun i _=>[(1,.ptr h.length 0 2 0 0),(10,.int .i64 i)]) (fun _ g=>h++([.arr 0 2 [m.enc]]++g))
      (fun _ r o=>∃g,o=if r.all (Ji m)=true then(.exit 10,[(1,.ptr h.length 0 2 0 0),(10,.int .i64 m.defs.length)],h++([.arr 0 2 [m.enc]]++g))else(.ret,[(2,.int .i64 13)],h++([.arr 0 2 [m.enc]]++g))) ?_ ?_ g0 trivial
 ·obtain⟨o,h1,g,h2⟩:=hlp;exact⟨g,h2▸h1⟩
 ·intro i x r g hd hi hx _ K hK;have hw:=Qd (n:=i+1) (by omega)
  simp at hw;have hmx:x∈m.defs:=by rw[←hx]; exact List.getElem_mem hi
  have hos:=hm.of x hmx;have how:x.of.wid<=67108864:=Nat.le_trans x.of.XE hos;have hon:x.of.nodes<=67108864:=Nat.le_trans (Ty.XO _ x.of (Nat.le_refl _)) hos;have hpl:=hm.params x hmx;have e1:=fun ws h=>Qrc m hm hl0 x.of how (hl0 x hmx) ws h
  simp[Md.enc]at e1;have hlD:Ji m x=(!decide (x.params=[])||(Qaf m 20 x.of).isSome):=by rw[Ji,QqN m hl0]
  have hq0:((x.params.length:Int)=0)=(x.params=[]):=propext (by rw[←List.length_eq_zero_iff]; omega)
  cases hv:(Ji m) x
  ·refine⟨_,?_,g++ [.arr 0 8 [((Qaf m 20 x.of).getD Ty.zero).enc]],by simp only[List.all_cons,hv,Bool.false_and,Bool.false_eq_true,if_false]; rfl⟩
   rw[hlD]at hv
   have q1:x.params=[]:=by
    by_cases q:x.params=[]
    ·exact q
    ·simp[q]at hv
   have q2:(Qaf m 20 x.of).isSome=false:=by simpa[q1]using hv
   rw[q2]at e1;simp[QdG,QmK,Md.enc,hi,hx,e1,q1,q2]
  ·obtain⟨o,h4,g2,h5⟩:=hK (g++ [.arr 0 8 [((Qaf m 20 x.of).getD Ty.zero).enc]]) trivial;refine⟨o,?_,g2,by simp only[List.all_cons,hv,Bool.true_and]; exact h5⟩
   simp[Md.enc]at h4;rw[hlD]at hv;by_cases q1:x.params=[]
   ·have q2:(Qaf m 20 x.of).isSome=true:=by simpa[q1]using hv
    rw[q2]at e1;simp[QdG,QmK,Md.enc,hi,hx,e1,q1,q2,hw,h4]
   ·have q3: ¬(x.params.length:Int)=0:=by rw[hq0]; exact q1
    simp[QdG,QmK,Md.enc,hi,hx,e1,q1,q3,hw,h4]
 ·intro g K _;refine⟨_,?_,g,by simp only[List.all_nil,if_true]; rfl⟩
  simp[QdG,Md.enc]
theorem QuQ (m:Md)(hm:m.ok)(h g0:Avm.H): ∃g,Qa (evC (Qb cfg) Qa cfg.pol h.length h.length QfR) [1,13] [(1,.ptr h.length 0 2 0 0),(13,.int .i64 (0:Nat))] (h++([.arr 0 2 [m.enc]]++g0))=some (if m.defs.all Wt=true then(.exit 12,[(1,.ptr h.length 0 2 0 0),(13,.int .i64 m.defs.length)],h++([.arr 0 2 [m.enc]]++g))else(.ret,[(2,.int .i64 1)],h++([.arr 0 2 [m.enc]]++g))):=by
 have hl:m.defs.length<=67108864:=hm.len
 have hlp:=Qg (γ:=Avm.H) (f:=evC (Qb cfg) Qa cfg.pol h.length h.length QfR) (keep:=[1,13]) m.defs (fun _ _=>True)
      (fun i _=>[(1,.ptr h.length 0 2 0 0),(13,.int .i64 i)]) (fun _ g=>h++([.arr 0 2 [m.enc]]++g))
      (fun _ r o=>∃g,o=if r.all Wt=true then(.exit 12,[(1,.ptr h.length 0 2 0 0),(13,.int .i64 m.defs.length)],h++([.arr 0 2 [m.enc]]++g))else(.ret,[(2,.int .i64 1)],h++([.arr 0 2 [m.enc]]++g))) ?_ ?_ g0 trivial
 ·obtain⟨o,h1,g,h2⟩:=hlp;exact⟨g,h2▸h1⟩
 ·intro i x r g hd hi hx _ K hK;have hw:=Qd (n:=i+1) (by omega)
  simp at hw;have hmx:x∈m.defs:=by rw[←hx]; exact List.getElem_mem hi
  have hos:=hm.of x hmx;have how:x.of.wid<=67108864:=Nat.le_trans x.of.XE hos;have hon:x.of.nodes<=67108864:=Nat.le_trans (Ty.XO _ x.of (Nat.le_refl _)) hos;have hpl:=hm.params x hmx;have e1:=fun ws h=>QkK x.of how hon ws h
  simp at e1;cases hv:Wt x
  ·refine⟨_,?_,g,by simp only[List.all_cons,hv,Bool.false_and,Bool.false_eq_true,if_false]; rfl⟩
   unfold Wt at hv;rw[hv]at e1;simp[QfR,QqK,Md.enc,hi,hx,e1]
  ·obtain⟨o,h4,g2,h5⟩:=hK (g) trivial;refine⟨o,?_,g2,by simp only[List.all_cons,hv,Bool.true_and]; exact h5⟩
   simp[Md.enc]at h4;unfold Wt at hv;rw[hv]at e1;simp[QfR,QqK,Md.enc,hi,hx,e1,hw,h4]
 ·intro g K _;refine⟨_,?_,g,by simp only[List.all_nil,if_true]; rfl⟩
  simp[QfR,Md.enc]
theorem QuP (m:Md)(hm:m.ok)(hl0:m.lim)(hf:m.fm)(hq: ∀d∈m.defs,QT d.of)(h g0:Avm.H): ∃g,Qa (evC (Qb cfg) Qa cfg.pol h.length h.length QfQ) [1,14] [(1,.ptr h.length 0 2 0 0),(14,.int .i64 (0:Nat))] (h++([.arr 0 2 [m.enc]]++g0))=some (if m.defs.all (Qad m)=true then(.exit 14,[(1,.ptr h.length 0 2 0 0),(14,.int .i64 m.defs.length)],h++([.arr 0 2 [m.enc]]++g))else(.ret,[(2,.int .i64 1)],h++([.arr 0 2 [m.enc]]++g))):=by
 have hl:m.defs.length<=67108864:=hm.len
 have hlp:=Qg (γ:=Avm.H) (f:=evC (Qb cfg) Qa cfg.pol h.length h.length QfQ) (keep:=[1,14]) m.defs (fun _ _=>True)
      (fun i _=>[(1,.ptr h.length 0 2 0 0),(14,.int .i64 i)]) (fun _ g=>h++([.arr 0 2 [m.enc]]++g))
      (fun _ r o=>∃g,o=if r.all (Qad m)=true then(.exit 14,[(1,.ptr h.length 0 2 0 0),(14,.int .i64 m.defs.length)],h++([.arr 0 2 [m.enc]]++g))else(.ret,[(2,.int .i64 1)],h++([.arr 0 2 [m.enc]]++g))) ?_ ?_ g0 trivial
 ·obtain⟨o,h1,g,h2⟩:=hlp;exact⟨g,h2▸h1⟩
 ·intro i x r g hd hi hx _ K hK;have hw:=Qd (n:=i+1) (by omega)
  simp at hw;have hmx:x∈m.defs:=by rw[←hx]; exact List.getElem_mem hi
  have hos:=hm.of x hmx;have how:x.of.wid<=67108864:=Nat.le_trans x.of.XE hos;have hon:x.of.nodes<=67108864:=Nat.le_trans (Ty.XO _ x.of (Nat.le_refl _)) hos;have hpl:=hm.params x hmx;have e1:=fun ws h=>Qnc m hm hl0 hf x.params hpl x.of (hq x hmx) ws h
  simp[Md.enc]at e1;cases hv:(Qad m) x
  ·refine⟨_,?_,g,by simp only[List.all_cons,hv,Bool.false_and,Bool.false_eq_true,if_false]; rfl⟩
   unfold Qad at hv;rw[hv]at e1;simp[QfQ,QqJ,Md.enc,hi,hx,e1]
  ·obtain⟨o,h4,g2,h5⟩:=hK (g) trivial;refine⟨o,?_,g2,by simp only[List.all_cons,hv,Bool.true_and]; exact h5⟩
   simp[Md.enc]at h4;unfold Qad at hv;rw[hv]at e1;simp[QfQ,QqJ,Md.enc,hi,hx,e1,hw,h4]
 ·intro g K _;refine⟨_,?_,g,by simp only[List.all_nil,if_true]; rfl⟩
  simp[QfQ,Md.enc]
end Go.Proofs.YtflbneepngjglaaGreatDoor
namespace Go.Proofs.YtflbneepngjglaaGreatDoor
open Go Go.Avm
theorem Qwo (m:Md)(hm:m.ok)(A1 A2 A3:Bool)(h g:Avm.H)(w:AV)(hI:Qx h.length 1 1 g ((m.defs.map Df.name).map .str) w)(hl:A1=true->m.defs.all Wu=true): ∃g',evC (Qb cfg) Qa cfg.pol h.length h.length QiN [(1,.ptr h.length 0 2 0 0),(3,.int .i64 (QB A1 2)),(4,.int .i64 (QB A2 6)),(5,.int .i64 (QB A3 7)),(6,.int .i64 0),(7,.int .i64 0),(8,w)] (h++([.arr 0 2 [m.enc]]++g))=some (.ret,[(2,.int .i64 (if A1=false then 2 else if A2=false then 6 else if(A3&&distinct (m.defs.map Df.name))=false then 7 else if m.defs.all (Ji m)=false then 13 else if m.defs.all Wt=false then 1 else QB (m.defs.all (Qad m)) 1))],h++([.arr 0 2 [m.enc]]++g')):=by
 have hlen:m.defs.length<=67108864:=hm.len;have e2:=fun ws=>QhB w (m.defs.map Df.name) (by simpa using hlen) ws _ (Qx.els (pre:=[.arr 0 2 [m.enc]]) hI)
 obtain⟨D,hD⟩: ∃D,distinct (m.defs.map Df.name)=D:=⟨_,rfl⟩;rw[hD]at e2 ⊢;simp[Md.enc]at e2;cases A1
 ·simp[-Prod.exists,QiN,Md.enc,e2,Ja,YF,Qbr,XG,QB,QN]
 ·cases A2
  ·simp[-Prod.exists,QiN,Md.enc,e2,Ja,YF,Qbr,XG,QB,QN]
  ·cases A3
   ·simp[-Prod.exists,QiN,Md.enc,e2,Ja,YF,Qbr,XG,QB,QN]
   ·cases D
    ·simp[-Prod.exists,QiN,Md.enc,e2,Ja,YF,Qbr,XG,QB,QN]
    ·obtain⟨g2,h1⟩:=QoD m hm h (g++ [.arr 0 1 [.int .i64 0,.int .i64 0,.int .i64 0,.int .i64 0]]);obtain⟨g3,h2⟩:=Qwp m hm (m.defs.all (Ji m)) (m.defs.all Wt) h g2 (fun _ q2=>⟨Qeq q2,Qzk hm (hl rfl) q2⟩)
     refine⟨g3,?_⟩
     rw[List.take_length]at h1;generalize m.defs.all (Ji m)=B1 at*;generalize m.defs.all Wt=B2 at*;generalize m.defs.all (Qad m)=B3 at*;simp only[Bool.and_self,Bool.true_eq_false,if_false];rw[←h2];clear h2;simp[Md.enc]at h1;simp[QiN,Md.enc,e2,Ja,YF,Qbr,XG,QB,QN,h1]
theorem QoB (m:Md)(hm:m.ok)(ws:Nat)(h:Avm.H):Qb cfg ws 78 [m.enc] h=some (.int .i64 (Qbs m),h):=by
 have e1:=fun ws h=>Qep m.name hm.name ws h
 unfold Qbs;refine Qc rfl rfl ?_
 by_cases q:40<m.defs.length
 ·have q2:(40:Int)<m.defs.length:=by omega
  simp[F78,c78,Md.enc,q,q2]
 ·have q2: ¬(40:Int)<m.defs.length:=by omega
  obtain⟨w,g,hI,hl⟩:=QoE m hm h;obtain⟨g2,h2⟩:=Qwo m hm (m.defs.all Wu) (Xd m.name&&m.defs.all (QgB m)) (m.defs.all Qes) h g w hI (fun q=>q)
  rw[List.take_length]at hl;generalize m.defs.all Wu=A1 at*;generalize m.defs.all (QgB m)=A2 at*;generalize m.defs.all Qes=A3 at*;generalize m.defs.all (Ji m)=A4 at*;generalize m.defs.all Wt=A5 at*;generalize m.defs.all (Qad m)=A6 at*;generalize distinct (m.defs.map Df.name)=A7 at*;generalize Xd m.name=A0 at*;generalize hR:(if A1=false then 2 else if(A0&&A2)=false then 6 else if(A3&&A7)=false then 7 else if A4=false then 13 else if A5=false then 1 else QB A6 1:Int)=R at*
  simp[Md.enc]at hl h2;simp[F78,c78,Qzg,Md.enc,q,q2,e1,Ja,hl,h2,hR]
end Go.Proofs.YtflbneepngjglaaGreatDoor
