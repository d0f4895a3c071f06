/- Check of a module, the document: what is there twice. -/
import Derived.Test.YtflbneepngjglaaGreatDoorO43
set_option linter.all false
namespace Go.Proofs.YtflbneepngjglaaGreatDoor
open Go Go.Avm
theorem Qok (m:Md)(hm:m.ok)(h:Avm.H): ∃w g,Qy h.length 1 1 g (((m.defs).map Df.name).map .str) w/\Qa (evC (Qb cfg) Qa cfg.pol h.length h.length Qor) [1,3,4,5,6,7,8,30,31,32] [(1,.ptr h.length 0 2 0 0),(3,.int .i64 0),(4,.int .i64 (QD (Xe m.name) 6)),(5,.int .i64 0),(6,.int .i64 0),(7,.int .i64 0),(8,.osl (h.length+1) 0 1 0 0),(30,.isl (m.defs.map Df.enc)),(31,.int .i64 m.defs.length),(32,.int .i64 (0:Nat))] (h++([.arr 0 2 [m.enc]]++ [.arr 0 1 []]))=some (.exit 0,[(1,.ptr h.length 0 2 0 0),(3,.int .i64 (QD ((m.defs.take m.defs.length).all YD) 2)),(4,.int .i64 (QD (Xe m.name&&(m.defs.take m.defs.length).all (Qgl m)) 6)),(5,.int .i64 (QD ((m.defs.take m.defs.length).all Qeh) 7)),(6,.int .i64 0),(7,.int .i64 0),(8,w),(30,.isl (m.defs.map Df.enc)),(31,.int .i64 m.defs.length),(32,.int .i64 m.defs.length)],h++([.arr 0 2 [m.enc]]++g)):=by
 have hl:m.defs.length<=67108864:=hm.len
 have hlp:=Qg (γ:=AV×Avm.H) (f:=evC (Qb cfg) Qa cfg.pol h.length h.length Qor) (keep:=[1,3,4,5,6,7,8,30,31,32]) m.defs
      (fun i c=>Qy h.length 1 1 c.2 (((m.defs.take i).map Df.name).map .str) c.1)
      (fun i c=>[(1,.ptr h.length 0 2 0 0),(3,.int .i64 (QD ((m.defs.take i).all YD) 2)),(4,.int .i64 (QD (Xe m.name&&(m.defs.take i).all (Qgl m)) 6)),(5,.int .i64 (QD ((m.defs.take i).all Qeh) 7)),(6,.int .i64 0),(7,.int .i64 0),(8,c.1),(30,.isl (m.defs.map Df.enc)),(31,.int .i64 m.defs.length),(32,.int .i64 i)]) (fun _ c=>h++([.arr 0 2 [m.enc]]++c.2))
      (fun _ _ o=>∃w g,Qy h.length 1 1 g (((m.defs).map Df.name).map .str) w/\o=(.exit 0,[(1,.ptr h.length 0 2 0 0),(3,.int .i64 (QD ((m.defs.take m.defs.length).all YD) 2)),(4,.int .i64 (QD (Xe m.name&&(m.defs.take m.defs.length).all (Qgl m)) 6)),(5,.int .i64 (QD ((m.defs.take m.defs.length).all Qeh) 7)),(6,.int .i64 0),(7,.int .i64 0),(8,w),(30,.isl (m.defs.map Df.enc)),(31,.int .i64 m.defs.length),(32,.int .i64 m.defs.length)],h++([.arr 0 2 [m.enc]]++g))) ?_ ?_ (.osl (h.length+1) 0 1 0 0,[.arr 0 1 []]) (.inr ⟨0,0,by simp,by simp⟩)
 ·obtain⟨o,hl,w,g,hI,ho⟩:=hlp;refine⟨w,g,hI,?_⟩
  rw[ho]at hl;simpa[QD]using hl
 ·intro i x r c hd hi hx hI K hK;have hw:=Qd (n:=i+1) (by omega)
  simp at hw;have hmx:x∈m.defs:=by rw[←hx]; exact List.getElem_mem hi
  have htk:m.defs.take (i+1)=m.defs.take i++ [x]:=by rw[List.take_succ_eq_append_getElem hi,hx]
  have hos:=hm.of x hmx;have how:x.of.wid<=67108864:=Nat.le_trans x.of.XF hos;have hon:x.of.nodes<=67108864:=Nat.le_trans (Ty.XN _ x.of (Nat.le_refl _)) hos;have hpl:=hm.params x hmx;have e1:=fun ws h=>QjZ x.of how hon ws h
  have e2:=fun ws h=>Qef x.name (hm.dname x hmx) ws h
  have e3:=fun ws h=>QoE x.params hpl (hm.pnames x hmx) ws h
  obtain⟨G,hG⟩: ∃G,x.params.all Xe=G:=⟨_,rfl⟩;simp only[hG]at e3;have e4:=fun ws h=>Qnn m x.params hm hpl x.of how hon ws h
  have e5:=fun ws h=>QgX (.isl (x.params.map .str)) x.params hpl ws h rfl
  have e6:=fun ws h=>Qkq x.of how hon ws h
  rw[htk]at hK;simp only[List.all_append,List.all_cons,List.all_nil,Bool.and_true,List.map_append,List.map_cons,List.map_nil]at hK;generalize (m.defs.take i).all YD=A1 at*;generalize (m.defs.take i).all (Qgl m)=A2 at*;generalize (m.defs.take i).all Qeh=A3 at*;generalize Xe m.name=A0 at*
  have hlD:YD x=(decide ((x.params.length:Int)<=20)&&Qbe x.of):=by
   have e:((x.params.length:Int)<=20)=(x.params.length<=20):=propext (by omega)
   unfold YD; simp only[e]
  obtain⟨w,g⟩:=c;dsimp only at hI;simp at e1 e2 e3 e4 e5 e6;have hne: ∀(a b:Bool) (e:Int),e≠0->XG [QD a e,QD b e]=QD (a&&b) e:=Qdi;simp[-Prod.exists,Qor,Qyq,Md.enc,hi,hx,hw,e1,e2,e3,e4,e5,e6,ZW,Yv,Qbf,hne,QS,appended];generalize hA:Ju _ _ _ _ _ _ _=r';obtain⟨v',g',rfl,h2⟩:=Qy.use (pre:=[_]) hI hA (by simp; omega) (by simp)
  obtain⟨o,h4,h5⟩:=hK (v',g') (by simpa using h2)
  refine⟨o,?_,by simpa[Md.enc]using h5⟩
  simp[Md.enc,hlD,Qgl,hG,Qeh,Bool.and_assoc,-List.all_eq_true]at h4;simp[Bool.and_assoc,h4,hw]
 ·intro c K hI;rw[List.take_length]at hI;refine⟨_,?_,c.1,c.2,hI,rfl⟩
  simp[Qor]
end Go.Proofs.YtflbneepngjglaaGreatDoor
namespace Go.Proofs.YtflbneepngjglaaGreatDoor
open Go Go.Avm
def Ji (m:Md)(d:Df):Bool:=!decide (d.params=[])||(beh m 21 d.of).isSome
def Wl (d:Df):Bool:=d.of.Qz Qk
def WU (m:Md)(d:Df):Bool:=d.of.Qz (Xg m d.params)
theorem Qoj (m:Md)(hm:m.ok)(h g0:Avm.H): ∃g,Qa (evC (Qb cfg) Qa cfg.pol h.length h.length Qkx) [1,6,7,104,105,106] [(1,.ptr h.length 0 2 0 0),(6,.int .i64 0),(7,.int .i64 0),(104,.isl (m.defs.map Df.enc)),(105,.int .i64 m.defs.length),(106,.int .i64 (0:Nat))] (h++([.arr 0 2 [m.enc]]++g0))=some (.exit 2,[(1,.ptr h.length 0 2 0 0),(6,.int .i64 (QD ((m.defs.take m.defs.length).all (Ji m)) 13)),(7,.int .i64 (QD ((m.defs.take m.defs.length).all Wl) 1)),(104,.isl (m.defs.map Df.enc)),(105,.int .i64 m.defs.length),(106,.int .i64 m.defs.length)],h++([.arr 0 2 [m.enc]]++g)):=by
 have hl:m.defs.length<=67108864:=hm.len
 have hlp:=Qg (γ:=Avm.H) (f:=evC (Qb cfg) Qa cfg.pol h.length h.length Qkx) (keep:=[1,6,7,104,105,106]) m.defs
      (fun _ _=>True) (fun i _=>[(1,.ptr h.length 0 2 0 0),(6,.int .i64 (QD ((m.defs.take i).all (Ji m)) 13)),(7,.int .i64 (QD ((m.defs.take i).all Wl) 1)),(104,.isl (m.defs.map Df.enc)),(105,.int .i64 m.defs.length),(106,.int .i64 i)]) (fun _ g=>h++([.arr 0 2 [m.enc]]++g))
      (fun _ _ o=>∃g,o=(.exit 2,[(1,.ptr h.length 0 2 0 0),(6,.int .i64 (QD ((m.defs.take m.defs.length).all (Ji m)) 13)),(7,.int .i64 (QD ((m.defs.take m.defs.length).all Wl) 1)),(104,.isl (m.defs.map Df.enc)),(105,.int .i64 m.defs.length),(106,.int .i64 m.defs.length)],h++([.arr 0 2 [m.enc]]++g))) ?_ ?_ g0 trivial
 ·obtain⟨o,hl,g,ho⟩:=hlp;refine⟨g,?_⟩
  rw[ho]at hl;simpa[QD]using hl
 ·intro i x r g hd hi hx _ K hK;have hw:=Qd (n:=i+1) (by omega)
  simp at hw;have hmx:x∈m.defs:=by rw[←hx]; exact List.getElem_mem hi
  have htk:m.defs.take (i+1)=m.defs.take i++ [x]:=by rw[List.take_succ_eq_append_getElem hi,hx]
  have hos:=hm.of x hmx;have how:x.of.wid<=67108864:=Nat.le_trans x.of.XF hos;have hon:x.of.nodes<=67108864:=Nat.le_trans (Ty.XN _ x.of (Nat.le_refl _)) hos;have hpl:=hm.params x hmx;rw[htk]at hK;simp only[List.all_append,List.all_cons,List.all_nil,Bool.and_true]at hK;have hne: ∀(a b:Bool) (e:Int),e≠0->XG [QD a e,QD b e]=QD (a&&b) e:=Qdi;have e4:=fun ws h=>Zy m hm x.of how ws h
  have e5:=fun ws h=>QdG x.of how hon ws h
  simp[Md.enc]at e4 e5;generalize hA1:(m.defs.take i).all (Ji m)=A1 at*;generalize hA2:(m.defs.take i).all Wl=A2 at*;have hK':=fun c'=>hK c' trivial
  clear hK;by_cases hp:x.params=[]
  ·have hlD:Ji m x=(beh m 21 x.of).isSome:=by simp[Ji,hp]
   rw[hlD]at hK';generalize (beh m 21 x.of).isSome=B1 at*;simp[-Prod.exists,Wl,Md.enc]at hK';simp[-Prod.exists,Qkx,QvV,Qma,Md.enc,hi,hx,hw,hp,e4,e5,ZW,Yv,Qbf,hne,QS];exact hK' _
  ·have hlD:Ji m x=true:=by simp[Ji,hp]
   have hpz: ¬(x.params.length:Int)=0:=by
    have:=List.length_pos_iff.2 hp;omega
   rw[hlD]at hK';simp[-Prod.exists,Wl,Md.enc]at hK';simp[-Prod.exists,Qkx,QvV,Qma,Md.enc,hi,hx,hw,hp,hpz,e4,e5,ZW,Yv,Qbf,hne,QS];exact hK' _
 ·intro c K _;refine⟨_,?_,c,rfl⟩
  simp[Qkx]
theorem Qoi (m:Md)(hm:m.ok)(hf:m.fm)(hq: ∀d∈m.defs,QT d.of)(h g0:Avm.H): ∃g,Qa (evC (Qb cfg) Qa cfg.pol h.length h.length Qoq) [1,7,142,143,144] [(1,.ptr h.length 0 2 0 0),(7,.int .i64 0),(142,.isl (m.defs.map Df.enc)),(143,.int .i64 m.defs.length),(144,.int .i64 (0:Nat))] (h++([.arr 0 2 [m.enc]]++g0))=some (.exit 4,[(1,.ptr h.length 0 2 0 0),(7,.int .i64 (QD ((m.defs.take m.defs.length).all (WU m)) 1)),(142,.isl (m.defs.map Df.enc)),(143,.int .i64 m.defs.length),(144,.int .i64 m.defs.length)],h++([.arr 0 2 [m.enc]]++g)):=by
 have hl:m.defs.length<=67108864:=hm.len
 have hlp:=Qg (γ:=Avm.H) (f:=evC (Qb cfg) Qa cfg.pol h.length h.length Qoq) (keep:=[1,7,142,143,144]) m.defs
      (fun _ _=>True) (fun i _=>[(1,.ptr h.length 0 2 0 0),(7,.int .i64 (QD ((m.defs.take i).all (WU m)) 1)),(142,.isl (m.defs.map Df.enc)),(143,.int .i64 m.defs.length),(144,.int .i64 i)]) (fun _ g=>h++([.arr 0 2 [m.enc]]++g))
      (fun _ _ o=>∃g,o=(.exit 4,[(1,.ptr h.length 0 2 0 0),(7,.int .i64 (QD ((m.defs.take m.defs.length).all (WU m)) 1)),(142,.isl (m.defs.map Df.enc)),(143,.int .i64 m.defs.length),(144,.int .i64 m.defs.length)],h++([.arr 0 2 [m.enc]]++g))) ?_ ?_ g0 trivial
 ·obtain⟨o,hl,g,ho⟩:=hlp;refine⟨g,?_⟩
  rw[ho]at hl;simpa[QD]using hl
 ·intro i x r g hd hi hx _ K hK;have hw:=Qd (n:=i+1) (by omega)
  simp at hw;have hmx:x∈m.defs:=by rw[←hx]; exact List.getElem_mem hi
  have htk:m.defs.take (i+1)=m.defs.take i++ [x]:=by rw[List.take_succ_eq_append_getElem hi,hx]
  have hos:=hm.of x hmx;have how:x.of.wid<=67108864:=Nat.le_trans x.of.XF hos;have hon:x.of.nodes<=67108864:=Nat.le_trans (Ty.XN _ x.of (Nat.le_refl _)) hos;have hpl:=hm.params x hmx;rw[htk]at hK;simp only[List.all_append,List.all_cons,List.all_nil,Bool.and_true]at hK;have hne: ∀(a b:Bool) (e:Int),e≠0->XG [QD a e,QD b e]=QD (a&&b) e:=Qdi;have e7:=fun ws h c hc=>Qbk m hm hf x.params hpl x.of (hq x hmx) ws h c hc
  simp at e7;generalize hA1:(m.defs.take i).all (WU m)=A1 at*;have hK':=fun c'=>hK c' trivial
  clear hK;simp[-Prod.exists,WU,Md.enc]at hK';simp[-Prod.exists,Qoq,Qyp,Md.enc,hi,hx,hw,e7,ZW,Yv,Qbf,hne,QS];exact hK' _
 ·intro c K _;refine⟨_,?_,c,rfl⟩
  simp[Qoq]
theorem QvS (m:Md)(hm:m.ok)(A B:Bool)(h g:Avm.H)(hf:A=true->B=true->m.fm/\ ∀d∈m.defs,QT d.of): ∃g',evC (Qb cfg) Qa cfg.pol h.length h.length Qop [(1,.ptr h.length 0 2 0 0),(6,.int .i64 (QD A 13)),(7,.int .i64 (QD B 1))] (h++([.arr 0 2 [m.enc]]++g))=some (.ret,[(2,.int .i64 (if A=false then 13 else if B=false then 1 else QD (m.defs.all (WU m)) 1))],h++([.arr 0 2 [m.enc]]++g')):=by
 cases A
 ·simp[-Prod.exists,Qop,Yv,Qbf,XG,QD,QS]
 ·cases B
  ·simp[-Prod.exists,Qop,Yv,Qbf,XG,QD,QS]
  ·obtain⟨h1,h2⟩:=hf rfl rfl;obtain⟨g2,hl⟩:=Qoi m hm h1 h2 h (g++ [.arr 0 1 [.int .i64 0,.int .i64 0]]);refine⟨g2,?_⟩
   simp[Md.enc]at hl;simp[Qop,Md.enc,Yv,Qbf,XG,QD,QS,hl]
def QcF (m:Md):Int:=if 40<m.defs.length then 2 else if m.defs.all YD=false then 2 else if(Xe m.name&&m.defs.all (Qgl m))=false then 6 else if(m.defs.all Qeh&&distinct (m.defs.map Df.name))=false then 7 else if m.defs.all (Ji m)=false then 13 else if m.defs.all Wl=false then 1 else QD (m.defs.all (WU m)) 1
theorem QeT {m:Md}(h:m.defs.all YD=true):m.lim:=fun d hd=>by
 have:=List.all_eq_true.1 h d hd;simp only[YD,Bool.and_eq_true]at this;exact JT this.2
theorem Qge {m:Md}(h:m.defs.all Wl=true):m.fm:=fun d hd=>List.all_eq_true.1 h d hd
theorem Qys {m:Md}(hm:m.ok)(h1:m.defs.all YD=true)(h2:m.defs.all Wl=true): ∀d∈m.defs,QT d.of:=fun d hd=>
 ⟨Nat.le_trans d.of.XF (hm.of d hd),QeT h1 d hd,Qge h2 d hd,hm.of d hd⟩
end Go.Proofs.YtflbneepngjglaaGreatDoor
namespace Go.Proofs.YtflbneepngjglaaGreatDoor
open Go Go.Avm
theorem Quv (m:Md)(hm:m.ok)(h g0:Avm.H): ∃g,Qa (evC (Qb cfg) Qa cfg.pol h.length h.length QdA) [1,3] [(1,.ptr h.length 0 2 0 0),(3,.int .i64 (0:Nat))] (h++([.arr 0 2 [m.enc]]++g0))=some (if m.defs.all YD=true then(.exit 0,[(1,.ptr h.length 0 2 0 0),(3,.int .i64 m.defs.length)],h++([.arr 0 2 [m.enc]]++g))else(.ret,[(2,.int .i64 2)],h++([.arr 0 2 [m.enc]]++g))):=by
 have hl:m.defs.length<=67108864:=hm.len
 have hlp:=Qg (γ:=Avm.H) (f:=evC (Qb cfg) Qa cfg.pol h.length h.length QdA) (keep:=[1,3]) m.defs (fun _ _=>True)
      (fun i _=>[(1,.ptr h.length 0 2 0 0),(3,.int .i64 i)]) (fun _ g=>h++([.arr 0 2 [m.enc]]++g))
      (fun _ r o=>∃g,o=if r.all YD=true then(.exit 0,[(1,.ptr h.length 0 2 0 0),(3,.int .i64 m.defs.length)],h++([.arr 0 2 [m.enc]]++g))else(.ret,[(2,.int .i64 2)],h++([.arr 0 2 [m.enc]]++g))) ?_ ?_ g0 trivial
 ·obtain⟨o,h1,g,h2⟩:=hlp;exact⟨g,h2▸h1⟩
 ·intro i x r g hd hi hx _ K hK;have hw:=Qd (n:=i+1) (by omega)
  simp at hw;have hmx:x∈m.defs:=by rw[←hx]; exact List.getElem_mem hi
  have hos:=hm.of x hmx;have how:x.of.wid<=67108864:=Nat.le_trans x.of.XF hos;have hon:x.of.nodes<=67108864:=Nat.le_trans (Ty.XN _ x.of (Nat.le_refl _)) hos;have hpl:=hm.params x hmx;have e1:=fun ws h=>QhM x.of how hon ws h
  simp at e1
  have hlD:YD x=(decide ((x.params.length:Int)<=20)&&Qbe x.of):=by
   have e:((x.params.length:Int)<=20)=(x.params.length<=20):=propext (by omega)
   unfold YD; simp only[e]
  cases hv:YD x
  ·have hlD':=hlD;rw[hv]at hlD'
   replace hlD':=hlD'.symm
   refine⟨_,?_,g,by simp only[List.all_cons,hv,Bool.false_and,Bool.false_eq_true,if_false]; rfl⟩
   by_cases q:(20:Int)<x.params.length
   ·simp[QdA,Qmj,Md.enc,hi,hx,q]
   ·have hl2:Qbe x.of=false:=by
      have q2:(x.params.length:Int)<=20:=by omega
      simpa[q2]using hlD'
    rw[hl2]at e1;simp[QdA,Qmj,Md.enc,hi,hx,q,e1]
  ·have hlD':=hlD;rw[hv]at hlD'
   replace hlD':=hlD'.symm
   obtain⟨o,h4,g2,h5⟩:=hK (g) trivial;refine⟨o,?_,g2,by simp only[List.all_cons,hv,Bool.true_and]; exact h5⟩
   simp[Md.enc]at h4
   have q2: ¬(20:Int)<x.params.length:=by
    simp at hlD';omega
   have hl2:Qbe x.of=true:=by
    simp at hlD';exact hlD'.2
   rw[hl2]at e1;simp[QdA,Qmj,Md.enc,hi,hx,q2,e1,hw,h4]
 ·intro g K _;refine⟨_,?_,g,by simp only[List.all_nil,if_true]; rfl⟩
  simp[QdA,Md.enc]
theorem Quu (m:Md)(x:Df)(k:Nat)(hp:x.params.length<=67108864)(hz: ∀p∈x.params,p.size<=67108864)(h g0:Avm.H):Qa (evC (Qb cfg) Qa cfg.pol h.length h.length QfD) [1,4,5,6] [(1,.ptr h.length 0 2 0 0),(4,.int .i64 k),(5,.ptr (h.length+(g0.length+1)) 0 10 0 0),(6,.int .i64 (0:Nat))] (h++([.arr 0 2 [m.enc]]++(g0++ [.arr 0 10 [x.enc]])))=some (if x.params.all Xe=true then(.exit 4,[(1,.ptr h.length 0 2 0 0),(4,.int .i64 k),(5,.ptr (h.length+(g0.length+1)) 0 10 0 0),(6,.int .i64 x.params.length)],h++([.arr 0 2 [m.enc]]++(g0++ [.arr 0 10 [x.enc]])))else(.ret,[(2,.int .i64 6)],h++([.arr 0 2 [m.enc]]++(g0++ [.arr 0 10 [x.enc]])))):=by
 have hl:x.params.length<=67108864:=hp
 refine QE (f:=evC (Qb cfg) Qa cfg.pol h.length h.length QfD) (keep:=[1,4,5,6]) x.params (fun i=>[(1,.ptr h.length 0 2 0 0),(4,.int .i64 k),(5,.ptr (h.length+(g0.length+1)) 0 10 0 0),(6,.int .i64 i)]) (fun _=>h++([.arr 0 2 [m.enc]]++(g0++ [.arr 0 10 [x.enc]])))
     (fun i r=>if r.all Xe=true then(.exit 4,[(1,.ptr h.length 0 2 0 0),(4,.int .i64 k),(5,.ptr (h.length+(g0.length+1)) 0 10 0 0),(6,.int .i64 x.params.length)],h++([.arr 0 2 [m.enc]]++(g0++ [.arr 0 10 [x.enc]])))else(.ret,[(2,.int .i64 6)],h++([.arr 0 2 [m.enc]]++(g0++ [.arr 0 10 [x.enc]])))) ?_ ?_
 ·intro i y r hd hi hx K hK;have hw:=Qd (n:=i+1) (by omega)
  simp at hw;have hmy:y∈x.params:=by rw[←hx]; exact List.getElem_mem hi
  have e2:=fun ws h=>Qcd y (hz y hmy) ws h
  rw[List.all_cons];cases q:Xe y
  ·rw[q]at e2;simp[QfD,Md.enc,hi,hx,e2]
  ·rw[q]at e2;simp[Md.enc]at hK;simp[QfD,Md.enc,hi,hx,e2,hw,hK]
 ·intro K;simp[QfD,Md.enc]
def QfU (m:Md)(d:Df):Bool:=Xe d.name&&(d.of.Qz (JI m d.params)&&d.params.all Xe)
theorem Qut (m:Md)(hm:m.ok)(h g0:Avm.H): ∃g,Qa (evC (Qb cfg) Qa cfg.pol h.length h.length QbT) [1,4] [(1,.ptr h.length 0 2 0 0),(4,.int .i64 (0:Nat))] (h++([.arr 0 2 [m.enc]]++g0))=some (if m.defs.all (QfU m)=true then(.exit 2,[(1,.ptr h.length 0 2 0 0),(4,.int .i64 m.defs.length)],h++([.arr 0 2 [m.enc]]++g))else(.ret,[(2,.int .i64 6)],h++([.arr 0 2 [m.enc]]++g))):=by
 have hl:m.defs.length<=67108864:=hm.len
 have hlp:=Qg (γ:=Avm.H) (f:=evC (Qb cfg) Qa cfg.pol h.length h.length QbT) (keep:=[1,4]) m.defs (fun _ _=>True)
      (fun i _=>[(1,.ptr h.length 0 2 0 0),(4,.int .i64 i)]) (fun _ g=>h++([.arr 0 2 [m.enc]]++g))
      (fun _ r o=>∃g,o=if r.all (QfU m)=true then(.exit 2,[(1,.ptr h.length 0 2 0 0),(4,.int .i64 m.defs.length)],h++([.arr 0 2 [m.enc]]++g))else(.ret,[(2,.int .i64 6)],h++([.arr 0 2 [m.enc]]++g))) ?_ ?_ g0 trivial
 ·obtain⟨o,h1,g,h2⟩:=hlp;exact⟨g,h2▸h1⟩
 ·intro i x r g hd hi hx _ K hK;have hw:=Qd (n:=i+1) (by omega)
  simp at hw;have hmx:x∈m.defs:=by rw[←hx]; exact List.getElem_mem hi
  have hos:=hm.of x hmx;have how:x.of.wid<=67108864:=Nat.le_trans x.of.XF hos;have hon:x.of.nodes<=67108864:=Nat.le_trans (Ty.XN _ x.of (Nat.le_refl _)) hos;have hpl:=hm.params x hmx;have e1:=fun ws h=>Qcd x.name (hm.dname x hmx) ws h
  have e2:=fun ws h=>Qno m x.params hm hpl x.of how hon ws h
  have e3:=Quu m x i hpl (hm.pnames x hmx) h g;simp[Md.enc]at e1 e2;cases hv:(QfU m) x
  ·refine⟨_,?_,g++ [.arr 0 10 [x.enc]],by simp only[List.all_cons,hv,Bool.false_and,Bool.false_eq_true,if_false]; rfl⟩
   cases q1:Xe x.name
   ·rw[q1]at e1;simp[QbT,Qiy,Md.enc,hi,hx,e1]
   ·rw[q1]at e1;cases q2:x.of.Qz (JI m x.params)
    ·rw[q2]at e2;simp[QbT,Qiy,Md.enc,hi,hx,e1,e2]
    ·rw[q2]at e2;have q3:x.params.all Xe=false:=by rw[QfU,q1,q2]at hv; simpa only[Bool.true_and]using hv
     rw[q3]at e3;simp[Md.enc]at e3;simp[QbT,Qiy,Md.enc,hi,hx,e1,e2,e3]
  ·obtain⟨o,h4,g2,h5⟩:=hK (g++ [.arr 0 10 [x.enc]]) trivial;refine⟨o,?_,g2,by simp only[List.all_cons,hv,Bool.true_and]; exact h5⟩
   simp[Md.enc]at h4;simp only[QfU,Bool.and_eq_true]at hv;obtain⟨q1,q2,q3⟩:=hv;rw[q1]at e1;rw[q2]at e2;rw[q3]at e3;simp[Md.enc]at e3;simp[QbT,Qiy,Md.enc,hi,hx,e1,e2,e3,hw,h4]
 ·intro g K _;refine⟨_,?_,g,by simp only[List.all_nil,if_true]; rfl⟩
  simp[QbT,Md.enc]
end Go.Proofs.YtflbneepngjglaaGreatDoor
namespace Go.Proofs.YtflbneepngjglaaGreatDoor
open Go Go.Avm
theorem Qus (m:Md)(x:Df)(k:Nat)(hp:x.params.length<=67108864)(h g0:Avm.H):Qa (evC (Qb cfg) Qa cfg.pol h.length h.length QfC) [1,7,8,9] [(1,.ptr h.length 0 2 0 0),(7,.int .i64 k),(8,.ptr (h.length+(g0.length+1)) 0 10 0 0),(9,.int .i64 (0:Nat))] (h++([.arr 0 2 [m.enc]]++(g0++ [.arr 0 10 [x.enc]])))=some (if Qbs [] x.params=true then(.ret,[(2,.int .i64 7)],h++([.arr 0 2 [m.enc]]++(g0++ [.arr 0 10 [x.enc]])))else(.exit 8,[(1,.ptr h.length 0 2 0 0),(7,.int .i64 k),(8,.ptr (h.length+(g0.length+1)) 0 10 0 0),(9,.int .i64 x.params.length)],h++([.arr 0 2 [m.enc]]++(g0++ [.arr 0 10 [x.enc]])))):=by
 have hl:x.params.length<=67108864:=hp
 have hlp:=QE (f:=evC (Qb cfg) Qa cfg.pol h.length h.length QfC) (keep:=[1,7,8,9]) x.params (fun i=>[(1,.ptr h.length 0 2 0 0),(7,.int .i64 k),(8,.ptr (h.length+(g0.length+1)) 0 10 0 0),(9,.int .i64 i)]) (fun _=>h++([.arr 0 2 [m.enc]]++(g0++ [.arr 0 10 [x.enc]])))
      (fun i r=>if Qbs (x.params.take i) r=true then(.ret,[(2,.int .i64 7)],h++([.arr 0 2 [m.enc]]++(g0++ [.arr 0 10 [x.enc]])))else(.exit 8,[(1,.ptr h.length 0 2 0 0),(7,.int .i64 k),(8,.ptr (h.length+(g0.length+1)) 0 10 0 0),(9,.int .i64 x.params.length)],h++([.arr 0 2 [m.enc]]++(g0++ [.arr 0 10 [x.enc]])))) ?_ ?_
 ·exact hlp
 ·intro i y r hd hi hx K hK;have hw:=Qd (n:=i+1) (by omega)
  simp at hw;have hmy:y∈x.params:=by rw[←hx]; exact List.getElem_mem hi
  have e2:=fun ws h=>QpJ (x.params.take i) y (by simp; omega) ws h
  have hmin:min i x.params.length=i:=by omega
  have hle:i<=x.params.length:=by omega
  have hle2:(i:Int)<=x.params.length:=by omega
  have hso:QkW 1 (x.params.map AV.str)=true:=by simp[QkW]
  have htk:x.params.take (i+1)=x.params.take i++ [y]:=by rw[List.take_succ_eq_append_getElem hi,hx]
  rw[htk]at hK;rw[Qbs];unfold inS at e2
  have hany:(x.params.take i).any (fun p=>eqS p y)=(x.params.take i).any (fun p=>eqS y p):=by
   congr 1; funext p; unfold eqS
   by_cases e:y.toList=p.toList
   ·simp[e]
   ·have e2: ¬p.toList=y.toList:=fun q=>e q.symm
    simp[e,e2]
  rw[hany]at e2;simp only[List.map_take]at e2;cases q:(x.params.take i).any fun p=>eqS y p
  ·rw[q]at e2;rw[Bool.false_or];simp[Md.enc]at hK;simp[QfC,Qqh,Md.enc,hi,hx,QdL,hso,e2,hw,hle,hle2,hmin,hK]
  ·rw[q]at e2;simp[QfC,Qqh,Md.enc,hi,hx,QdL,hso,e2,hle,hle2,hmin]
 ·intro K;simp[QfC,Md.enc,Qbs]
def Qgm (m:Md):Nat->List Df->Bool
 | _,[]=>true
 | i,x::r=>(decide (idxOf (isD x.name) m.defs=(i:Int))&&(x.of.Qz Qbg&& !Qbs [] x.params))&&Qgm m (i+1) r
theorem Qur (m:Md)(hm:m.ok)(h g0:Avm.H): ∃g,Qa (evC (Qb cfg) Qa cfg.pol h.length h.length QbS) [1,7] [(1,.ptr h.length 0 2 0 0),(7,.int .i64 (0:Nat))] (h++([.arr 0 2 [m.enc]]++g0))=some (if Qgm m 0 m.defs=true then(.exit 6,[(1,.ptr h.length 0 2 0 0),(7,.int .i64 m.defs.length)],h++([.arr 0 2 [m.enc]]++g))else(.ret,[(2,.int .i64 7)],h++([.arr 0 2 [m.enc]]++g))):=by
 have hl:m.defs.length<=67108864:=hm.len
 have hlp:=Qg (γ:=Avm.H) (f:=evC (Qb cfg) Qa cfg.pol h.length h.length QbS) (keep:=[1,7]) m.defs (fun _ _=>True)
      (fun i _=>[(1,.ptr h.length 0 2 0 0),(7,.int .i64 i)]) (fun _ g=>h++([.arr 0 2 [m.enc]]++g))
      (fun i r o=>∃g,o=if Qgm m i r=true then(.exit 6,[(1,.ptr h.length 0 2 0 0),(7,.int .i64 m.defs.length)],h++([.arr 0 2 [m.enc]]++g))else(.ret,[(2,.int .i64 7)],h++([.arr 0 2 [m.enc]]++g))) ?_ ?_ g0 trivial
 ·obtain⟨o,h1,g,h2⟩:=hlp;exact⟨g,h2▸h1⟩
 ·intro i x r g hd hi hx _ K hK;have hw:=Qd (n:=i+1) (by omega)
  simp at hw;have hmx:x∈m.defs:=by rw[←hx]; exact List.getElem_mem hi
  have hos:=hm.of x hmx;have how:x.of.wid<=67108864:=Nat.le_trans x.of.XF hos;have hon:x.of.nodes<=67108864:=Nat.le_trans (Ty.XN _ x.of (Nat.le_refl _)) hos;have hpl:=hm.params x hmx;have e1:=fun ws h=>QgG m x.name hm.len ws h
  have e2:=fun ws h=>QqL x.of how hon ws h
  have e3:=Qus m x i hpl h g;simp[Md.enc]at e1 e2;by_cases q1:idxOf (isD x.name) m.defs=(i:Int)
  ·cases q2:x.of.Qz Qbg
   ·refine⟨_,?_,g++ [.arr 0 10 [x.enc]],by simp only[Qgm,q2,Bool.false_and,Bool.and_false,Bool.false_eq_true,if_false]; rfl⟩
    rw[q2]at e2;simp[QbS,Qix,Md.enc,hi,hx,e1,e2,q1]
   ·rw[q2]at e2;cases q3:Qbs [] x.params
    ·rw[q3]at e3;simp[Md.enc]at e3;obtain⟨o,h4,g2,h5⟩:=hK (g++ [.arr 0 10 [x.enc]]) trivial;refine⟨o,?_,g2,by simp only[Qgm,q1,q2,q3,decide_true,Bool.not_false,Bool.true_and]; exact h5⟩
     simp[Md.enc]at h4;simp[QbS,Qix,Md.enc,hi,hx,e1,e2,e3,q1,hw,h4]
    ·rw[q3]at e3;simp[Md.enc]at e3;refine⟨_,?_,g++ [.arr 0 10 [x.enc]],by simp only[Qgm,q2,q3,Bool.not_true,Bool.false_and,Bool.and_false,Bool.false_eq_true,if_false]; rfl⟩
     simp[QbS,Qix,Md.enc,hi,hx,e1,e2,e3,q1]
  ·refine⟨_,?_,g++ [.arr 0 10 [x.enc]],by simp only[Qgm,q1,decide_false,Bool.false_and,Bool.false_eq_true,if_false]; rfl⟩
   simp[QbS,Qix,Md.enc,hi,hx,e1,q1]
 ·intro g K _;refine⟨_,?_,g,by simp only[Qgm,if_true]; rfl⟩
  simp[QbS,Md.enc]
theorem QmY (l:List ByteArray):Qbs [] l= !distinct l:=by
 rw[Qlq]; simp
theorem QsI {α:Type}(p:α->Bool)(pre:List α)(x:α)(r:List α)(hx:p x=true):decide (idxOf p (pre++x::r)=(pre.length:Int))= !pre.any p:=by
 unfold idxOf;rw[List.findIdx?_append]
 cases q:pre.findIdx? p with
 | none=>
  rw[List.findIdx?_eq_none_iff]at q
  have:pre.any p=false:=by
   rw[List.any_eq_false];intro y hy; simp[q y hy]
  simp[this,List.findIdx?_cons,hx]
 | some j=>
  rw[List.findIdx?_eq_some_iff_getElem]at q
  obtain⟨hj,h1,_⟩:=q;have:pre.any p=true:=List.any_eq_true.2 ⟨_,List.getElem_mem hj,h1⟩;rw[this,Option.some_or];exact decide_eq_false (by dsimp only; omega)
theorem Qrj (m:Md): ∀(r pre:List Df),m.defs=pre++r->Qgm m pre.length r=(r.all Qeh&& !Qbs (pre.map Df.name) (r.map Df.name))
 | [],_,_=>rfl
 | x::r,pre,h=>by
  have ih:=Qrj m r (pre++ [x]) (by simp[h])
  rw[List.length_append,List.length_singleton]at ih;rw[Qgm,ih,List.all_cons,List.map_cons,Qbs,h,QsI _ _ _ _ (by simp[isD,eqS]),QmY]
  have e1:pre.any (isD x.name)=(pre.map Df.name).any (fun y=>eqS x.name y):=by
   rw[List.any_map]; congr 1; funext y; simp only[isD,Function.comp]; exact QhX _ _
  rw[e1,List.map_append,List.map_cons,List.map_nil];rw[show Qeh x=(distinct x.params&&x.of.Qz Qbg)from rfl];generalize r.all Qeh=Z;cases(pre.map Df.name).any (fun y=>eqS x.name y)<;>cases x.of.Qz Qbg<;>cases distinct x.params<;>cases Z<;>cases Qbs (pre.map Df.name++ [x.name]) (r.map Df.name)<;>rfl
theorem QvF (m:Md):Qgm m 0 m.defs=(m.defs.all Qeh&&distinct (m.defs.map Df.name)):=by
 have:=Qrj m m.defs [] rfl;rw[List.length_nil,List.map_nil,QmY,Bool.not_not]at this;exact this
end Go.Proofs.YtflbneepngjglaaGreatDoor
