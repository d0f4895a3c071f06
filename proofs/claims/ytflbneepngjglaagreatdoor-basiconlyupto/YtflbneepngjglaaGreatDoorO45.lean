/- The error of a type in a module. -/
import Derived.Test.YtflbneepngjglaaGreatDoorO44
set_option linter.all false
namespace Go.Proofs.YtflbneepngjglaaGreatDoor
open Go Go.Avm
theorem Quq (m:Md)(hm:m.ok)(hl0:m.lim)(h g0:Avm.H): ∃g,Qa (evC (Qb cfg) Qa cfg.pol h.length h.length Qdz) [1,10] [(1,.ptr h.length 0 2 0 0),(10,.int .i64 (0:Nat))] (h++([.arr 0 2 [m.enc]]++g0))=some (if m.defs.all (Ji m)=true then(.exit 10,[(1,.ptr h.length 0 2 0 0),(10,.int .i64 m.defs.length)],h++([.arr 0 2 [m.enc]]++g))else(.ret,[(2,.int .i64 13)],h++([.arr 0 2 [m.enc]]++g))):=by
 have hl:m.defs.length<=67108864:=hm.len
 have hlp:=Qg (γ:=Avm.H) (f:=evC (Qb cfg) Qa cfg.pol h.length h.length Qdz) (keep:=[1,10]) m.defs (fun _ _=>True)
      (fun i _=>[(1,.ptr h.length 0 2 0 0),(10,.int .i64 i)]) (fun _ g=>h++([.arr 0 2 [m.enc]]++g))
      (fun _ r o=>∃g,o=if r.all (Ji m)=true then(.exit 10,[(1,.ptr h.length 0 2 0 0),(10,.int .i64 m.defs.length)],h++([.arr 0 2 [m.enc]]++g))else(.ret,[(2,.int .i64 13)],h++([.arr 0 2 [m.enc]]++g))) ?_ ?_ g0 trivial
 ·obtain⟨o,h1,g,h2⟩:=hlp;exact⟨g,h2▸h1⟩
 ·intro i x r g hd hi hx _ K hK;have hw:=Qd (n:=i+1) (by omega)
  simp at hw;have hmx:x∈m.defs:=by rw[←hx]; exact List.getElem_mem hi
  have hos:=hm.of x hmx;have how:x.of.wid<=67108864:=Nat.le_trans x.of.XF hos;have hon:x.of.nodes<=67108864:=Nat.le_trans (Ty.XN _ x.of (Nat.le_refl _)) hos;have hpl:=hm.params x hmx;have e1:=fun ws h=>QqD m hm hl0 x.of how (hl0 x hmx) ws h
  simp[Md.enc]at e1;have hlD:Ji m x=(!decide (x.params=[])||(WX m 20 x.of).isSome):=by rw[Ji,Qqj m hl0]
  have hq0:((x.params.length:Int)=0)=(x.params=[]):=propext (by rw[←List.length_eq_zero_iff]; omega)
  cases hv:(Ji m) x
  ·refine⟨_,?_,g++ [.arr 0 8 [((WX m 20 x.of).getD Ty.zero).enc]],by simp only[List.all_cons,hv,Bool.false_and,Bool.false_eq_true,if_false]; rfl⟩
   rw[hlD]at hv
   have q1:x.params=[]:=by
    by_cases q:x.params=[]
    ·exact q
    ·simp[q]at hv
   have q2:(WX m 20 x.of).isSome=false:=by simpa[q1]using hv
   rw[q2]at e1;simp[Qdz,Qmi,Md.enc,hi,hx,e1,q1,q2]
  ·obtain⟨o,h4,g2,h5⟩:=hK (g++ [.arr 0 8 [((WX m 20 x.of).getD Ty.zero).enc]]) trivial;refine⟨o,?_,g2,by simp only[List.all_cons,hv,Bool.true_and]; exact h5⟩
   simp[Md.enc]at h4;rw[hlD]at hv;by_cases q1:x.params=[]
   ·have q2:(WX m 20 x.of).isSome=true:=by simpa[q1]using hv
    rw[q2]at e1;simp[Qdz,Qmi,Md.enc,hi,hx,e1,q1,q2,hw,h4]
   ·have q3: ¬(x.params.length:Int)=0:=by rw[hq0]; exact q1
    simp[Qdz,Qmi,Md.enc,hi,hx,e1,q1,q3,hw,h4]
 ·intro g K _;refine⟨_,?_,g,by simp only[List.all_nil,if_true]; rfl⟩
  simp[Qdz,Md.enc]
theorem Qup (m:Md)(hm:m.ok)(h g0:Avm.H): ∃g,Qa (evC (Qb cfg) Qa cfg.pol h.length h.length QfB) [1,13] [(1,.ptr h.length 0 2 0 0),(13,.int .i64 (0:Nat))] (h++([.arr 0 2 [m.enc]]++g0))=some (if m.defs.all Wl=true then(.exit 12,[(1,.ptr h.length 0 2 0 0),(13,.int .i64 m.defs.length)],h++([.arr 0 2 [m.enc]]++g))else(.ret,[(2,.int .i64 1)],h++([.arr 0 2 [m.enc]]++g))):=by
 have hl:m.defs.length<=67108864:=hm.len
 have hlp:=Qg (γ:=Avm.H) (f:=evC (Qb cfg) Qa cfg.pol h.length h.length QfB) (keep:=[1,13]) m.defs (fun _ _=>True)
      (fun i _=>[(1,.ptr h.length 0 2 0 0),(13,.int .i64 i)]) (fun _ g=>h++([.arr 0 2 [m.enc]]++g))
      (fun _ r o=>∃g,o=if r.all Wl=true then(.exit 12,[(1,.ptr h.length 0 2 0 0),(13,.int .i64 m.defs.length)],h++([.arr 0 2 [m.enc]]++g))else(.ret,[(2,.int .i64 1)],h++([.arr 0 2 [m.enc]]++g))) ?_ ?_ g0 trivial
 ·obtain⟨o,h1,g,h2⟩:=hlp;exact⟨g,h2▸h1⟩
 ·intro i x r g hd hi hx _ K hK;have hw:=Qd (n:=i+1) (by omega)
  simp at hw;have hmx:x∈m.defs:=by rw[←hx]; exact List.getElem_mem hi
  have hos:=hm.of x hmx;have how:x.of.wid<=67108864:=Nat.le_trans x.of.XF hos;have hon:x.of.nodes<=67108864:=Nat.le_trans (Ty.XN _ x.of (Nat.le_refl _)) hos;have hpl:=hm.params x hmx;have e1:=fun ws h=>Qkl x.of how hon ws h
  simp at e1;cases hv:Wl x
  ·refine⟨_,?_,g,by simp only[List.all_cons,hv,Bool.false_and,Bool.false_eq_true,if_false]; rfl⟩
   unfold Wl at hv;rw[hv]at e1;simp[QfB,Qqg,Md.enc,hi,hx,e1]
  ·obtain⟨o,h4,g2,h5⟩:=hK (g) trivial;refine⟨o,?_,g2,by simp only[List.all_cons,hv,Bool.true_and]; exact h5⟩
   simp[Md.enc]at h4;unfold Wl at hv;rw[hv]at e1;simp[QfB,Qqg,Md.enc,hi,hx,e1,hw,h4]
 ·intro g K _;refine⟨_,?_,g,by simp only[List.all_nil,if_true]; rfl⟩
  simp[QfB,Md.enc]
theorem Quo (m:Md)(hm:m.ok)(hl0:m.lim)(hf:m.fm)(hq: ∀d∈m.defs,QT d.of)(h g0:Avm.H): ∃g,Qa (evC (Qb cfg) Qa cfg.pol h.length h.length QfA) [1,14] [(1,.ptr h.length 0 2 0 0),(14,.int .i64 (0:Nat))] (h++([.arr 0 2 [m.enc]]++g0))=some (if m.defs.all (WU m)=true then(.exit 14,[(1,.ptr h.length 0 2 0 0),(14,.int .i64 m.defs.length)],h++([.arr 0 2 [m.enc]]++g))else(.ret,[(2,.int .i64 1)],h++([.arr 0 2 [m.enc]]++g))):=by
 have hl:m.defs.length<=67108864:=hm.len
 have hlp:=Qg (γ:=Avm.H) (f:=evC (Qb cfg) Qa cfg.pol h.length h.length QfA) (keep:=[1,14]) m.defs (fun _ _=>True)
      (fun i _=>[(1,.ptr h.length 0 2 0 0),(14,.int .i64 i)]) (fun _ g=>h++([.arr 0 2 [m.enc]]++g))
      (fun _ r o=>∃g,o=if r.all (WU m)=true then(.exit 14,[(1,.ptr h.length 0 2 0 0),(14,.int .i64 m.defs.length)],h++([.arr 0 2 [m.enc]]++g))else(.ret,[(2,.int .i64 1)],h++([.arr 0 2 [m.enc]]++g))) ?_ ?_ g0 trivial
 ·obtain⟨o,h1,g,h2⟩:=hlp;exact⟨g,h2▸h1⟩
 ·intro i x r g hd hi hx _ K hK;have hw:=Qd (n:=i+1) (by omega)
  simp at hw;have hmx:x∈m.defs:=by rw[←hx]; exact List.getElem_mem hi
  have hos:=hm.of x hmx;have how:x.of.wid<=67108864:=Nat.le_trans x.of.XF hos;have hon:x.of.nodes<=67108864:=Nat.le_trans (Ty.XN _ x.of (Nat.le_refl _)) hos;have hpl:=hm.params x hmx;have e1:=fun ws h=>QmI m hm hl0 hf x.params hpl x.of (hq x hmx) ws h
  simp[Md.enc]at e1;cases hv:(WU m) x
  ·refine⟨_,?_,g,by simp only[List.all_cons,hv,Bool.false_and,Bool.false_eq_true,if_false]; rfl⟩
   unfold WU at hv;rw[hv]at e1;simp[QfA,Qqf,Md.enc,hi,hx,e1]
  ·obtain⟨o,h4,g2,h5⟩:=hK (g) trivial;refine⟨o,?_,g2,by simp only[List.all_cons,hv,Bool.true_and]; exact h5⟩
   simp[Md.enc]at h4;unfold WU at hv;rw[hv]at e1;simp[QfA,Qqf,Md.enc,hi,hx,e1,hw,h4]
 ·intro g K _;refine⟨_,?_,g,by simp only[List.all_nil,if_true]; rfl⟩
  simp[QfA,Md.enc]
end Go.Proofs.YtflbneepngjglaaGreatDoor
namespace Go.Proofs.YtflbneepngjglaaGreatDoor
open Go Go.Avm
theorem QvR (m:Md)(hm:m.ok)(A1 A2 A3:Bool)(h g:Avm.H)(w:AV)(hI:Qy h.length 1 1 g ((m.defs.map Df.name).map .str) w)(hl:A1=true->m.defs.all YD=true): ∃g',evC (Qb cfg) Qa cfg.pol h.length h.length Qik [(1,.ptr h.length 0 2 0 0),(3,.int .i64 (QD A1 2)),(4,.int .i64 (QD A2 6)),(5,.int .i64 (QD A3 7)),(6,.int .i64 0),(7,.int .i64 0),(8,w)] (h++([.arr 0 2 [m.enc]]++g))=some (.ret,[(2,.int .i64 (if A1=false then 2 else if A2=false then 6 else if(A3&&distinct (m.defs.map Df.name))=false then 7 else if m.defs.all (Ji m)=false then 13 else if m.defs.all Wl=false then 1 else QD (m.defs.all (WU m)) 1))],h++([.arr 0 2 [m.enc]]++g')):=by
 have hlen:m.defs.length<=67108864:=hm.len;have e2:=fun ws=>QgX w (m.defs.map Df.name) (by simpa using hlen) ws _ (Qy.els (pre:=[.arr 0 2 [m.enc]]) hI)
 obtain⟨D,hD⟩: ∃D,distinct (m.defs.map Df.name)=D:=⟨_,rfl⟩;rw[hD]at e2 ⊢;simp[Md.enc]at e2;cases A1
 ·simp[-Prod.exists,Qik,Md.enc,e2,ZW,Yv,Qbf,XG,QD,QS]
 ·cases A2
  ·simp[-Prod.exists,Qik,Md.enc,e2,ZW,Yv,Qbf,XG,QD,QS]
  ·cases A3
   ·simp[-Prod.exists,Qik,Md.enc,e2,ZW,Yv,Qbf,XG,QD,QS]
   ·cases D
    ·simp[-Prod.exists,Qik,Md.enc,e2,ZW,Yv,Qbf,XG,QD,QS]
    ·obtain⟨g2,h1⟩:=Qoj m hm h (g++ [.arr 0 1 [.int .i64 0,.int .i64 0,.int .i64 0,.int .i64 0]]);obtain⟨g3,h2⟩:=QvS m hm (m.defs.all (Ji m)) (m.defs.all Wl) h g2 (fun _ q2=>⟨Qge q2,Qys hm (hl rfl) q2⟩)
     refine⟨g3,?_⟩
     rw[List.take_length]at h1;generalize m.defs.all (Ji m)=B1 at*;generalize m.defs.all Wl=B2 at*;generalize m.defs.all (WU m)=B3 at*;simp only[Bool.and_self,Bool.true_eq_false,if_false];rw[←h2];clear h2;simp[Md.enc]at h1;simp[Qik,Md.enc,e2,ZW,Yv,Qbf,XG,QD,QS,h1]
theorem Qoh (m:Md)(hm:m.ok)(ws:Nat)(h:Avm.H):Qb cfg ws 78 [m.enc] h=some (.int .i64 (QcF m),h):=by
 have e1:=fun ws h=>Qef m.name hm.name ws h
 unfold QcF;refine Qc rfl rfl ?_
 by_cases q:40<m.defs.length
 ·have q2:(40:Int)<m.defs.length:=by omega
  simp[F78,c78,Md.enc,q,q2]
 ·have q2: ¬(40:Int)<m.defs.length:=by omega
  obtain⟨w,g,hI,hl⟩:=Qok m hm h;obtain⟨g2,h2⟩:=QvR m hm (m.defs.all YD) (Xe m.name&&m.defs.all (Qgl m)) (m.defs.all Qeh) h g w hI (fun q=>q)
  rw[List.take_length]at hl;generalize m.defs.all YD=A1 at*;generalize m.defs.all (Qgl m)=A2 at*;generalize m.defs.all Qeh=A3 at*;generalize m.defs.all (Ji m)=A4 at*;generalize m.defs.all Wl=A5 at*;generalize m.defs.all (WU m)=A6 at*;generalize distinct (m.defs.map Df.name)=A7 at*;generalize Xe m.name=A0 at*;generalize hR:(if A1=false then 2 else if(A0&&A2)=false then 6 else if(A3&&A7)=false then 7 else if A4=false then 13 else if A5=false then 1 else QD A6 1:Int)=R at*
  simp[Md.enc]at hl h2;simp[F78,c78,Qyo,Md.enc,q,q2,e1,ZW,hl,h2,hR]
end Go.Proofs.YtflbneepngjglaaGreatDoor
namespace Go.Proofs.YtflbneepngjglaaGreatDoor
open Go Go.Avm
theorem Qzn {a b:ByteArray}(h:eqS a b=true):a=b:=by
 unfold eqS at h;have h1:=of_decide_eq_true h;rw[ByteArray.toList_eq,ByteArray.toList_eq]at h1;cases a; cases b;exact congrArg ByteArray.mk (Array.toList_inj.1 h1)
theorem QsH {ps:List ByteArray}{s:ByteArray}(h:ps.all Xe=true)(hi:inS ps s=true):Xe s=true:=by
 unfold inS at hi;obtain⟨p,hp,he⟩:=List.any_eq_true.1 hi;have e:p=s:=Qzn he;rw[←e];exact List.all_eq_true.1 h p hp
theorem Qnz (m:Md)(ps:List ByteArray)(h:ps.all Xe=true)(x:Ty):JI m ps x=Qbz m ps x:=by
 unfold JI Qbz Qum;cases q:inS ps x.name
 ·rfl
 ·rw[QsH h q]; simp
theorem Qug (m:Md)(d:Df):QfU m d=Qgl m d:=by
 unfold QfU Qgl;cases q:d.params.all Xe
 ·simp
 ·rw[QiK (Qnz m d.params q)]; simp
theorem QrX (m:Md)(hm:m.ok)(h g:Avm.H)(hl:m.defs.all YD=true): ∃g',evC (Qb cfg) Qa cfg.pol h.length h.length Qdy [(1,.ptr h.length 0 2 0 0)] (h++([.arr 0 2 [m.enc]]++g))=some (.ret,[(2,.int .i64 (if(m.defs.all Qeh&&distinct (m.defs.map Df.name))=false then 7 else if m.defs.all (Ji m)=false then 13 else if m.defs.all Wl=false then 1 else QD (m.defs.all (WU m)) 1))],h++([.arr 0 2 [m.enc]]++g')):=by
 rw[←QvF];obtain⟨g1,h1⟩:=Qur m hm h g;cases q1:Qgm m 0 m.defs
 ·rw[q1]at h1;simp[Md.enc]at h1;exact⟨g1,by simp[Qdy,Md.enc,h1]⟩
 ·rw[q1]at h1;simp[Md.enc]at h1;obtain⟨g2,h2⟩:=Quq m hm (QeT hl) h g1;cases q2:m.defs.all (Ji m)
  ·rw[q2]at h2;simp[Md.enc]at h2;exact⟨g2,by simp[Qdy,Md.enc,h1,h2]⟩
  ·rw[q2]at h2;simp[Md.enc]at h2;obtain⟨g3,h3⟩:=Qup m hm h g2;cases q3:m.defs.all Wl
   ·rw[q3]at h3;simp[Md.enc]at h3;exact⟨g3,by simp[Qdy,Md.enc,h1,h2,h3]⟩
   ·rw[q3]at h3;simp[Md.enc]at h3;obtain⟨g4,h4⟩:=Quo m hm (QeT hl) (Qge q3) (Qys hm hl q3) h g3;refine⟨g4,?_⟩
    cases q4:m.defs.all (WU m)
    ·rw[q4]at h4;simp[Md.enc]at h4;simp[Qdy,Md.enc,h1,h2,h3,h4,QD]
    ·rw[q4]at h4;simp[Md.enc]at h4;simp[Qdy,Md.enc,h1,h2,h3,h4,QD]
theorem QjH (m:Md)(hm:m.ok)(ws:Nat)(h:Avm.H):Qb cfg ws 102 [m.enc] h=some (.int .i64 (QcF m),h):=by
 have e1:=fun ws h=>Qcd m.name hm.name ws h
 unfold QcF;refine Qc rfl rfl ?_
 by_cases q:40<m.defs.length
 ·have q2:(40:Int)<m.defs.length:=by omega
  simp[Qtw,Qtn,Md.enc,q,q2]
 ·have q2: ¬(40:Int)<m.defs.length:=by omega
  obtain⟨g,hl⟩:=Quv m hm h [];cases q1:m.defs.all YD
  ·rw[q1]at hl;simp[Md.enc]at hl;simp[Qtw,Qtn,Md.enc,q,q2,hl]
  ·rw[q1]at hl;simp[Md.enc]at hl;cases q3:Xe m.name
   ·rw[q3]at e1;simp[Qtw,Qtn,Md.enc,q,q2,hl,e1]
   ·rw[q3]at e1;have hrn:m.defs.all (QfU m)=m.defs.all (Qgl m):=by congr 1; funext d; exact Qug m d
    obtain⟨g2,h2⟩:=Qut m hm h g;rw[hrn]at h2;cases q4:m.defs.all (Qgl m)
    ·rw[q4]at h2;simp[Md.enc]at h2;simp[Qtw,Qtn,Md.enc,q,q2,hl,e1,h2]
    ·rw[q4]at h2;simp[Md.enc]at h2;obtain⟨g3,h3⟩:=QrX m hm h g2 q1;generalize (m.defs.all Qeh&&distinct (m.defs.map Df.name))=A3 at*;generalize m.defs.all (Ji m)=A4 at*;generalize m.defs.all Wl=A5 at*;generalize m.defs.all (WU m)=A6 at*;generalize hR:(if A3=false then 7 else if A4=false then 13 else if A5=false then 1 else QD A6 1:Int)=R at*
     simp[Md.enc]at h3;simp[Qtw,Qtn,Md.enc,q,q2,hl,e1,h2,h3,hR]
theorem Jz {m:Md}(h:QcF m=0):m.defs.all YD=true/\m.defs.all Wl=true:=by
 unfold QcF at h;split at h
 ·cases h
 cases q1:m.defs.all YD
 ·rw[q1]at h; simp at h
 ·refine⟨rfl,?_⟩
  cases q2:m.defs.all Wl
  ·rw[q1,q2]at h;simp only[if_true,Bool.true_eq_false,if_false]at h;split at h
   ·cases h
   split at h
   ·cases h
   split at h
   ·cases h
   ·cases h
  ·rfl
end Go.Proofs.YtflbneepngjglaaGreatDoor
namespace Go.Proofs.YtflbneepngjglaaGreatDoor
open Go Go.Avm
def QeX (m:Md)(t:Ty):Int:=if QcF m=0 then Qjb m t else QcF m
theorem Qaf {m:Md}{t:Ty}(h:Qjb m t=0):Qbe t=true/\t.Qz Qk=true:=by
 unfold Qjb at h;cases q1:Qbe t
 ·rw[q1]at h; simp at h
 ·refine⟨rfl,?_⟩
  cases q2:t.Qz Qk
  ·rw[q1,q2]at h;simp only[Bool.true_eq_false,if_false]at h;split at h
   ·cases h
   split at h
   ·cases h
   split at h
   ·cases h
   ·cases h
  ·rfl
theorem Qtd (m:Md)(hm:m.ok)(t:Ty)(hs:t.size<=67108864)(ws:Nat)(h:Avm.H):Qb cfg ws 47 [m.enc,t.enc] h=some (.int .i64 (QeX m t),h):=by
 unfold QeX;by_cases q:QcF m=0
 ·rw[if_pos q];exact QvP m hm (Qge (Jz q).2) t hs (fun ws h=>q▸Qoh m hm ws h) ws h
 ·rw[if_neg q];exact Qtc m t (QcF m) q (fun ws h=>Qoh m hm ws h) ws h
theorem Qpo (m:Md)(hm:m.ok)(t:Ty)(hs:t.size<=67108864)(ws:Nat)(h:Avm.H):Qb cfg ws 74 [m.enc,t.enc] h=some (.int .i64 (QeX m t),h):=by
 unfold QeX;by_cases q:QcF m=0
 ·rw[if_pos q];exact QrW m hm (QeT (Jz q).1) (Qge (Jz q).2) t hs (fun ws h=>q▸QjH m hm ws h) ws h
 ·rw[if_neg q];exact Qpn m t (QcF m) q (fun ws h=>QjH m hm ws h) ws h
theorem Qcq {m:Md}{t:Ty}(h:QeX m t=0):QcF m=0/\Qjb m t=0:=by
 unfold QeX at h;by_cases q:QcF m=0
 ·rw[if_pos q]at h; exact⟨q,h⟩
 ·rw[if_neg q]at h; exact absurd h q
end Go.Proofs.YtflbneepngjglaaGreatDoor
