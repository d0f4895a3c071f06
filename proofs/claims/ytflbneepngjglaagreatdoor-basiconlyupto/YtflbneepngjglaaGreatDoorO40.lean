/- The document's readings of small things: Count, alone, long, Row, Arcs. -/
import Derived.Test.YtflbneepngjglaaGreatDoorO39
set_option linter.all false
namespace Go.Proofs.YtflbneepngjglaaGreatDoor
open Go Go.Avm
def Ty.strip(t:Ty):Ty:=.mk t.kind t.name t.lo t.hi t.free t.ext (t.items.attach.map fun x=>if t.comp then x.1.QR x.1.of.strip else x.1.QR Ty.zero) (t.kids.attach.map fun x=>x.1.strip)
termination_by t.size
decreasing_by
 ·exact Ty.mem_of x.2
 ·exact Ty.Xa x.2
theorem Ty.Zb(t:Ty):t.strip= .mk t.kind t.name t.lo t.hi t.free t.ext (t.items.map fun x=>if t.comp then x.QR x.of.strip else x.QR Ty.zero) (t.kids.map Ty.strip):=by
 rw[Ty.strip,Yh t.items (fun x=>if t.comp then x.QR x.of.strip else x.QR Ty.zero),Yh t.kids Ty.strip]
theorem QoO :Ty.zero.strip=Ty.zero:=by rw[Ty.Zb]; simp[Ty.zero]
theorem QcX (t:Ty):t.strip.kind=t.kind:=by rw[Ty.Zb]; rfl
theorem QcW (t:Ty):t.strip.name=t.name:=by rw[Ty.Zb]; rfl
theorem Qaw (t:Ty):t.strip.kids=t.kids.map Ty.strip:=by rw[Ty.Zb]; rfl
theorem QrB (ps:List ByteArray)(t:Ty):t.strip.par ps=t.par ps:=by
 unfold Ty.par;rw[QcX,QcW,Qaw];simp only[List.map_eq_nil_iff]
theorem QsJ (args:List Ty)(i:Nat):(args[i]?.getD Ty.zero).strip=(args.map Ty.strip)[i]?.getD Ty.zero:=by
 rw[List.getElem?_map]
 cases args[i]? with
 | none=>exact QoO
 | some a=>rfl
theorem QgK (t:Ty)(x1:ByteArray)(x2 x3:Int)(x4 x5:Bool)(x6:List It)(x7:List Ty):(Ty.mk t.kind x1 x2 x3 x4 x5 x6 x7).comp=t.comp:=rfl
theorem WL (x:It)(t:Ty):(x.QR t).of=t:=rfl
theorem ZR (x:It)(t u:Ty):(x.QR t).QR u=x.QR u:=rfl
theorem Wm (x:It):x.QR x.of=x:=by cases x; rfl
theorem QoP (t:Ty):t.strip.comp=t.comp:=by rw[Ty.Zb]; rfl
theorem QbX (ps:List ByteArray)(args:List Ty): ∀(n:Nat) (t:Ty),t.size<=n->(t.put ps args).strip=(t.strip.put ps (args.map Ty.strip)).strip
 | 0,t,h=>by have:=t.size_pos; omega
 | n+1,t,h=>by
  rw[Ty.put_eq ps args t,Ty.put_eq ps _ t.strip,QrB];cases hp:t.par ps with
  | some i=>
   dsimp only;rw[←QsJ]
   have hidem: ∀(k:Nat) (u:Ty),u.size<=k->u.strip.strip=u.strip:=by
    intro k
    induction k with
    | zero=>intro u hu; have:=u.size_pos; omega
    | succ k ih=>
     intro u hu
     conv=>lhs; rw[Ty.Zb]
     rw[Ty.Zb u];simp only[Ty.QaI,Ty.Zq,Ty.QcK,Ty.QcN,Ty.Ye,Ty.We,Ty.Xl,Ty.ZC,QgK,List.map_map]
     congr 1
     ·refine List.map_congr_left fun x hx=>?_
      by_cases hc:u.comp=true
      ·simp[hc,ZR,WL,ih x.of (by have:=Ty.mem_of hx; omega)]
      ·simp[hc,ZR]
     ·exact List.map_congr_left fun x hx=>ih x (by have:=Ty.Xa hx; omega)
   exact(hidem _ _ (Nat.le_refl _)).symm
  | none=>
   dsimp only;rw[Ty.Zb,Ty.Zb (Ty.mk t.strip.kind _ _ _ _ _ _ _)];rw[Ty.Zb t];simp only[Ty.QaI,Ty.Zq,Ty.QcK,Ty.QcN,Ty.Ye,Ty.We,Ty.Xl,Ty.ZC,QgK,List.map_map]
   congr 1
   ·refine List.map_congr_left fun x hx=>?_
    by_cases hc:t.comp=true
    ·simp[hc,ZR,WL,QbX ps args n x.of (by have:=Ty.mem_of hx; omega)]
    ·simp[hc,ZR]
   ·exact List.map_congr_left fun x hx=>QbX ps args n x (by have:=Ty.Xa hx; omega)
theorem QcV (ps:List ByteArray)(args:List Ty): ∀(n:Nat) (t:Ty),t.size<=n->(t.JN ps args).strip=(t.put ps args).strip
 | 0,t,h=>by have:=t.size_pos; omega
 | n+1,t,h=>by
  rw[Ty.put_eq ps args t,Ty.Qcc ps args t];cases hp:t.par ps with
  | some i=>rfl
  | none=>
   dsimp only;rw[Ty.Zb,Ty.Zb (Ty.mk t.kind _ _ _ _ _ (t.items.map fun x=>x.QR (x.of.put ps args)) _)]
   simp only[Ty.QaI,Ty.Zq,Ty.QcK,Ty.QcN,Ty.Ye,Ty.We,Ty.Xl,Ty.ZC,QgK,List.map_map]
   congr 1
   ·refine List.map_congr_left fun x hx=>?_
    by_cases hc:t.comp=true
    ·simp[hc,ZR,WL,QcV ps args n x.of (by have:=Ty.mem_of hx; omega)]
    ·simp[hc,ZR]
   ·exact List.map_congr_left fun x hx=>QcV ps args n x (by have:=Ty.Xa hx; omega)
theorem QdY (args:List Ty): ∀(n:Nat) (t:Ty),t.size<=n->t.put [] args=t
 | 0,t,h=>by have:=t.size_pos; omega
 | n+1,t,h=>by
  rw[Ty.put_eq];have hp:t.par []=none:=by unfold Ty.par; split<;>rfl
  rw[hp];dsimp only
  have h1:(t.items.map fun x=>x.QR (x.of.put [] args))=t.items:=by
   conv=>rhs; rw[←List.map_id t.items]
   refine List.map_congr_left fun x hx=>?_
   rw[QdY args n x.of (by have:=Ty.mem_of hx; omega),Wm]; rfl
  have h2:(t.kids.map fun x=>x.put [] args)=t.kids:=by
   conv=>rhs; rw[←List.map_id t.kids]
   exact List.map_congr_left fun x hx=>QdY args n x (by have:=Ty.Xa hx; omega)
  rw[h1,h2];cases t; rfl
theorem Qbo : ∀(n:Nat) (t:Ty),t.size<=n->t.strip.nodes=t.nodes
 | 0,t,h=>by have:=t.size_pos; omega
 | n+1,t,h=>by
  rw[Ty.QC,Ty.QC t]
  have hin:t.strip.inner=t.inner.map Ty.strip:=by
   unfold Ty.inner;rw[QoP,Qaw,Ty.Zb t];cases hc:t.comp<;>simp[hc,WL,Function.comp_def]
  rw[hin,List.map_map]
  congr 2
  exact List.map_congr_left fun x hx=>Qbo n x (by have:=Ty.QQ hx; omega)
def QfS (m:Md)(t:Ty):Option Ty:=match m.defs.find? (isD t.name)with
 | none=>none
 | some d=>if d.params.length≠t.kids.length then none else if(d.of.JN d.params t.kids).nodes<=600 then some (d.of.JN d.params t.kids)else none
def WX (m:Md):Nat->Ty->Option Ty
 | 0,t=>if t.kind=10 then none else some t
 | n+1,t=>if t.kind=10 then(QfS m t).bind (WX m n)else some t
def Md.lim(m:Md):Prop:=∀d∈m.defs,d.of.nodes<=600
theorem QtJ (m:Md)(hl:m.lim){t u:Ty}(h:t.strip=u.strip):(Ja m t).map Ty.strip=(QfS m u).map Ty.strip:=by
 have hn:t.name=u.name:=by rw[←QcW t,h,QcW]
 have hk:t.kids.map Ty.strip=u.kids.map Ty.strip:=by rw[←Qaw t,h,Qaw]
 have hkl:t.kids.length=u.kids.length:=by simpa using congrArg List.length hk
 unfold Ja QfS;rw[hn];cases hd:m.defs.find? (isD u.name)with
 | none=>rfl
 | some d=>
  dsimp only;have hdm:=List.mem_of_find?_eq_some hd
  rw[hkl];by_cases q1:d.params.length≠u.kids.length
  ·rw[if_pos q1,if_pos q1]
  ·rw[if_neg q1,if_neg q1]
   have e1:(d.of.JN d.params u.kids).strip=(d.of.put d.params t.kids).strip:=by
    rw[QcV _ _ _ _ (Nat.le_refl _),QbX _ _ _ _ (Nat.le_refl _),←hk,←QbX _ _ _ _ (Nat.le_refl _)]
   have e2:(d.of.JN d.params u.kids).nodes=(d.of.put d.params t.kids).nodes:=by
    rw[←Qbo _ _ (Nat.le_refl _),e1,Qbo _ _ (Nat.le_refl _)]
   by_cases q2:d.params=[]
   ·rw[if_pos q2];rw[q2,QdY _ _ _ (Nat.le_refl _)]at e1 e2;rw[q2,e2,if_pos (hl d hdm)];exact congrArg some e1.symm
   ·rw[if_neg q2,e2];by_cases q3:(d.of.put d.params t.kids).nodes<=600
    ·rw[if_pos q3,if_pos q3]; exact congrArg some e1.symm
    ·rw[if_neg q3,if_neg q3]
theorem Qrr (m:Md)(hl:m.lim): ∀(n:Nat) (t u:Ty),t.strip=u.strip->(beh m (n+1) t).map Ty.strip=(WX m n u).map Ty.strip
 | n,t,u,h=>by
  have hk:t.kind=u.kind:=by rw[←QcX t,h,QcX]
  have hs:=QtJ m hl h;unfold beh;by_cases q:u.kind=10
  ·rw[hk,if_pos q];cases n with
   | zero=>
    unfold WX;rw[if_pos q];cases Ja m t<;>rfl
   | succ n=>
    unfold WX;rw[if_pos q];cases h1:Ja m t with
    | none=>
     rw[h1]at hs;cases h2:QfS m u with
     | none=>rfl
     | some v=>rw[h2]at hs; cases hs
    | some w=>
     rw[h1]at hs;cases h2:QfS m u with
     | none=>rw[h2]at hs; cases hs
     | some v=>
      rw[h2]at hs;exact Qrr m hl n w v (by simpa using hs)
  ·rw[hk,if_neg q];cases n<;>(unfold WX; rw[if_neg q]; exact congrArg some h)
theorem Qqj (m:Md)(hl:m.lim)(n:Nat)(t:Ty):(beh m (n+1) t).isSome=(WX m n t).isSome:=by
 have h:=congrArg Option.isSome (Qrr m hl n t t rfl);simpa using h
end Go.Proofs.YtflbneepngjglaaGreatDoor
namespace Go.Proofs.YtflbneepngjglaaGreatDoor
open Go Go.Avm
theorem Qpc (ps:List ByteArray)(args:List Ty)(t:Ty)(hp:t.par ps=none):(t.JN ps args).inner=t.inner.map fun x=>x.JN ps args:=by
 rw[Ty.Qcc,hp];unfold Ty.inner;simp only[Ty.ZC,Ty.Xl,QgK];by_cases hc:t.comp=true
 ·simp[hc,WL,Function.comp_def]
 ·simp[hc]
theorem Qhp (M:Nat)(hM:1<=M)(ps:List ByteArray)(args:List Ty)(ha: ∀a∈args,a.nodes<=M): ∀(n:Nat) (t:Ty),t.size<=n->(t.JN ps args).nodes<=t.nodes*M
 | 0,t,h=>by have:=t.size_pos; omega
 | n+1,t,h=>by
  cases hp:t.par ps with
  | some i=>
   rw[Ty.Qcc,hp];dsimp only
   have h1:(args[i]?.getD Ty.zero).nodes<=M:=by
    cases hi:args[i]? with
    | none=>have:Ty.zero.nodes=1:=by rw[Ty.QC]; rfl
            simp only[Option.getD_none]; omega
    | some a=>exact ha a (List.mem_of_getElem? hi)
   exact Nat.le_trans h1 (Nat.le_mul_of_pos_left _ t.XS)
  | none=>
   rw[Ty.QC,Qpc ps args t hp,List.map_map,Ty.QC t,Nat.add_mul];have h2:(t.inner.map (Ty.nodes∘fun x=>x.JN ps args)).sum<=(t.inner.map fun x=>x.nodes*M).sum:=QkX t.inner fun x hx=>Qhp M hM ps args ha n x (by have:=Ty.QQ hx; omega)
   have h3: ∀l:List Ty,(l.map fun x=>x.nodes*M).sum=(l.map Ty.nodes).sum*M:=fun l=>by
    induction l with
    | nil=>simp
    | cons x l ih=>simp only[List.map_cons,List.sum_cons,ih,Nat.add_mul]
   rw[h3]at h2;omega
theorem Qho (N:Nat)(ps:List ByteArray)(args:List Ty)(ha: ∀a∈args,a.wid<=N): ∀(n:Nat) (t:Ty),t.size<=n->t.wid<=N->(t.JN ps args).wid<=N
 | 0,t,h,_=>by have:=t.size_pos; omega
 | n+1,t,h,hw=>by
  rw[Ty.Qcc];cases hp:t.par ps with
  | some i=>
   dsimp only;cases hi:args[i]? with
   | none=>simp[Ty.zero,Ty.Xp,It.XV,Ty.XV]; exact Nat.zero_le _
   | some a=>exact ha a (List.mem_of_getElem? hi)
  | none=>
   dsimp only;rw[Ty.Xp]at hw ⊢;simp only[Ty.Zq,Ty.Xl,Ty.ZC,List.length_map]
   have h1:It.XV (t.items.map fun x=>if t.comp then x.QR (x.of.JN ps args)else x)<=N:=It.Qau fun x hx=>by
    obtain⟨y,hy,rfl⟩:=List.mem_map.1 hx;have h2:=Qho N ps args ha n y.of (by have:=Ty.mem_of hy; omega) (by have:=Ty.ZI hy; rw[Ty.Xp t]at this; omega)
    have h3:=Ty.Jf hy;rw[Ty.Xp t]at h3;split
    ·rw[It.Xp]at h3 ⊢;simp only[It.QR,It.Zq,It.Qyg,It.Qrk];omega
    ·omega
   have h2:Ty.XV (t.kids.map fun x=>x.JN ps args)<=N:=Ty.Qau fun x hx=>by
    obtain⟨y,hy,rfl⟩:=List.mem_map.1 hx;exact Qho N ps args ha n y (by have:=Ty.Xa hy; omega) (by have:=Ty.ZT hy; rw[Ty.Xp t]at this; omega)
   omega
theorem QoC {t:Ty}(ps:List ByteArray)(args:List Ty)(h:t.same Ty.zero=true):t.put ps args=t:=by
 rw[Qca]at h;simp only[Bool.and_eq_true,decide_eq_true_eq]at h;obtain⟨h1,h2,h3,h4,h5,h6,h7,h8⟩:=h;have hp:t.par ps=none:=by unfold Ty.par; rw[if_neg]; rw[h1]; rintro⟨e,_⟩; cases e
 have h7':t.items=[]:=by simpa[Ty.i0]using h7
 have h8':t.kids=[]:=by simpa[Ty.k0]using h8
 rw[Ty.put_eq,hp,h7',h8'];cases t;simp only[Ty.Xl,Ty.ZC]at h7' h8';subst h7' h8';rfl
theorem Yj {t:Ty}(h:Qk t=true)(hc: ¬t.comp=true):t.items=[]\/t.items.all JQ=true:=by
 have k: ∀b:Bool,(b&&t.i0)=true->t.items=[]:=fun b hb=>by
  simp only[Bool.and_eq_true,Ty.i0,List.isEmpty_iff]at hb;exact hb.2
 have e0:t.Jy=true->t.items=[]:=fun h=>by
  simp only[Ty.Jy,Ty.i0,Bool.and_eq_true,List.isEmpty_iff]at h; exact h.2.2.2.2.2.1
 unfold Qk at h;unfold Ty.comp at hc;by_cases q0:t.kind=0
 ·rw[if_pos q0]at h; exact .inl (e0 h)
 rw[if_neg q0]at h;by_cases q1:t.kind=1
 ·rw[if_pos q1]at h; exact .inl (e0 h)
 rw[if_neg q1]at h;by_cases q6:t.kind=6
 ·rw[if_pos q6]at h; exact .inl (e0 h)
 rw[if_neg q6]at h;by_cases q11:t.kind=11
 ·rw[if_pos q11]at h; exact .inl (e0 h)
 rw[if_neg q11]at h;by_cases q2:t.kind=2
 ·rw[if_pos q2]at h; refine .inl ?_; simp[Ty.Qby,Ty.i0]at h; simp_all
 rw[if_neg q2]at h;by_cases q3:t.kind=3
 ·rw[if_pos q3]at h; simp only[Bool.and_eq_true]at h; exact .inr h.2.2
 rw[if_neg q3]at h;by_cases q4:t.kind=4
 ·rw[if_pos q4]at h; refine .inl ?_; simp[Ty.Qby,Ty.i0]at h; simp_all
 rw[if_neg q4]at h;by_cases q5:t.kind=5
 ·rw[if_pos q5]at h; refine .inl ?_; simp[Ty.Qby,Ty.i0]at h; simp_all
 rw[if_neg q5]at h;by_cases q7:t.kind=7
 ·rw[if_pos q7]at h; refine .inl ?_; simp[Ty.Qec,Ty.i0]at h; simp_all
 rw[if_neg q7]at h;by_cases q8:t.kind=8
 ·exact absurd (by simp[q8]) hc
 by_cases q9:t.kind=9
 ·exact absurd (by simp[q9]) hc
 rw[if_neg q8,if_neg q9]at h;refine .inl ?_; simp[Ty.oNK,Ty.i0]at h; simp_all
theorem QcZ (ps:List ByteArray)(args:List Ty): ∀(n:Nat) (t:Ty),t.size<=n->t.Qz Qk=true->t.JN ps args=t.put ps args
 | 0,t,h,_=>by have:=t.size_pos; omega
 | n+1,t,h,hr=>by
  rw[Ty.put_eq,Ty.Qcc];cases hp:t.par ps with
  | some i=>rfl
  | none=>
   dsimp only
   congr 1
   ·refine List.map_congr_left fun x hx=>?_
    by_cases hc:t.comp=true
    ·rw[if_pos hc,QcZ ps args n x.of (by have:=Ty.mem_of hx; omega) (Qs hr (by unfold Ty.inner; rw[if_pos hc]; exact List.mem_append_right _ (List.mem_map_of_mem hx)))]
    ·rw[if_neg hc];rcases Yj (QO hr) hc with h0 | h0
     ·rw[h0]at hx; cases hx
     ·have hb:=List.all_eq_true.1 h0 x hx;unfold JQ at hb;rw[Bool.and_eq_true]at hb;rw[QoC ps args hb.1,Wm]
   ·exact List.map_congr_left fun x hx=>QcZ ps args n x (by have:=Ty.Xa hx; omega) (Qs hr (List.mem_append_left _ hx))
theorem step_eq (m:Md)(hl:m.lim)(hf:m.fm)(t:Ty):QfS m t=Ja m t:=by
 unfold Ja QfS;cases hd:m.defs.find? (isD t.name)with
 | none=>rfl
 | some d=>
  dsimp only;have hdm:=List.mem_of_find?_eq_some hd
  rw[QcZ _ _ _ _ (Nat.le_refl _) (hf d hdm)];by_cases q1:d.params.length≠t.kids.length
  ·rw[if_pos q1,if_pos q1]
  ·rw[if_neg q1,if_neg q1];by_cases q2:d.params=[]
   ·rw[if_pos q2,q2,QdY _ _ _ (Nat.le_refl _),if_pos (hl d hdm)]
   ·rw[if_neg q2]
theorem Qwb (m:Md)(hl:m.lim)(hf:m.fm): ∀(n:Nat) (t:Ty),WX m n t=beh m (n+1) t
 | 0,t=>by
  unfold WX beh;cases Ja m t<;>rfl
 | n+1,t=>by
  unfold WX beh;rw[step_eq m hl hf];cases Ja m t with
  | none=>rfl
  | some u=>simp only[Option.bind_some]; rw[Qwb m hl hf n u]
theorem Qvx {α:Type}{p:α->Bool}{l:List α}{j:Nat}(h:l.findIdx? p=some j): ∃d,l[j]? =some d/\l.find? p=some d:=by
 rw[List.findIdx?_eq_some_iff_getElem]at h
 obtain⟨hj,h1,h2⟩:=h;refine⟨l[j],List.getElem?_eq_getElem hj,?_⟩
 rw[List.find?_eq_some_iff_getElem]
 exact⟨h1,j,hj,rfl,fun i hi=>by simpa using h2 i hi⟩
theorem QpN {α:Type}{p:α->Bool}{l:List α}(h:l.findIdx? p=none):l.find? p=none:=by
 rw[List.findIdx?_eq_none_iff]at h
 rw[List.find?_eq_none]
 exact fun x hx=>by simp[h x hx]
def Qwk (m:Md)(h:Avm.H):Option Ty->Ex×Env×Avm.H->Prop
 | some b,o=>∃k:Nat,o=(.exit 0,[(2,.ptr h.length 0 2 0 0),(3,.ptr (h.length+1) 0 8 0 0),(4,.ptr (h.length+2) 0 8 0 0),(6,.int .i64 k)],h++ [.arr 0 2 [m.enc],.arr 0 8 [b.enc],.arr 0 8 [Ty.zero.enc]])
 | none,o=>∃u:Ty,o=(.ret,[(4,.ptr (h.length+2) 0 8 0 0),(5,.bool false)],h++ [.arr 0 2 [m.enc],.arr 0 8 [u.enc],.arr 0 8 [Ty.zero.enc]])
theorem Qlf (m:Md)(h:Avm.H)(u:Ty):Qwk m h none (.ret,[(4,.ptr (h.length+2) 0 8 0 0),(5,.bool false)],h++ [.arr 0 2 [m.enc],.arr 0 8 [u.enc],.arr 0 8 [Ty.zero.enc]]):=⟨u,rfl⟩
theorem QqC (m:Md)(h:Avm.H)(b:Ty)(k:Nat):Qwk m h (some b) (.exit 0,[(2,.ptr h.length 0 2 0 0),(3,.ptr (h.length+1) 0 8 0 0),(4,.ptr (h.length+2) 0 8 0 0),(6,.int .i64 k)],h++ [.arr 0 2 [m.enc],.arr 0 8 [b.enc],.arr 0 8 [Ty.zero.enc]]):=⟨k,rfl⟩
theorem QrS (m:Md)(hm:m.ok)(hl:m.lim)(h:Avm.H): ∀(n k:Nat) (u:Ty),k+n=20->u.wid<=67108864->u.nodes<=600-> ∃o,Qa (evC (Qb cfg) Qa cfg.pol h.length h.length Qel) [2,3,4,6] [(2,.ptr h.length 0 2 0 0),(3,.ptr (h.length+1) 0 8 0 0),(4,.ptr (h.length+2) 0 8 0 0),(6,.int .i64 k)] (h++ [.arr 0 2 [m.enc],.arr 0 8 [u.enc],.arr 0 8 [Ty.zero.enc]])=some o/\Qwk m h (WX m n u) o:=by
 intro n
 induction n with
 | zero=>
  intro k u hk hu hn;have hk':k=20:=by omega
  subst hk';unfold WX;have hfi:=fun ws h=>QgG m u.name hm.len ws h
  simp[Md.enc]at hfi;by_cases q10:u.kind=10
  ·rw[if_pos q10];refine⟨_,QG fun K hK=>?_,Qlf m h u⟩
   simp[Qel,q10,hfi,Md.enc,Ty.zero]
  ·rw[if_neg q10];refine⟨_,QG fun K hK=>?_,QqC m h u 20⟩
   simp[Qel,q10,Md.enc,Ty.zero]
 | succ n ih=>
  intro k u hk hu hn;have hw:=Qd (n:=k+1) (by omega)
  simp at hw;have hk20: ¬(k:Int)=20:=by omega
  have hk20':((k:Int) == 20)=false:=by simpa using hk20
  unfold WX;have hfi:=fun ws h=>QgG m u.name hm.len ws h
  by_cases q10:u.kind=10
  ·rw[if_pos q10];unfold QfS;unfold idxOf at hfi;cases hq:m.defs.findIdx? (isD u.name)with
   | none=>
    rw[QpN hq];rw[hq]at hfi;simp[Md.enc]at hfi;refine⟨_,QG fun K hK=>?_,Qlf m h u⟩
    simp[Qel,q10,hfi,Md.enc,Ty.zero,hk20,hk20']
   | some j=>
    obtain⟨d,hd1,hd2⟩:=Qvx hq;rw[hd2];rw[hq]at hfi;dsimp only;have hj:j<m.defs.length:=(List.getElem?_eq_some_iff.1 hd1).1
    have hdj:m.defs[j]=d:=(List.getElem?_eq_some_iff.1 hd1).2
    have hdm:=List.mem_of_getElem? hd1;simp[Md.enc]at hfi;by_cases hlen:d.params.length≠u.kids.length
    ·rw[if_pos hlen];have hlen': ¬((d.params.length:Nat):Int)=(u.kids.length:Nat):=by omega
     refine⟨_,QG fun K hK=>?_,Qlf m h u⟩
     simp[Qel,q10,hfi,Md.enc,Ty.zero,hk20,hk20',hj,hdj,hlen']
    ·rw[if_neg hlen];have hlen'':d.params.length=u.kids.length:=by omega
     have hdw:d.of.wid<=67108864:=Nat.le_trans d.of.XF (hm.of d hdm);have hput:=fun ws h=>Qle d.params u.kids (hm.params d hdm) hlen'' _ d.of (Nat.le_refl _) hdw ws h
     have hpw:=Qho 67108864 d.params u.kids (fun a ha=>Nat.le_trans (Ty.ZT ha) hu) _ d.of (Nat.le_refl _) hdw
     have hpn:=Qhp 600 (by omega) d.params u.kids (fun a ha=>by have:=Ty.Xx (t:=u) (x:=a) (List.mem_append_left _ ha); omega) _ d.of (Nat.le_refl _)
     have hdn:=hl d hdm;generalize d.of.JN d.params u.kids=p at hput hpw hpn ⊢;have hno:=fun ws h=>QeJ _ p (Nat.le_refl _) hpw (by omega) ws h
     simp[Md.enc]at hput hno;by_cases hle:p.nodes<=600
     ·rw[if_pos hle];simp only[Option.bind_some];obtain⟨o,h4,h5⟩:=ih (k+1) p (by omega) hpw hle
      refine⟨o,QG fun K hK=>?_,h5⟩
      have hle': ¬(600:Int)<p.nodes:=by omega
      simp[Md.enc,Ty.zero]at h4;simp[Qel,q10,hfi,Md.enc,Ty.zero,hk20,hk20',hj,hdj,hlen'',hput,hno,hle',hw];rw[hK];exact h4
     ·rw[if_neg hle];have hle':(600:Int)<p.nodes:=by omega
      refine⟨_,QG fun K hK=>?_,Qlf m h p⟩
      simp[Qel,q10,hfi,Md.enc,Ty.zero,hk20,hk20',hj,hdj,hlen'',hput,hno,hle']
  ·rw[if_neg q10];refine⟨_,QG fun K hK=>?_,QqC m h u k⟩
   simp[Qel,q10,Md.enc,Ty.zero]
theorem QqD (m:Md)(hm:m.ok)(hl:m.lim)(t:Ty)(ht:t.wid<=67108864)(hn:t.nodes<=600)(ws:Nat)(h:Avm.H):Qb cfg ws 77 [m.enc,t.enc] h=some (.tup [((WX m 20 t).getD Ty.zero).enc,.bool (WX m 20 t).isSome],h):=by
 obtain⟨o,hlp,ho⟩:=QrS m hm hl h 20 0 t rfl ht hn;refine Qc rfl rfl ?_
 cases hb:WX m 20 t with
 | none=>
  rw[hb]at ho;obtain⟨u,rfl⟩:=ho;simp[Md.enc,Ty.zero]at hlp;simp[F77,c77,Md.enc,Ty.zero,hlp]
 | some b=>
  rw[hb]at ho;obtain⟨k,rfl⟩:=ho;simp[Md.enc,Ty.zero]at hlp;simp[F77,c77,Md.enc,Ty.zero,hlp]
end Go.Proofs.YtflbneepngjglaaGreatDoor
namespace Go.Proofs.YtflbneepngjglaaGreatDoor
open Go Go.Avm
theorem QjG : ∀(n:Nat) (v:Val),v.size<=n->v.size<=67108864-> ∀ws h,Qb cfg ws 29 [v.enc] h=some (.tup [.int .i64 v.nodes,.int .i64 v.depth],h)
 | 0,v,ht,_,_,_=>by have:=v.size_pos; omega
 | n+1,v,ht,hb,ws,h=>by
  have hlen:=v.Qw;have hnl:=Val.XN _ v (Nat.le_refl _);have hdep:=Val.Qah _ v (Nat.le_refl _);have hd:=v.Zw;have hn:=v.QC;refine Qc rfl rfl ?_
  have hlp:=QE (f:=evC (Qb cfg) Qa cfg.pol h.length h.length Qrp) (keep:=[1,4,5,6]) v.items
   (fun i=>[(1,.ptr h.length 0 4 0 0),(4,.int .i64 ((1+((v.items.take i).map Val.nodes).sum:Nat):Int)),(5,.int .i64 ((Xq ((v.items.take i).map Val.depth):Nat):Int)),(6,.int .i64 i)]) (fun _=>h++ [.arr 0 4 [v.enc]])
   (fun _ _=>(.exit 0,[(1,.ptr h.length 0 4 0 0),(4,.int .i64 (v.nodes:Int)),(5,.int .i64 ((Xq (v.items.map Val.depth):Nat):Int)),(6,.int .i64 v.items.length)],h++ [.arr 0 4 [v.enc]])) ?_ ?_
  ·have hw1:=Qd (n:=Xq (v.items.map Val.depth)+1) (by omega)
   simp[Xq]at hlp;simp at hw1;simp[F29,c29,hlp,hw1];omega
  ·intro i x r hd' hi hx K hK;have hw:=Qd (n:=i+1) (by omega)
   have hm1:x∈v.items:=by rw[←hx]; exact List.getElem_mem hi
   have hsz:=Val.Qu hm1;have htk:v.items.take (i+1)=v.items.take i++ [x]:=by rw[List.take_succ_eq_append_getElem hi,hx]
   have hs2:=Qbn Val.nodes v.items (i+1);rw[htk]at hK hs2;simp only[List.map_append,List.map_cons,List.map_nil,List.sum_append,List.sum_cons,List.sum_nil,Nat.add_zero,Qab]at hK hs2;have hw2:=Qd (n:=1+((v.items.take i).map Val.nodes).sum+x.nodes) (by omega)
   have hmx: ∀a b:Nat,(if a<b then(b:Int)else(a:Int))=((max a b:Nat):Int):=fun a b=>by split<;>omega
   have hcl:=fun h'=>QjG n x (by omega) (by omega) h.length h'
   simp only[Val.ZO]at hcl;rw[←Nat.add_assoc]at hK;have hm2:=hmx (Xq ((v.items.take i).map Val.depth)) x.depth;generalize Xq ((v.items.take i).map Val.depth)=md at hK hm2 ⊢;generalize ((v.items.take i).map Val.nodes).sum=sm at hK hw2 ⊢;generalize x.nodes=xn at hK hw2 hcl ⊢;generalize x.depth=xd at hK hm2 hcl ⊢;generalize max md xd=mm at hK hm2 ⊢;simp at hw hw2 hK;simp[Qrp,hi,hx,hcl,hw,hw2,hm2,hK]
  ·intro K;simp[Qrp];omega
theorem Zm (v:Val)(a b c:Bool)(ws:Nat)(h:Avm.H):Qb cfg ws 220 [v.enc,.bool a,.bool b,.bool c] h=some (.bool (QL a b c v),h):=by
 refine Qc rfl rfl ?_
 cases a<;>cases b<;>cases c
 all_goals simp[QDe,QCm,QL,eqS,Jq,Qnv,tl0]
 all_goals first | done | rfl | (simp only[Bool.and_assoc]) | (simp only[Bool.and_assoc]; rfl) | (congr<;>exact Subsingleton.elim _ _)
theorem Qlz (t:Ty)(n:Int)(ws:Nat)(h:Avm.H):Qb cfg ws 221 [t.enc,.int .i64 n] h=some (.bool (ZB t n (Wt t.kind)),h):=by
 have hlg:=Qdg t.kind;refine Qc rfl rfl ?_
 unfold ZB inP;cases q1:t.free<;>cases q2:t.ext<;>simp[QDd,QCl,q1,q2,hlg]
theorem Quf (s:ByteArray)(bs:List UInt8)(hbs:s.data.toList=bs)(hb:bs.length<=67108864)(h:Avm.H):Qa (evC (Qb cfg) Qa cfg.pol h.length h.length Qdt) [0,3] [(0,.str s),(3,.int .i64 (0:Nat))] h=
    some (if bs.all d01=true then(.exit 0,[(0,.str s),(3,.int .i64 bs.length)],h)else(.ret,[(2,.bool false)],h)):=by
 have hsz:s.size=bs.length:=by rw[←hbs,Array.length_toList]; rfl
 have hby: ∀b:UInt8,((b.toNat:Nat):Int)=byI b:=fun _=>rfl
 refine QE (f:=evC (Qb cfg) Qa cfg.pol h.length h.length Qdt) (keep:=[0,3]) bs (fun i=>[(0,.str s),(3,.int .i64 i)]) (fun _=>h)
  (fun i r=>if r.all d01=true then(.exit 0,[(0,.str s),(3,.int .i64 bs.length)],h)else(.ret,[(2,.bool false)],h)) ?_ ?_
 ·intro i x r hd hi hx K hK;have hw:=Qd (n:=i+1) (by omega)
  simp at hw;have hx? :bs[i]? =some x:=by rw[List.getElem?_eq_getElem hi,hx]
  have hil:(i:Int)<(bs.length:Int):=by omega
  cases hv:d01 x
  ·simp only[List.all_cons,hv,Bool.false_and,Bool.false_eq_true,if_false];unfold d01 at hv;simp at hv;simp[Qdt,hbs,hx?,hx,hsz,hi,hby,hil,hv.1,hv.2]
  ·simp only[List.all_cons,hv,Bool.true_and];simp at hK;unfold d01 at hv;by_cases q1:byI x=48
   ·simp[Qdt,hbs,hx?,hx,hsz,hi,hby,hil,q1,hw,hK]
   ·have q2:byI x=49:=by simpa[q1]using hv
    simp[Qdt,hbs,hx?,hx,hsz,hi,hby,hil,q2,hw,hK]
 ·intro K;simp[Qdt,hsz]
theorem QyC (s:ByteArray)(hs:s.size<=67108864)(ws:Nat)(h:Avm.H):Qb cfg ws 222 [.str s] h=some (.bool (s.data.toList.all d01),h):=by
 have hl:=Quf s _ rfl (by rw[JR]at hs; exact hs) h
 refine Qc rfl rfl ?_
 cases q:s.data.toList.all d01
 ·rw[q]at hl;simp at hl;simp[QAu,QzO,hl]
 ·rw[q]at hl;simp at hl;simp[QAu,QzO,hl]
def Qjk (n:Int):Bool:=inP n 0 1000000000
theorem Qpp (l:List Int)(hl0:l.length<=67108864)(h:Avm.H):Qa (evC (Qb cfg) Qa cfg.pol h.length h.length Qds) [0,3] [(0,.isl (l.map (.int .i64))),(3,.int .i64 (0:Nat))] h=
    some (if l.all Qjk=true then(.exit 0,[(0,.isl (l.map (.int .i64))),(3,.int .i64 l.length)],h)else(.ret,[(2,.bool false)],h)):=by
 refine QE (f:=evC (Qb cfg) Qa cfg.pol h.length h.length Qds) (keep:=[0,3]) l (fun i=>[(0,.isl (l.map (.int .i64))),(3,.int .i64 i)]) (fun _=>h)
  (fun i r=>if r.all Qjk=true then(.exit 0,[(0,.isl (l.map (.int .i64))),(3,.int .i64 l.length)],h)else(.ret,[(2,.bool false)],h)) ?_ ?_
 ·intro i x r hd hi hx K hK;have hw:=Qd (n:=i+1) (by omega)
  simp at hw;cases hv:Qjk x
  ·simp only[List.all_cons,hv,Bool.false_and,Bool.false_eq_true,if_false];by_cases q1:x<0
   ·simp[Qds,hx,hi,q1]
   ·have q2:1000000000<x:=by
      unfold Qjk inP at hv;simp at hv;omega
    simp[Qds,hx,hi,q1,q2]
  ·simp only[List.all_cons,hv,Bool.true_and];simp at hK;unfold Qjk inP at hv;simp at hv;have q1: ¬x<0:=by omega
   have q2: ¬1000000000<x:=by omega
   simp[Qds,hx,hi,q1,q2,hw,hK]
 ·intro K;simp[Qds]
theorem JS : ∀l:List Int,Qv (l.map (.int .i64))=true
 | []=>rfl
 | x::l=>by simpa using JS l
def QfX (l:List Int):Bool:=l.all Qjk&&match l with
 | a::b::r=>decide (r.length<=8)&&(decide (a<=2)&&(decide (a=2)||decide (b<=39)))
 | _=>false
theorem QuE (l:List Int)(hl0:l.length<=67108864)(ws:Nat)(h:Avm.H):Qb cfg ws 223 [.isl (l.map (.int .i64))] h=some (.bool (QfX l),h):=by
 have hl:=Qpp l hl0 h;have hsn:=Qx (h:=h) (n:=7) (JS l);refine Qc rfl rfl ?_
 unfold QfX;cases q:l.all Qjk
 ·rw[q]at hl;simp at hl;simp[QmE,Qot,hsn,hl]
 ·rw[q]at hl;simp at hl
  match l,hl,hsn with
  | [],hl,hsn=>try simp at hl hsn
               simp[QmE,Qot,hsn,hl]
  | [a],hl,hsn=>try simp at hl hsn
                simp[QmE,Qot,hsn,hl]
  | a::b::r,hl,hsn=>
   try simp at hl hsn
   have e2:(2:Int)<=(r.length:Int)+1+1:=by omega
   have e8:((r.length:Int)+1+1<=10)↔r.length<=8:=by omega
   by_cases q1:r.length<=8
   ·by_cases q2:a<=2
    ·by_cases q3:a=2
     ·simp[QmE,Qot,hsn,hl,e2,e8,q1,q3]<;>simp[q3]at hl hsn<;>simp[hl,hsn,e2,e8,q1,q3]
     ·simp[QmE,Qot,hsn,hl,e2,e8,q1,q2,q3]
    ·simp[QmE,Qot,hsn,hl,e2,e8,q1,q2]
   ·simp[QmE,Qot,hsn,hl,e2,e8,q1]
end Go.Proofs.YtflbneepngjglaaGreatDoor
