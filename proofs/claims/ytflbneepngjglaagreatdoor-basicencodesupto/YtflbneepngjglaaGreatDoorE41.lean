/- The document's readings of small things: Count, alone, long, Row, Arcs. -/
import Derived.Test.YtflbneepngjglaaGreatDoorE40
set_option linter.all false
namespace Go.Proofs.YtflbneepngjglaaGreatDoor
open Go Go.Avm
theorem QpD (ps:List ByteArray)(args:List Ty)(t:Ty)(hp:t.par ps=none):(t.JS ps args).inner=t.inner.map fun x=>x.JS ps args:=by
 rw[Ty.Qcn,hp];unfold Ty.inner;simp only[Ty.ZG,Ty.Xl,Qhm];by_cases hc:t.comp=true
 ·simp[hc,WX,Function.comp_def]
 ·simp[hc]
theorem QhS (M:Nat)(hM:1<=M)(ps:List ByteArray)(args:List Ty)(ha: ∀a∈args,a.nodes<=M): ∀(n:Nat) (t:Ty),t.size<=n->(t.JS ps args).nodes<=t.nodes*M
 | 0,t,h=>by have:=t.size_pos; omega
 | n+1,t,h=>by
  cases hp:t.par ps with
  | some i=>
   rw[Ty.Qcn,hp];dsimp only
   have h1:(args[i]?.getD Ty.zero).nodes<=M:=by
    cases hi:args[i]? with
    | none=>have:Ty.zero.nodes=1:=by rw[Ty.QD]; rfl
            simp only[Option.getD_none]; omega
    | some a=>exact ha a (List.mem_of_getElem? hi)
   exact Nat.le_trans h1 (Nat.le_mul_of_pos_left _ t.XT)
  | none=>
   rw[Ty.QD,QpD ps args t hp,List.map_map,Ty.QD t,Nat.add_mul];have h2:(t.inner.map (Ty.nodes∘fun x=>x.JS ps args)).sum<=(t.inner.map fun x=>x.nodes*M).sum:=Qlw t.inner fun x hx=>QhS M hM ps args ha n x (by have:=Ty.QR hx; omega)
   have h3: ∀l:List Ty,(l.map fun x=>x.nodes*M).sum=(l.map Ty.nodes).sum*M:=fun l=>by
    induction l with
    | nil=>simp
    | cons x l ih=>simp only[List.map_cons,List.sum_cons,ih,Nat.add_mul]
   rw[h3]at h2;omega
theorem QhR (N:Nat)(ps:List ByteArray)(args:List Ty)(ha: ∀a∈args,a.wid<=N): ∀(n:Nat) (t:Ty),t.size<=n->t.wid<=N->(t.JS ps args).wid<=N
 | 0,t,h,_=>by have:=t.size_pos; omega
 | n+1,t,h,hw=>by
  rw[Ty.Qcn];cases hp:t.par ps with
  | some i=>
   dsimp only;cases hi:args[i]? with
   | none=>simp[Ty.zero,Ty.Xo,It.XX,Ty.XX]; exact Nat.zero_le _
   | some a=>exact ha a (List.mem_of_getElem? hi)
  | none=>
   dsimp only;rw[Ty.Xo]at hw ⊢;simp only[Ty.Zs,Ty.Xl,Ty.ZG,List.length_map]
   have h1:It.XX (t.items.map fun x=>if t.comp then x.QU (x.of.JS ps args)else x)<=N:=It.QaE fun x hx=>by
    obtain⟨y,hy,rfl⟩:=List.mem_map.1 hx;have h2:=QhR N ps args ha n y.of (by have:=Ty.mem_of hy; omega) (by have:=Ty.ZL hy; rw[Ty.Xo t]at this; omega)
    have h3:=Ty.Jh hy;rw[Ty.Xo t]at h3;split
    ·rw[It.Xo]at h3 ⊢;simp only[It.QU,It.Zs,It.QyY,It.QrD];omega
    ·omega
   have h2:Ty.XX (t.kids.map fun x=>x.JS ps args)<=N:=Ty.QaE fun x hx=>by
    obtain⟨y,hy,rfl⟩:=List.mem_map.1 hx;exact QhR N ps args ha n y (by have:=Ty.Xa hy; omega) (by have:=Ty.ZX hy; rw[Ty.Xo t]at this; omega)
   omega
theorem QoX {t:Ty}(ps:List ByteArray)(args:List Ty)(h:t.same Ty.zero=true):t.put ps args=t:=by
 rw[Qcl]at h;simp only[Bool.and_eq_true,decide_eq_true_eq]at h;obtain⟨h1,h2,h3,h4,h5,h6,h7,h8⟩:=h;have hp:t.par ps=none:=by unfold Ty.par; rw[if_neg]; rw[h1]; rintro⟨e,_⟩; cases e
 have h7':t.items=[]:=by simpa[Ty.i0]using h7
 have h8':t.kids=[]:=by simpa[Ty.k0]using h8
 rw[Ty.put_eq,hp,h7',h8'];cases t;simp only[Ty.Xl,Ty.ZG]at h7' h8';subst h7' h8';rfl
theorem Yo {t:Ty}(h:Qk t=true)(hc: ¬t.comp=true):t.items=[]\/t.items.all JW=true:=by
 have k: ∀b:Bool,(b&&t.i0)=true->t.items=[]:=fun b hb=>by
  simp only[Bool.and_eq_true,Ty.i0,List.isEmpty_iff]at hb;exact hb.2
 have e0:t.Jz=true->t.items=[]:=fun h=>by
  simp only[Ty.Jz,Ty.i0,Bool.and_eq_true,List.isEmpty_iff]at h; exact h.2.2.2.2.2.1
 unfold Qk at h;unfold Ty.comp at hc;by_cases q0:t.kind=0
 ·rw[if_pos q0]at h; exact .inl (e0 h)
 rw[if_neg q0]at h;by_cases q1:t.kind=1
 ·rw[if_pos q1]at h; exact .inl (e0 h)
 rw[if_neg q1]at h;by_cases q6:t.kind=6
 ·rw[if_pos q6]at h; exact .inl (e0 h)
 rw[if_neg q6]at h;by_cases q11:t.kind=11
 ·rw[if_pos q11]at h; exact .inl (e0 h)
 rw[if_neg q11]at h;by_cases q2:t.kind=2
 ·rw[if_pos q2]at h; refine .inl ?_; simp[Ty.QbK,Ty.i0]at h; simp_all
 rw[if_neg q2]at h;by_cases q3:t.kind=3
 ·rw[if_pos q3]at h; simp only[Bool.and_eq_true]at h; exact .inr h.2.2
 rw[if_neg q3]at h;by_cases q4:t.kind=4
 ·rw[if_pos q4]at h; refine .inl ?_; simp[Ty.QbK,Ty.i0]at h; simp_all
 rw[if_neg q4]at h;by_cases q5:t.kind=5
 ·rw[if_pos q5]at h; refine .inl ?_; simp[Ty.QbK,Ty.i0]at h; simp_all
 rw[if_neg q5]at h;by_cases q7:t.kind=7
 ·rw[if_pos q7]at h; refine .inl ?_; simp[Ty.Qek,Ty.i0]at h; simp_all
 rw[if_neg q7]at h;by_cases q8:t.kind=8
 ·exact absurd (by simp[q8]) hc
 by_cases q9:t.kind=9
 ·exact absurd (by simp[q9]) hc
 rw[if_neg q8,if_neg q9]at h;refine .inl ?_; simp[Ty.oNK,Ty.i0]at h; simp_all
theorem Qdg (ps:List ByteArray)(args:List Ty): ∀(n:Nat) (t:Ty),t.size<=n->t.QH Qk=true->t.JS ps args=t.put ps args
 | 0,t,h,_=>by have:=t.size_pos; omega
 | n+1,t,h,hr=>by
  rw[Ty.put_eq,Ty.Qcn];cases hp:t.par ps with
  | some i=>rfl
  | none=>
   dsimp only
   congr 1
   ·refine List.map_congr_left fun x hx=>?_
    by_cases hc:t.comp=true
    ·rw[if_pos hc,Qdg ps args n x.of (by have:=Ty.mem_of hx; omega) (QC hr (by unfold Ty.inner; rw[if_pos hc]; exact List.mem_append_right _ (List.mem_map_of_mem hx)))]
    ·rw[if_neg hc];rcases Yo (QZ hr) hc with h0 | h0
     ·rw[h0]at hx; cases hx
     ·have hb:=List.all_eq_true.1 h0 x hx;unfold JW at hb;rw[Bool.and_eq_true]at hb;rw[QoX ps args hb.1,Ww]
   ·exact List.map_congr_left fun x hx=>Qdg ps args n x (by have:=Ty.Xa hx; omega) (QC hr (List.mem_append_left _ hx))
theorem step_eq (m:Md)(hl:m.lim)(hf:m.fm)(t:Ty):Qgj m t=Jw m t:=by
 unfold Jw Qgj;cases hd:m.defs.find? (isD t.name)with
 | none=>rfl
 | some d=>
  dsimp only;have hdm:=List.mem_of_find?_eq_some hd
  rw[Qdg _ _ _ _ (Nat.le_refl _) (hf d hdm)];by_cases q1:d.params.length≠t.kids.length
  ·rw[if_pos q1,if_pos q1]
  ·rw[if_neg q1,if_neg q1];by_cases q2:d.params=[]
   ·rw[if_pos q2,q2,Qef _ _ _ (Nat.le_refl _),if_pos (hl d hdm)]
   ·rw[if_neg q2]
theorem Qwz (m:Md)(hl:m.lim)(hf:m.fm): ∀(n:Nat) (t:Ty),Qaf m n t=beh m (n+1) t
 | 0,t=>by
  unfold Qaf beh;cases Jw m t<;>rfl
 | n+1,t=>by
  unfold Qaf beh;rw[step_eq m hl hf];cases Jw m t with
  | none=>rfl
  | some u=>simp only[Option.bind_some]; rw[Qwz m hl hf n u]
theorem QvW {α:Type}{p:α->Bool}{l:List α}{j:Nat}(h:l.findIdx? p=some j): ∃d,l[j]? =some d/\l.find? p=some d:=by
 rw[List.findIdx?_eq_some_iff_getElem]at h
 obtain⟨hj,h1,h2⟩:=h;refine⟨l[j],List.getElem?_eq_getElem hj,?_⟩
 rw[List.find?_eq_some_iff_getElem]
 exact⟨h1,j,hj,rfl,fun i hi=>by simpa using h2 i hi⟩
theorem Qqr {α:Type}{p:α->Bool}{l:List α}(h:l.findIdx? p=none):l.find? p=none:=by
 rw[List.findIdx?_eq_none_iff]at h
 rw[List.find?_eq_none]
 exact fun x hx=>by simp[h x hx]
def QwI (m:Md)(h:Avm.H):Option Ty->Ex×Env×Avm.H->Prop
 | some b,o=>∃k:Nat,o=(.exit 0,[(2,.ptr h.length 0 2 0 0),(3,.ptr (h.length+1) 0 8 0 0),(4,.ptr (h.length+2) 0 8 0 0),(6,.int .i64 k)],h++ [.arr 0 2 [m.enc],.arr 0 8 [b.enc],.arr 0 8 [Ty.zero.enc]])
 | none,o=>∃u:Ty,o=(.ret,[(4,.ptr (h.length+2) 0 8 0 0),(5,.bool false)],h++ [.arr 0 2 [m.enc],.arr 0 8 [u.enc],.arr 0 8 [Ty.zero.enc]])
theorem QlD (m:Md)(h:Avm.H)(u:Ty):QwI m h none (.ret,[(4,.ptr (h.length+2) 0 8 0 0),(5,.bool false)],h++ [.arr 0 2 [m.enc],.arr 0 8 [u.enc],.arr 0 8 [Ty.zero.enc]]):=⟨u,rfl⟩
theorem Qrb (m:Md)(h:Avm.H)(b:Ty)(k:Nat):QwI m h (some b) (.exit 0,[(2,.ptr h.length 0 2 0 0),(3,.ptr (h.length+1) 0 8 0 0),(4,.ptr (h.length+2) 0 8 0 0),(6,.int .i64 k)],h++ [.arr 0 2 [m.enc],.arr 0 8 [b.enc],.arr 0 8 [Ty.zero.enc]]):=⟨k,rfl⟩
theorem Qsr (m:Md)(hm:m.ok)(hl:m.lim)(h:Avm.H): ∀(n k:Nat) (u:Ty),k+n=20->u.wid<=67108864->u.nodes<=600-> ∃o,Qa (evC (Qb cfg) Qa cfg.pol h.length h.length Qex) [2,3,4,6] [(2,.ptr h.length 0 2 0 0),(3,.ptr (h.length+1) 0 8 0 0),(4,.ptr (h.length+2) 0 8 0 0),(6,.int .i64 k)] (h++ [.arr 0 2 [m.enc],.arr 0 8 [u.enc],.arr 0 8 [Ty.zero.enc]])=some o/\QwI m h (Qaf m n u) o:=by
 intro n
 induction n with
 | zero=>
  intro k u hk hu hn;have hk':k=20:=by omega
  subst hk';unfold Qaf;have hfi:=fun ws h=>Qhi m u.name hm.len ws h
  simp[Md.enc]at hfi;by_cases q10:u.kind=10
  ·rw[if_pos q10];refine⟨_,QF fun K hK=>?_,QlD m h u⟩
   simp[Qex,q10,hfi,Md.enc,Ty.zero]
  ·rw[if_neg q10];refine⟨_,QF fun K hK=>?_,Qrb m h u 20⟩
   simp[Qex,q10,Md.enc,Ty.zero]
 | succ n ih=>
  intro k u hk hu hn;have hw:=Qd (n:=k+1) (by omega)
  simp at hw;have hk20: ¬(k:Int)=20:=by omega
  have hk20':((k:Int) == 20)=false:=by simpa using hk20
  unfold Qaf;have hfi:=fun ws h=>Qhi m u.name hm.len ws h
  by_cases q10:u.kind=10
  ·rw[if_pos q10];unfold Qgj;unfold idxOf at hfi;cases hq:m.defs.findIdx? (isD u.name)with
   | none=>
    rw[Qqr hq];rw[hq]at hfi;simp[Md.enc]at hfi;refine⟨_,QF fun K hK=>?_,QlD m h u⟩
    simp[Qex,q10,hfi,Md.enc,Ty.zero,hk20,hk20']
   | some j=>
    obtain⟨d,hd1,hd2⟩:=QvW hq;rw[hd2];rw[hq]at hfi;dsimp only;have hj:j<m.defs.length:=(List.getElem?_eq_some_iff.1 hd1).1
    have hdj:m.defs[j]=d:=(List.getElem?_eq_some_iff.1 hd1).2
    have hdm:=List.mem_of_getElem? hd1;simp[Md.enc]at hfi;by_cases hlen:d.params.length≠u.kids.length
    ·rw[if_pos hlen];have hlen': ¬((d.params.length:Nat):Int)=(u.kids.length:Nat):=by omega
     refine⟨_,QF fun K hK=>?_,QlD m h u⟩
     simp[Qex,q10,hfi,Md.enc,Ty.zero,hk20,hk20',hj,hdj,hlen']
    ·rw[if_neg hlen];have hlen'':d.params.length=u.kids.length:=by omega
     have hdw:d.of.wid<=67108864:=Nat.le_trans d.of.XE (hm.of d hdm);have hput:=fun ws h=>QlC d.params u.kids (hm.params d hdm) hlen'' _ d.of (Nat.le_refl _) hdw ws h
     have hpw:=QhR 67108864 d.params u.kids (fun a ha=>Nat.le_trans (Ty.ZX ha) hu) _ d.of (Nat.le_refl _) hdw
     have hpn:=QhS 600 (by omega) d.params u.kids (fun a ha=>by have:=Ty.Xx (t:=u) (x:=a) (List.mem_append_left _ ha); omega) _ d.of (Nat.le_refl _)
     have hdn:=hl d hdm;generalize d.of.JS d.params u.kids=p at hput hpw hpn ⊢;have hno:=fun ws h=>QeU _ p (Nat.le_refl _) hpw (by omega) ws h
     simp[Md.enc]at hput hno;by_cases hle:p.nodes<=600
     ·rw[if_pos hle];simp only[Option.bind_some];obtain⟨o,h4,h5⟩:=ih (k+1) p (by omega) hpw hle
      refine⟨o,QF fun K hK=>?_,h5⟩
      have hle': ¬(600:Int)<p.nodes:=by omega
      simp[Md.enc,Ty.zero]at h4;simp[Qex,q10,hfi,Md.enc,Ty.zero,hk20,hk20',hj,hdj,hlen'',hput,hno,hle',hw];rw[hK];exact h4
     ·rw[if_neg hle];have hle':(600:Int)<p.nodes:=by omega
      refine⟨_,QF fun K hK=>?_,QlD m h p⟩
      simp[Qex,q10,hfi,Md.enc,Ty.zero,hk20,hk20',hj,hdj,hlen'',hput,hno,hle']
  ·rw[if_neg q10];refine⟨_,QF fun K hK=>?_,Qrb m h u k⟩
   simp[Qex,q10,Md.enc,Ty.zero]
theorem Qrc (m:Md)(hm:m.ok)(hl:m.lim)(t:Ty)(ht:t.wid<=67108864)(hn:t.nodes<=600)(ws:Nat)(h:Avm.H):Qb cfg ws 77 [m.enc,t.enc] h=some (.tup [((Qaf m 20 t).getD Ty.zero).enc,.bool (Qaf m 20 t).isSome],h):=by
 obtain⟨o,hlp,ho⟩:=Qsr m hm hl h 20 0 t rfl ht hn;refine Qc rfl rfl ?_
 cases hb:Qaf m 20 t with
 | none=>
  rw[hb]at ho;obtain⟨u,rfl⟩:=ho;simp[Md.enc,Ty.zero]at hlp;simp[F77,c77,Md.enc,Ty.zero,hlp]
 | some b=>
  rw[hb]at ho;obtain⟨k,rfl⟩:=ho;simp[Md.enc,Ty.zero]at hlp;simp[F77,c77,Md.enc,Ty.zero,hlp]
end Go.Proofs.YtflbneepngjglaaGreatDoor
namespace Go.Proofs.YtflbneepngjglaaGreatDoor
open Go Go.Avm
theorem Qkl : ∀(n:Nat) (v:Val),v.size<=n->v.size<=67108864-> ∀ws h,Qb cfg ws 29 [v.enc] h=some (.tup [.int .i64 v.nodes,.int .i64 v.depth],h)
 | 0,v,ht,_,_,_=>by have:=v.size_pos; omega
 | n+1,v,ht,hb,ws,h=>by
  have hlen:=v.Qv;have hnl:=Val.XO _ v (Nat.le_refl _);have hdep:=Val.Qaq _ v (Nat.le_refl _);have hd:=v.Zx;have hn:=v.QD;refine Qc rfl rfl ?_
  have hlp:=QE (f:=evC (Qb cfg) Qa cfg.pol h.length h.length QrH) (keep:=[1,4,5,6]) v.items
   (fun i=>[(1,.ptr h.length 0 4 0 0),(4,.int .i64 ((1+((v.items.take i).map Val.nodes).sum:Nat):Int)),(5,.int .i64 ((Xq ((v.items.take i).map Val.depth):Nat):Int)),(6,.int .i64 i)]) (fun _=>h++ [.arr 0 4 [v.enc]])
   (fun _ _=>(.exit 0,[(1,.ptr h.length 0 4 0 0),(4,.int .i64 (v.nodes:Int)),(5,.int .i64 ((Xq (v.items.map Val.depth):Nat):Int)),(6,.int .i64 v.items.length)],h++ [.arr 0 4 [v.enc]])) ?_ ?_
  ·have hw1:=Qd (n:=Xq (v.items.map Val.depth)+1) (by omega)
   simp[Xq]at hlp;simp at hw1;simp[F29,c29,hlp,hw1];omega
  ·intro i x r hd' hi hx K hK;have hw:=Qd (n:=i+1) (by omega)
   have hm1:x∈v.items:=by rw[←hx]; exact List.getElem_mem hi
   have hsz:=Val.Qu hm1;have htk:v.items.take (i+1)=v.items.take i++ [x]:=by rw[List.take_succ_eq_append_getElem hi,hx]
   have hs2:=Qby Val.nodes v.items (i+1);rw[htk]at hK hs2;simp only[List.map_append,List.map_cons,List.map_nil,List.sum_append,List.sum_cons,List.sum_nil,Nat.add_zero,Qak]at hK hs2;have hw2:=Qd (n:=1+((v.items.take i).map Val.nodes).sum+x.nodes) (by omega)
   have hmx: ∀a b:Nat,(if a<b then(b:Int)else(a:Int))=((max a b:Nat):Int):=fun a b=>by split<;>omega
   have hcl:=fun h'=>Qkl n x (by omega) (by omega) h.length h'
   simp only[Val.ZS]at hcl;rw[←Nat.add_assoc]at hK;have hm2:=hmx (Xq ((v.items.take i).map Val.depth)) x.depth;generalize Xq ((v.items.take i).map Val.depth)=md at hK hm2 ⊢;generalize ((v.items.take i).map Val.nodes).sum=sm at hK hw2 ⊢;generalize x.nodes=xn at hK hw2 hcl ⊢;generalize x.depth=xd at hK hm2 hcl ⊢;generalize max md xd=mm at hK hm2 ⊢;simp at hw hw2 hK;simp[QrH,hi,hx,hcl,hw,hw2,hm2,hK]
  ·intro K;simp[QrH];omega
theorem Zp (v:Val)(a b c:Bool)(ws:Nat)(h:Avm.H):Qb cfg ws 220 [v.enc,.bool a,.bool b,.bool c] h=some (.bool (QM a b c v),h):=by
 refine Qc rfl rfl ?_
 cases a<;>cases b<;>cases c
 all_goals simp[QEg,QDg,QM,eqS,Js,QnO,tl0]
 all_goals first | done | rfl | (simp only[Bool.and_assoc]) | (simp only[Bool.and_assoc]; rfl) | (congr<;>exact Subsingleton.elim _ _)
theorem QlV (t:Ty)(n:Int)(ws:Nat)(h:Avm.H):Qb cfg ws 221 [t.enc,.int .i64 n] h=some (.bool (ZE t n (WD t.kind)),h):=by
 have hlg:=Qdn t.kind;refine Qc rfl rfl ?_
 unfold ZE inP;cases q1:t.free<;>cases q2:t.ext<;>simp[QEf,QDf,q1,q2,hlg]
theorem QuG (s:ByteArray)(bs:List UInt8)(hbs:s.data.toList=bs)(hb:bs.length<=67108864)(h:Avm.H):Qa (evC (Qb cfg) Qa cfg.pol h.length h.length Qdz) [0,3] [(0,.str s),(3,.int .i64 (0:Nat))] h=
    some (if bs.all d01=true then(.exit 0,[(0,.str s),(3,.int .i64 bs.length)],h)else(.ret,[(2,.bool false)],h)):=by
 have hsz:s.size=bs.length:=by rw[←hbs,Array.length_toList]; rfl
 have hby: ∀b:UInt8,((b.toNat:Nat):Int)=byI b:=fun _=>rfl
 refine QE (f:=evC (Qb cfg) Qa cfg.pol h.length h.length Qdz) (keep:=[0,3]) bs (fun i=>[(0,.str s),(3,.int .i64 i)]) (fun _=>h)
  (fun i r=>if r.all d01=true then(.exit 0,[(0,.str s),(3,.int .i64 bs.length)],h)else(.ret,[(2,.bool false)],h)) ?_ ?_
 ·intro i x r hd hi hx K hK;have hw:=Qd (n:=i+1) (by omega)
  simp at hw;have hx? :bs[i]? =some x:=by rw[List.getElem?_eq_getElem hi,hx]
  have hil:(i:Int)<(bs.length:Int):=by omega
  cases hv:d01 x
  ·simp only[List.all_cons,hv,Bool.false_and,Bool.false_eq_true,if_false];unfold d01 at hv;simp at hv;simp[Qdz,hbs,hx?,hx,hsz,hi,hby,hil,hv.1,hv.2]
  ·simp only[List.all_cons,hv,Bool.true_and];simp at hK;unfold d01 at hv;by_cases q1:byI x=48
   ·simp[Qdz,hbs,hx?,hx,hsz,hi,hby,hil,q1,hw,hK]
   ·have q2:byI x=49:=by simpa[q1]using hv
    simp[Qdz,hbs,hx?,hx,hsz,hi,hby,hil,q2,hw,hK]
 ·intro K;simp[Qdz,hsz]
theorem Qzy (s:ByteArray)(hs:s.size<=67108864)(ws:Nat)(h:Avm.H):Qb cfg ws 222 [.str s] h=some (.bool (s.data.toList.all d01),h):=by
 have hl:=QuG s _ rfl (by rw[JX]at hs; exact hs) h
 refine Qc rfl rfl ?_
 cases q:s.data.toList.all d01
 ·rw[q]at hl;simp at hl;simp[QBo,QAM,hl]
 ·rw[q]at hl;simp at hl;simp[QBo,QAM,hl]
def QjO (n:Int):Bool:=inP n 0 1000000000
theorem QpS (l:List Int)(hl0:l.length<=67108864)(h:Avm.H):Qa (evC (Qb cfg) Qa cfg.pol h.length h.length Qdy) [0,3] [(0,.isl (l.map (.int .i64))),(3,.int .i64 (0:Nat))] h=
    some (if l.all QjO=true then(.exit 0,[(0,.isl (l.map (.int .i64))),(3,.int .i64 l.length)],h)else(.ret,[(2,.bool false)],h)):=by
 refine QE (f:=evC (Qb cfg) Qa cfg.pol h.length h.length Qdy) (keep:=[0,3]) l (fun i=>[(0,.isl (l.map (.int .i64))),(3,.int .i64 i)]) (fun _=>h)
  (fun i r=>if r.all QjO=true then(.exit 0,[(0,.isl (l.map (.int .i64))),(3,.int .i64 l.length)],h)else(.ret,[(2,.bool false)],h)) ?_ ?_
 ·intro i x r hd hi hx K hK;have hw:=Qd (n:=i+1) (by omega)
  simp at hw;cases hv:QjO x
  ·simp only[List.all_cons,hv,Bool.false_and,Bool.false_eq_true,if_false];by_cases q1:x<0
   ·simp[Qdy,hx,hi,q1]
   ·have q2:1000000000<x:=by
      unfold QjO inP at hv;simp at hv;omega
    simp[Qdy,hx,hi,q1,q2]
  ·simp only[List.all_cons,hv,Bool.true_and];simp at hK;unfold QjO inP at hv;simp at hv;have q1: ¬x<0:=by omega
   have q2: ¬1000000000<x:=by omega
   simp[Qdy,hx,hi,q1,q2,hw,hK]
 ·intro K;simp[Qdy]
theorem JY : ∀l:List Int,Qw (l.map (.int .i64))=true
 | []=>rfl
 | x::l=>by simpa using JY l
def Qgo (l:List Int):Bool:=l.all QjO&&match l with
 | a::b::r=>decide (r.length<=8)&&(decide (a<=2)&&(decide (a=2)||decide (b<=39)))
 | _=>false
theorem Qvf (l:List Int)(hl0:l.length<=67108864)(ws:Nat)(h:Avm.H):Qb cfg ws 223 [.isl (l.map (.int .i64))] h=some (.bool (Qgo l),h):=by
 have hl:=QpS l hl0 h;have hsn:=Qz (h:=h) (n:=7) (JY l);refine Qc rfl rfl ?_
 unfold Qgo;cases q:l.all QjO
 ·rw[q]at hl;simp at hl;simp[QmY,QoO,hsn,hl]
 ·rw[q]at hl;simp at hl
  match l,hl,hsn with
  | [],hl,hsn=>try simp at hl hsn
               simp[QmY,QoO,hsn,hl]
  | [a],hl,hsn=>try simp at hl hsn
                simp[QmY,QoO,hsn,hl]
  | a::b::r,hl,hsn=>
   try simp at hl hsn
   have e2:(2:Int)<=(r.length:Int)+1+1:=by omega
   have e8:((r.length:Int)+1+1<=10)↔r.length<=8:=by omega
   by_cases q1:r.length<=8
   ·by_cases q2:a<=2
    ·by_cases q3:a=2
     ·simp[QmY,QoO,hsn,hl,e2,e8,q1,q3]<;>simp[q3]at hl hsn<;>simp[hl,hsn,e2,e8,q1,q3]
     ·simp[QmY,QoO,hsn,hl,e2,e8,q1,q2,q3]
    ·simp[QmY,QoO,hsn,hl,e2,e8,q1,q2]
   ·simp[QmY,QoO,hsn,hl,e2,e8,q1]
end Go.Proofs.YtflbneepngjglaaGreatDoor
