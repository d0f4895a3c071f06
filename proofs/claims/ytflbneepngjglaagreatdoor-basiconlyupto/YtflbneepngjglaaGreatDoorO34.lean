/- Fields of kinds: both ways are one. -/
import Derived.Test.YtflbneepngjglaaGreatDoorO33
set_option linter.all false
namespace Go.Proofs.YtflbneepngjglaaGreatDoor
open Go Go.Avm
theorem QaA (t:Ty)(a b:Int)(ws:Nat)(h:Avm.H):Qb cfg ws 258 [t.enc,.int .i64 a,.int .i64 b] h=some (.bool (XI t a b),h):=by
 refine Qc rfl rfl ?_
 cases hf:t.free<;>simp[QCV,QCd,hf,XI,Bool.and_assoc]
def Wt (k:Int):Int:=if k=5 then 32000 else if k=7 then 200 else 4000
theorem Qdg (k:Int)(ws:Nat)(h:Avm.H):Qb cfg ws 259 [.int .i64 k] h=some (.int .i64 (Wt k),h):=by
 refine Qc rfl rfl ?_
 unfold Wt;by_cases q5:k=5
 ·simp[QAs,QzJ,q5]
 ·by_cases q7:k=7<;>simp[QAs,QzJ,q5,q7]
theorem Qca (t:Ty):t.same Ty.zero=(decide (t.kind=0)&&(t.n0&&(t.l0&&(t.h0&&(!t.free&&(!t.ext&&(t.i0&&t.k0))))))):=by
 by_cases q:t.kind=0
 ·rw[decide_eq_true q,Bool.true_and]; exact YI t 0 q
 ·rw[Ty.Xu]; simp[Ty.zero,q]
theorem Jq {α:Type}(l:List α) [Decidable (l=[])]:decide (l=[])=l.isEmpty:=by cases l<;>simp
theorem Qnv {α:Type}(l:List α):((l.length:Int) == 0)=l.isEmpty:=by rw[QiE]; cases l<;>simp
theorem QuD (t:Ty)(ws:Nat)(h:Avm.H):Qb cfg ws 261 [t.enc] h=some (.bool (t.same Ty.zero),h):=by
 rw[Qca];refine Qc rfl rfl ?_
 simp[QCU,QCc,Ty.n0,Ty.l0,Ty.h0,Ty.i0,Ty.k0,eqS,Jq,Qnv,Bool.and_assoc]
def mono :Bool->List It->Bool
 | _,[]=>true
 | e,x::r=>!(e&& !x.extra)&&mono x.extra r
def Wu :Bool->List It->Bool
 | e,[]=>e
 | _,x::r=>Wu x.extra r
def QjK (l:List It):Nat->Bool
 | 0=>false
 | j+1=>match l[j]? with | some x=>x.extra | none=>false
def Qgd :List It->Bool
 | []=>false
 | x::_=>!x.extra
def QbA (t:Ty)(ls:Bool):Bool:=mono false t.items&&((!Wu false t.items||t.ext)&&(!ls||Qgd t.items))
theorem Qnr (t:Ty)(ht:t.wid<=67108864)(ls:Bool)(h:Avm.H):Qa (evC (Qb cfg) Qa cfg.pol h.length h.length QbO) [1,2,5,6] [(1,.bool ls),(2,.ptr h.length 0 8 0 0),(5,.bool false),(6,.int .i64 (0:Nat))] (h++ [.arr 0 8 [t.enc]])=
    some (if mono false t.items=true then(.exit 0,[(1,.bool ls),(2,.ptr h.length 0 8 0 0),(5,.bool (Wu false t.items)),(6,.int .i64 t.items.length)],h++ [.arr 0 8 [t.enc]])else(.ret,[(4,.bool false)],h++ [.arr 0 8 [t.enc]])):=by
 have hwi:=t.Qe
 have hl:=QE (f:=evC (Qb cfg) Qa cfg.pol h.length h.length QbO) (keep:=[1,2,5,6]) t.items (fun i=>[(1,.bool ls),(2,.ptr h.length 0 8 0 0),(5,.bool (QjK t.items i)),(6,.int .i64 i)]) (fun _=>h++ [.arr 0 8 [t.enc]])
  (fun i r=>if mono (QjK t.items i) r=true then(.exit 0,[(1,.bool ls),(2,.ptr h.length 0 8 0 0),(5,.bool (Wu (QjK t.items i) r)),(6,.int .i64 t.items.length)],h++ [.arr 0 8 [t.enc]])else(.ret,[(4,.bool false)],h++ [.arr 0 8 [t.enc]])) ?_ ?_
 ·exact hl
 ·intro i x r hd hi hx K hK;have hw:=Qd (n:=i+1) (by omega)
  simp at hw;have hpn:QjK t.items (i+1)=x.extra:=by simp[QjK,hi,hx]
  rw[hpn]at hK;rw[mono,Wu];cases QjK t.items i<;>cases q2:x.extra
  ·rw[q2]at hK; simp at hK; simp[QbO,hi,hx,q2,hw,hK]
  ·rw[q2]at hK; simp at hK; simp[QbO,hi,hx,q2,hw,hK]
  ·simp[QbO,hi,hx,q2]
  ·rw[q2]at hK; simp at hK; simp[QbO,hi,hx,q2,hw,hK]
 ·intro K;simp[QbO,mono,Wu]
theorem QeP (t:Ty)(ht:t.wid<=67108864)(ls:Bool)(ws:Nat)(h:Avm.H):Qb cfg ws 260 [t.enc,.bool ls] h=some (.bool (QbA t ls),h):=by
 have hl:=Qnr t ht ls h;refine Qc rfl rfl ?_
 unfold QbA;cases q1:mono false t.items<;>rw[q1]at hl
 ·simp at hl;simp[QxX,QxI,hl]
 ·generalize Wu false t.items=la at hl;cases q2:t.items with
  | nil=>
   simp[q2]at hl;cases la<;>cases q3:t.ext<;>simp[q3]at hl<;>cases ls<;>simp[QxX,QxI,hl,q2,q3,Qgd]
  | cons x r=>
   simp[q2]at hl;cases la<;>cases q3:t.ext<;>simp[q3]at hl<;>cases ls<;>simp[QxX,QxI,hl,q2,q3,Qgd]
theorem QfR (t:Ty)(ht:t.wid<=67108864)(h:Avm.H): ∃g,Qa (evC (Qb cfg) Qa cfg.pol h.length h.length Qfj) [1,7] [(1,.ptr h.length 0 8 0 0),(7,.int .i64 (0:Nat))] (h++([.arr 0 8 [t.enc]]++ []))=some (if(t.items).all (fun x=>XM x&&(!decide (t.kind=3)||x.of.same Ty.zero))=true then(.exit 1,[(1,.ptr h.length 0 8 0 0),(7,.int .i64 (t.items).length)],h++([.arr 0 8 [t.enc]]++g))else(.ret,[(2,.bool false)],h++([.arr 0 8 [t.enc]]++g))):=by
 have hl:(t.items).length<=67108864:=Nat.le_trans t.Qe ht
 have hlp:=Qg (γ:=Avm.H) (f:=evC (Qb cfg) Qa cfg.pol h.length h.length Qfj) (keep:=[1,7]) (t.items) (fun _ _=>True)
      (fun i _=>[(1,.ptr h.length 0 8 0 0),(7,.int .i64 i)]) (fun _ g=>h++([.arr 0 8 [t.enc]]++g))
      (fun _ r o=>∃g,o=if r.all (fun x=>XM x&&(!decide (t.kind=3)||x.of.same Ty.zero))=true then(.exit 1,[(1,.ptr h.length 0 8 0 0),(7,.int .i64 (t.items).length)],h++([.arr 0 8 [t.enc]]++g))else(.ret,[(2,.bool false)],h++([.arr 0 8 [t.enc]]++g))) ?_ ?_ [] trivial
 ·obtain⟨o,h1,g,h2⟩:=hlp;exact⟨g,h2▸h1⟩
 ·intro i x r g hd hi hx _ K hK;have hw:=Qd (n:=i+1) (by omega)
  simp at hw;have hm:x∈(t.items):=by rw[←hx]; exact List.getElem_mem hi
  have hb:=QuD x.of;simp at hb;cases hv:(fun x=>XM x&&(!decide (t.kind=3)||x.of.same Ty.zero)) x
  ·refine⟨_,?_,(g++ [.arr 0 12 [x.enc]]),by simp only[List.all_cons,hv,Bool.false_and,Bool.false_eq_true,if_false]; rfl⟩
   cases q1:x.opt<;>cases q2:x.QA.isEmpty<;>by_cases q3:t.kind=3<;>cases q4:x.of.same Ty.zero<;>simp[XM,q1,q2,q3,q4]at hv<;>simp[Qfj,hi,hx,hb,QP,q1,q2,q3,q4]
  ·obtain⟨o,h4,g2,h5⟩:=hK (g++ [.arr 0 12 [x.enc]]) trivial;refine⟨o,?_,g2,by simp only[List.all_cons,hv,Bool.true_and]; exact h5⟩
   simp at h4;cases q1:x.opt<;>cases q2:x.QA.isEmpty<;>by_cases q3:t.kind=3<;>cases q4:x.of.same Ty.zero<;>simp[XM,q1,q2,q3,q4]at hv<;>(try simp only[q3]at h4)<;>(try simp only[q1]at h4)<;>simp[Qfj,hi,hx,hb,QP,q1,q2,q3,q4,hw,h4]
 ·intro g K _;refine⟨_,?_,g,by simp only[List.all_nil,if_true]; rfl⟩
  simp[Qfj]
theorem QtY (t:Ty)(ht:t.wid<=67108864)(q:t.kind=0)(ws:Nat)(h:Avm.H):Qb cfg ws 218 [t.enc] h=some (.bool (t.n0&&(t.i0&&(t.k0&&(t.l0&&(t.h0&&(!t.free&& !t.ext)))))),h):=by
 have hwi:=t.Qe;have beq1:(((t.kids.length:Nat):Int) == 1)=decide (t.kids.length=1):=Xb _ 1;have hrn: ∀a b:Int,XI t a b=XI t a b:=fun _ _=>rfl
 refine Qc rfl rfl ?_
 simp[Ys,Yn,q,QP,Jq,beq1,Ty.n0,Ty.l0,Ty.h0,Ty.i0,Ty.k0,eqS]
 first | done | rfl | (simp only[Bool.and_assoc]) | (simp only[Bool.and_assoc]; rfl) | (simp only[Bool.and_assoc]; congr<;>exact Subsingleton.elim _ _)
theorem QtX (t:Ty)(ht:t.wid<=67108864)(q:t.kind=1)(ws:Nat)(h:Avm.H):Qb cfg ws 218 [t.enc] h=some (.bool (t.n0&&(t.i0&&(t.k0&&(t.l0&&(t.h0&&(!t.free&& !t.ext)))))),h):=by
 have hwi:=t.Qe;have beq1:(((t.kids.length:Nat):Int) == 1)=decide (t.kids.length=1):=Xb _ 1;have hrn: ∀a b:Int,XI t a b=XI t a b:=fun _ _=>rfl
 refine Qc rfl rfl ?_
 simp[Ys,Yn,q,QP,Jq,beq1,Ty.n0,Ty.l0,Ty.h0,Ty.i0,Ty.k0,eqS]
 first | done | rfl | (simp only[Bool.and_assoc]) | (simp only[Bool.and_assoc]; rfl) | (simp only[Bool.and_assoc]; congr<;>exact Subsingleton.elim _ _)
theorem QtS (t:Ty)(ht:t.wid<=67108864)(q:t.kind=6)(ws:Nat)(h:Avm.H):Qb cfg ws 218 [t.enc] h=some (.bool (t.n0&&(t.i0&&(t.k0&&(t.l0&&(t.h0&&(!t.free&& !t.ext)))))),h):=by
 have hwi:=t.Qe;have beq1:(((t.kids.length:Nat):Int) == 1)=decide (t.kids.length=1):=Xb _ 1;have hrn: ∀a b:Int,XI t a b=XI t a b:=fun _ _=>rfl
 refine Qc rfl rfl ?_
 simp[Ys,Yn,q,QP,Jq,beq1,Ty.n0,Ty.l0,Ty.h0,Ty.i0,Ty.k0,eqS]
 first | done | rfl | (simp only[Bool.and_assoc]) | (simp only[Bool.and_assoc]; rfl) | (simp only[Bool.and_assoc]; congr<;>exact Subsingleton.elim _ _)
theorem QrL (t:Ty)(ht:t.wid<=67108864)(q:t.kind=11)(ws:Nat)(h:Avm.H):Qb cfg ws 218 [t.enc] h=some (.bool (t.n0&&(t.i0&&(t.k0&&(t.l0&&(t.h0&&(!t.free&& !t.ext)))))),h):=by
 have hwi:=t.Qe;have beq1:(((t.kids.length:Nat):Int) == 1)=decide (t.kids.length=1):=Xb _ 1;have hrn: ∀a b:Int,XI t a b=XI t a b:=fun _ _=>rfl
 refine Qc rfl rfl ?_
 simp[Ys,Yn,q,QP,Jq,beq1,Ty.n0,Ty.l0,Ty.h0,Ty.i0,Ty.k0,eqS]
 first | done | rfl | (simp only[Bool.and_assoc]) | (simp only[Bool.and_assoc]; rfl) | (simp only[Bool.and_assoc]; congr<;>exact Subsingleton.elim _ _)
theorem QtW (t:Ty)(ht:t.wid<=67108864)(q:t.kind=2)(ws:Nat)(h:Avm.H):Qb cfg ws 218 [t.enc] h=some (.bool (t.n0&&(t.i0&&(t.k0&&XI t (-1000000000000000) 1000000000000000))),h):=by
 have hwi:=t.Qe;have beq1:(((t.kids.length:Nat):Int) == 1)=decide (t.kids.length=1):=Xb _ 1;have hrn: ∀a b:Int,XI t a b=XI t a b:=fun _ _=>rfl
 have e0:=QaA t (-1000000000000000) 1000000000000000;simp[q]at e0;refine Qc rfl rfl ?_
 simp[Ys,Yn,q,e0,QP,Jq,beq1,Ty.n0,Ty.l0,Ty.h0,Ty.i0,Ty.k0,eqS]
 first | done | rfl | (simp only[Bool.and_assoc]) | (simp only[Bool.and_assoc]; rfl) | (simp only[Bool.and_assoc]; congr<;>exact Subsingleton.elim _ _)
theorem QtU (t:Ty)(ht:t.wid<=67108864)(q:t.kind=4)(ws:Nat)(h:Avm.H):Qb cfg ws 218 [t.enc] h=some (.bool (t.n0&&(t.i0&&(t.k0&&XI t 0 4000))),h):=by
 have hwi:=t.Qe;have beq1:(((t.kids.length:Nat):Int) == 1)=decide (t.kids.length=1):=Xb _ 1;have hrn: ∀a b:Int,XI t a b=XI t a b:=fun _ _=>rfl
 have e0:=QaA t 0 4000;have el:=Qdg 4;simp[Wt]at el;simp[q]at e0;refine Qc rfl rfl ?_
 simp[Ys,Yn,q,e0,el,QP,Jq,beq1,Ty.n0,Ty.l0,Ty.h0,Ty.i0,Ty.k0,eqS]
 first | done | rfl | (simp only[Bool.and_assoc]) | (simp only[Bool.and_assoc]; rfl) | (simp only[Bool.and_assoc]; congr<;>exact Subsingleton.elim _ _)
theorem QtT (t:Ty)(ht:t.wid<=67108864)(q:t.kind=5)(ws:Nat)(h:Avm.H):Qb cfg ws 218 [t.enc] h=some (.bool (t.n0&&(t.i0&&(t.k0&&XI t 0 32000))),h):=by
 have hwi:=t.Qe;have beq1:(((t.kids.length:Nat):Int) == 1)=decide (t.kids.length=1):=Xb _ 1;have hrn: ∀a b:Int,XI t a b=XI t a b:=fun _ _=>rfl
 have e0:=QaA t 0 32000;have el:=Qdg 5;simp[Wt]at el;simp[q]at e0;refine Qc rfl rfl ?_
 simp[Ys,Yn,q,e0,el,QP,Jq,beq1,Ty.n0,Ty.l0,Ty.h0,Ty.i0,Ty.k0,eqS]
 first | done | rfl | (simp only[Bool.and_assoc]) | (simp only[Bool.and_assoc]; rfl) | (simp only[Bool.and_assoc]; congr<;>exact Subsingleton.elim _ _)
theorem QtR (t:Ty)(ht:t.wid<=67108864)(q:t.kind=7)(ws:Nat)(h:Avm.H):Qb cfg ws 218 [t.enc] h=some (.bool (t.n0&&(t.i0&&(decide (t.kids.length=1)&&XI t 0 200))),h):=by
 have hwi:=t.Qe;have beq1:(((t.kids.length:Nat):Int) == 1)=decide (t.kids.length=1):=Xb _ 1;have hrn: ∀a b:Int,XI t a b=XI t a b:=fun _ _=>rfl
 have e0:=QaA t 0 200;simp[q]at e0;refine Qc rfl rfl ?_
 simp[Ys,Yn,q,e0,QP,Jq,beq1,Ty.n0,Ty.l0,Ty.h0,Ty.i0,Ty.k0,eqS]
 first | done | rfl | (simp only[Bool.and_assoc]) | (simp only[Bool.and_assoc]; rfl) | (simp only[Bool.and_assoc]; congr<;>exact Subsingleton.elim _ _)
theorem QrM (t:Ty)(ht:t.wid<=67108864)(q:t.kind=10)(ws:Nat)(h:Avm.H):Qb cfg ws 218 [t.enc] h=some (.bool (t.l0&&(t.h0&&(!t.free&&(!t.ext&&t.i0)))),h):=by
 have hwi:=t.Qe;have beq1:(((t.kids.length:Nat):Int) == 1)=decide (t.kids.length=1):=Xb _ 1;have hrn: ∀a b:Int,XI t a b=XI t a b:=fun _ _=>rfl
 refine Qc rfl rfl ?_
 simp[Ys,Yn,q,QP,Jq,beq1,Ty.n0,Ty.l0,Ty.h0,Ty.i0,Ty.k0,eqS]
 first | done | rfl | (simp only[Bool.and_assoc]) | (simp only[Bool.and_assoc]; rfl) | (simp only[Bool.and_assoc]; congr<;>exact Subsingleton.elim _ _)
theorem QtV (t:Ty)(ht:t.wid<=67108864)(q:t.kind=3)(ws:Nat)(h:Avm.H):Qb cfg ws 218 [t.enc] h=some (.bool (t.n0&&(t.k0&&(t.l0&&(t.h0&&(!t.free&&(QbA t true&&t.items.all (fun x=>XM x&&(!decide (t.kind=3)||x.of.same Ty.zero)))))))),h):=by
 have hwi:=t.Qe;have beq1:(((t.kids.length:Nat):Int) == 1)=decide (t.kids.length=1):=Xb _ 1;have hrn: ∀a b:Int,XI t a b=XI t a b:=fun _ _=>rfl
 have e0:=QeP t ht true;simp[q]at e0;obtain⟨g,hl⟩:=QfR t ht h;refine Qc rfl rfl ?_
 rw[show t.k0= !decide (0<t.kids.length)by rw[QP,Bool.not_not]; rfl]
 cases hn:t.n0
 ·simp[Ty.n0,eqS]at hn;simp[Ys,Yn,q,QP,Jq,beq1,Ty.n0,Ty.l0,Ty.h0,Ty.i0,Ty.k0,eqS,hn]
 ·simp[Ty.n0,eqS]at hn;by_cases hk:0<t.kids.length
  ·simp[Ys,Yn,q,QP,Jq,beq1,Ty.n0,Ty.l0,Ty.h0,Ty.i0,Ty.k0,eqS,hn,hk]
  ·by_cases h1:t.lo=0
   ·by_cases h2:t.hi=0
    ·cases h3:t.free
     ·cases h4:QbA t true
      ·rw[h4]at e0;simp[h1,h2,h3]at e0;simp[Ys,Yn,q,QP,Jq,beq1,Ty.n0,Ty.l0,Ty.h0,Ty.i0,Ty.k0,eqS,hn,hk,h1,h2,h3,e0]
      ·rw[h4]at e0;simp[h1,h2,h3]at e0;cases qa:t.items.all (fun x=>XM x&&(!decide (t.kind=3)||x.of.same Ty.zero))<;>rw[qa]at hl<;>simp[q,h1,h2,h3]at hl<;>simp[Ys,Yn,q,QP,Jq,beq1,Ty.n0,Ty.l0,Ty.h0,Ty.i0,Ty.k0,eqS,hn,hk,h1,h2,h3,e0,hl]
     ·simp[Ys,Yn,q,QP,Jq,beq1,Ty.n0,Ty.l0,Ty.h0,Ty.i0,Ty.k0,eqS,hn,hk,h1,h2,h3]
    ·simp[Ys,Yn,q,QP,Jq,beq1,Ty.n0,Ty.l0,Ty.h0,Ty.i0,Ty.k0,eqS,hn,hk,h1,h2]
   ·simp[Ys,Yn,q,QP,Jq,beq1,Ty.n0,Ty.l0,Ty.h0,Ty.i0,Ty.k0,eqS,hn,hk,h1]
theorem QtP (t:Ty)(ht:t.wid<=67108864)(q:t.kind=9)(ws:Nat)(h:Avm.H):Qb cfg ws 218 [t.enc] h=some (.bool (t.n0&&(t.k0&&(t.l0&&(t.h0&&(!t.free&&(QbA t true&&t.items.all (fun x=>XM x&&(!decide (t.kind=3)||x.of.same Ty.zero)))))))),h):=by
 have hwi:=t.Qe;have beq1:(((t.kids.length:Nat):Int) == 1)=decide (t.kids.length=1):=Xb _ 1;have hrn: ∀a b:Int,XI t a b=XI t a b:=fun _ _=>rfl
 have e0:=QeP t ht true;simp[q]at e0;obtain⟨g,hl⟩:=QfR t ht h;refine Qc rfl rfl ?_
 rw[show t.k0= !decide (0<t.kids.length)by rw[QP,Bool.not_not]; rfl]
 cases hn:t.n0
 ·simp[Ty.n0,eqS]at hn;simp[Ys,Yn,q,QP,Jq,beq1,Ty.n0,Ty.l0,Ty.h0,Ty.i0,Ty.k0,eqS,hn]
 ·simp[Ty.n0,eqS]at hn;by_cases hk:0<t.kids.length
  ·simp[Ys,Yn,q,QP,Jq,beq1,Ty.n0,Ty.l0,Ty.h0,Ty.i0,Ty.k0,eqS,hn,hk]
  ·by_cases h1:t.lo=0
   ·by_cases h2:t.hi=0
    ·cases h3:t.free
     ·cases h4:QbA t true
      ·rw[h4]at e0;simp[h1,h2,h3]at e0;simp[Ys,Yn,q,QP,Jq,beq1,Ty.n0,Ty.l0,Ty.h0,Ty.i0,Ty.k0,eqS,hn,hk,h1,h2,h3,e0]
      ·rw[h4]at e0;simp[h1,h2,h3]at e0;cases qa:t.items.all (fun x=>XM x&&(!decide (t.kind=3)||x.of.same Ty.zero))<;>rw[qa]at hl<;>simp[q,h1,h2,h3]at hl<;>simp[Ys,Yn,q,QP,Jq,beq1,Ty.n0,Ty.l0,Ty.h0,Ty.i0,Ty.k0,eqS,hn,hk,h1,h2,h3,e0,hl]
     ·simp[Ys,Yn,q,QP,Jq,beq1,Ty.n0,Ty.l0,Ty.h0,Ty.i0,Ty.k0,eqS,hn,hk,h1,h2,h3]
    ·simp[Ys,Yn,q,QP,Jq,beq1,Ty.n0,Ty.l0,Ty.h0,Ty.i0,Ty.k0,eqS,hn,hk,h1,h2]
   ·simp[Ys,Yn,q,QP,Jq,beq1,Ty.n0,Ty.l0,Ty.h0,Ty.i0,Ty.k0,eqS,hn,hk,h1]
theorem QtQ (t:Ty)(ht:t.wid<=67108864)(q:t.kind=8)(ws:Nat)(h:Avm.H):Qb cfg ws 218 [t.enc] h=some (.bool (t.n0&&(t.k0&&(t.l0&&(t.h0&&(!t.free&&QbA t false))))),h):=by
 have hwi:=t.Qe;have beq1:(((t.kids.length:Nat):Int) == 1)=decide (t.kids.length=1):=Xb _ 1;have hrn: ∀a b:Int,XI t a b=XI t a b:=fun _ _=>rfl
 have e0:=QeP t ht false;simp[q]at e0;refine Qc rfl rfl ?_
 simp[Ys,Yn,q,e0,QP,Jq,beq1,Ty.n0,Ty.l0,Ty.h0,Ty.i0,Ty.k0,eqS]
 first | done | rfl | (simp only[Bool.and_assoc]) | (simp only[Bool.and_assoc]; rfl) | (simp only[Bool.and_assoc]; congr<;>exact Subsingleton.elim _ _)
end Go.Proofs.YtflbneepngjglaaGreatDoor
namespace Go.Proofs.YtflbneepngjglaaGreatDoor
open Go Go.Avm
theorem QjU : ∀l:List It,mono true l=l.all It.extra
 | []=>rfl
 | x::r=>by
  rw[mono,List.all_cons];cases h:x.extra
  ·rfl
  ·simp[QjU r]
theorem Qnx : ∀(l:List It),l≠ []->l.all It.extra=true-> ∀e,Wu e l=true
 | [],h,_,_=>absurd rfl h
 | [x],_,h,e=>by simpa[Wu]using h
 | x::y::r,_,h,e=>by
  rw[List.all_cons,Bool.and_eq_true]at h;rw[Wu];exact Qnx (y::r) (by simp) h.2 _
theorem QeR : ∀(l:List It),l.findIdx? It.extra=none->mono false l=true/\Wu false l=false/\Qgd l= !l.isEmpty
 | [],_=>⟨rfl,rfl,rfl⟩
 | x::r,h=>by
  rw[List.findIdx?_cons]at h
  cases hx:x.extra
  ·rw[hx]at h;simp at h;have hr:r.findIdx? It.extra=none:=by rw[List.findIdx?_eq_none_iff]; exact h
   obtain⟨h1,h2,h3⟩:=QeR r hr;refine⟨by rw[mono,hx]; simpa using h1,by rw[Wu,hx]; exact h2,by simp[Qgd,hx]⟩
  ·rw[hx]at h; simp at h
theorem QeQ : ∀(l:List It) (j:Nat),l.findIdx? It.extra=some j->mono false l=(l.drop j).all It.extra/\((l.drop j).all It.extra=true->Wu false l=true)/\Qgd l=decide (0<j)
 | [],j,h=>by simp at h
 | x::r,j,h=>by
  rw[List.findIdx?_cons]at h
  cases hx:x.extra
  ·rw[hx]at h;cases hr:r.findIdx? It.extra with
   | none=>rw[hr]at h; simp at h
   | some k=>
    rw[hr]at h;simp at h;subst h;obtain⟨h1,h2,h3⟩:=QeQ r k hr;refine⟨by rw[mono,hx]; simpa using h1,fun h=>?_,by simp[Qgd,hx]⟩
    rw[Wu,hx];exact h2 (by simpa using h)
  ·rw[hx]at h;simp at h;subst h;refine⟨by rw[mono]; simp[QjU,hx],fun h=>Qnx (x::r) (by simp) (by simpa using h) false,by simp[Qgd,hx]⟩
theorem Qns (t:Ty):QbA t true=itP t 1:=by
 unfold QbA itP;cases h:t.items.findIdx? It.extra with
 | none=>
  obtain⟨h1,h2,h3⟩:=QeR _ h;rw[h1,h2,h3];cases t.items with
  | nil=>rfl
  | cons x r=>
   have:(1:Int)<=(r.length:Int)+1:=by omega
   simp[this]
 | some j=>
  obtain⟨h1,h2,h3⟩:=QeQ _ j h;dsimp only;rw[h1,h3];have:decide ((1:Int)<=(j:Int))=decide (0<j):=by congr 1; apply propext; omega
  rw[this];cases q:(t.items.drop j).all It.extra
  ·simp
  ·rw[h2 q]; cases t.ext<;>simp
theorem QuX (t:Ty):QbA t false=itP t 0:=by
 unfold QbA itP;cases h:t.items.findIdx? It.extra with
 | none=>
  obtain⟨h1,h2,h3⟩:=QeR _ h;rw[h1,h2];simp
 | some j=>
  obtain⟨h1,h2,h3⟩:=QeQ _ j h;dsimp only;rw[h1];cases q:(t.items.drop j).all It.extra
  ·simp
  ·rw[h2 q]; cases t.ext<;>simp
theorem all_congr {α:Type}{p q:α->Bool}(l:List α)(h: ∀x,p x=q x):l.all p=l.all q:=by congr 1; funext x; exact h x
theorem QrK (t:Ty)(ht:t.wid<=67108864)(ws:Nat)(h:Avm.H):Qb cfg ws 218 [t.enc] h=some (.bool (Qk t),h):=by
 unfold Qk;split
 ·rename_i q; rw[QtY t ht q ws h]; congr 3; first | done | (unfold Ty.Jy; cases t.n0<;>cases t.i0<;>cases t.k0<;>cases t.l0<;>cases t.h0<;>cases t.free<;>cases t.ext<;>rfl)
 split
 ·rename_i q; rw[QtX t ht q ws h]; congr 3; first | done | (unfold Ty.Jy; cases t.n0<;>cases t.i0<;>cases t.k0<;>cases t.l0<;>cases t.h0<;>cases t.free<;>cases t.ext<;>rfl)
 split
 ·rename_i q; rw[QtS t ht q ws h]; congr 3; first | done | (unfold Ty.Jy; cases t.n0<;>cases t.i0<;>cases t.k0<;>cases t.l0<;>cases t.h0<;>cases t.free<;>cases t.ext<;>rfl)
 split
 ·rename_i q; rw[QrL t ht q ws h]; congr 3; first | done | (unfold Ty.Jy; cases t.n0<;>cases t.i0<;>cases t.k0<;>cases t.l0<;>cases t.h0<;>cases t.free<;>cases t.ext<;>rfl)
 split
 ·rename_i q; rw[QtW t ht q ws h]; congr 3; first | done | (unfold Ty.Qby; cases t.n0<;>cases t.i0<;>cases t.k0<;>rfl)
 split
 ·rename_i q; rw[QtV t ht q ws h]; congr 3; first | done | (rw[Qns,all_congr (q:=JQ) t.items (fun x=>by rw[q]; unfold XM JQ; cases x.opt<;>cases x.QA.isEmpty<;>cases x.of.same Ty.zero<;>rfl)]; unfold Ty.oEI; cases t.n0<;>cases t.k0<;>cases t.l0<;>cases t.h0<;>cases t.free<;>cases itP t 1<;>rfl)
 split
 ·rename_i q; rw[QtU t ht q ws h]; congr 3; first | done | (unfold Ty.Qby; cases t.n0<;>cases t.i0<;>cases t.k0<;>rfl)
 split
 ·rename_i q; rw[QtT t ht q ws h]; congr 3; first | done | (unfold Ty.Qby; cases t.n0<;>cases t.i0<;>cases t.k0<;>rfl)
 split
 ·rename_i q; rw[QtR t ht q ws h]; congr 3; first | done | (unfold Ty.Qec; cases t.n0<;>cases t.i0<;>cases decide (t.kids.length=1)<;>cases XI t 0 200<;>rfl)
 split
 ·rename_i q; rw[QtQ t ht q ws h]; congr 3; first | done | (rw[QuX]; unfold Ty.oEI; cases t.n0<;>cases t.k0<;>cases t.l0<;>cases t.h0<;>cases t.free<;>cases itP t 0<;>rfl)
 split
 ·rename_i q; rw[QtP t ht q ws h]; congr 3; first | done | (rw[Qns,all_congr (q:=XM) t.items (fun x=>by rw[q]; unfold XM; cases x.opt<;>cases x.QA.isEmpty<;>cases x.of.same Ty.zero<;>rfl)]; unfold Ty.oEI; cases t.n0<;>cases t.k0<;>cases t.l0<;>cases t.h0<;>cases t.free<;>cases itP t 1<;>rfl)
 rename_i q0 q1 q6 q11 q2 q3 q4 q5 q7 q8 q9;by_cases q:t.kind=10
 ·rw[decide_eq_true q,Bool.true_and,QrM t ht q ws h]; congr 3; first | done | (unfold Ty.oNK; cases t.i0<;>cases t.l0<;>cases t.h0<;>cases t.free<;>cases t.ext<;>rfl)
 ·refine Qc rfl rfl ?_
  simp[Ys,Yn,q,q0,q1,q6,q11,q2,q3,q4,q5,q7,q8,q9]
theorem QnI (t:Ty)(ht:t.wid<=67108864)(hb:t.nodes<=67108864)(h:Avm.H): ∃g,Qa (evC (Qb cfg) Qa cfg.pol h.length h.length Qfw) [3,4] [(3,.isl (t.QZ.map Ty.enc)),(4,.int .i64 (0:Nat))] (h++([.arr 0 8 [t.enc]]++ []))=some (if(t.QZ).all Qk=true then(.exit 0,[(3,.isl (t.QZ.map Ty.enc)),(4,.int .i64 (t.QZ).length)],h++([.arr 0 8 [t.enc]]++g))else(.ret,[(2,.bool false)],h++([.arr 0 8 [t.enc]]++g))):=by
 have hl:(t.QZ).length<=67108864:=(by have:=JH _ t (Nat.le_refl _); omega)
 have hlp:=Qg (γ:=Avm.H) (f:=evC (Qb cfg) Qa cfg.pol h.length h.length Qfw) (keep:=[3,4]) (t.QZ) (fun _ _=>True)
      (fun i _=>[(3,.isl (t.QZ.map Ty.enc)),(4,.int .i64 i)]) (fun _ g=>h++([.arr 0 8 [t.enc]]++g))
      (fun _ r o=>∃g,o=if r.all Qk=true then(.exit 0,[(3,.isl (t.QZ.map Ty.enc)),(4,.int .i64 (t.QZ).length)],h++([.arr 0 8 [t.enc]]++g))else(.ret,[(2,.bool false)],h++([.arr 0 8 [t.enc]]++g))) ?_ ?_ [] trivial
 ·obtain⟨o,h1,g,h2⟩:=hlp;exact⟨g,h2▸h1⟩
 ·intro i x r g hd hi hx _ K hK;have hw:=Qd (n:=i+1) (by omega)
  simp at hw;have hm:x∈(t.QZ):=by rw[←hx]; exact List.getElem_mem hi
  have hkn:=QrK x (Nat.le_trans (QdW _ t (Nat.le_refl _) x hm).1 ht);cases hv:Qk x
  ·refine⟨_,?_,g,by simp only[List.all_cons,hv,Bool.false_and,Bool.false_eq_true,if_false]; rfl⟩
   simp only[hv]at hkn;simp at hkn;simp[Qfw,hi,hx,hkn,]
  ·obtain⟨o,h4,g2,h5⟩:=hK g trivial;refine⟨o,?_,g2,by simp only[List.all_cons,hv,Bool.true_and]; exact h5⟩
   simp at h4;simp only[hv]at hkn;simp at hkn;simp[Qfw,hi,hx,hkn,hw,h4]
 ·intro g K _;refine⟨_,?_,g,by simp only[List.all_nil,if_true]; rfl⟩
  simp[Qfw]
theorem Qkl (t:Ty)(ht:t.wid<=67108864)(hb:t.nodes<=67108864)(ws:Nat)(h:Avm.H):Qb cfg ws 137 [t.enc] h=some (.bool (t.Qz Qk),h):=by
 have h1:=QaD _ t (Nat.le_refl _) ht hb;obtain⟨g,hl⟩:=QnI t ht hb h;rw[YV _ _ t (Nat.le_refl _)]at hl;refine Qc rfl rfl ?_
 simp at h1;cases q:t.Qz Qk<;>rw[q]at hl<;>simp at hl<;>simp[QDD,QCL,h1,hl]
end Go.Proofs.YtflbneepngjglaaGreatDoor
