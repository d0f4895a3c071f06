/- Arguments put in for parameters. -/
import Derived.Test.YtflbneepngjglaaGreatDoorE34
set_option linter.all false
namespace Go.Proofs.YtflbneepngjglaaGreatDoor
open Go Go.Avm
theorem QaK (t:Ty)(a b:Int)(ws:Nat)(h:Avm.H):Qb cfg ws 258 [t.enc,.int .i64 a,.int .i64 b] h=some (.bool (XK t a b),h):=by
 refine Qc rfl rfl ?_
 cases hf:t.free<;>simp[QDW,QCW,hf,XK,Bool.and_assoc]
def WD (k:Int):Int:=if k=5 then 32000 else if k=7 then 200 else 4000
theorem Qdn (k:Int)(ws:Nat)(h:Avm.H):Qb cfg ws 259 [.int .i64 k] h=some (.int .i64 (WD k),h):=by
 refine Qc rfl rfl ?_
 unfold WD;by_cases q5:k=5
 ·simp[QBm,QAI,q5]
 ·by_cases q7:k=7<;>simp[QBm,QAI,q5,q7]
theorem Qcl (t:Ty):t.same Ty.zero=(decide (t.kind=0)&&(t.n0&&(t.l0&&(t.h0&&(!t.free&&(!t.ext&&(t.i0&&t.k0))))))):=by
 by_cases q:t.kind=0
 ·rw[decide_eq_true q,Bool.true_and]; exact YQ t 0 q
 ·rw[Ty.Xt]; simp[Ty.zero,q]
theorem Js {α:Type}(l:List α) [Decidable (l=[])]:decide (l=[])=l.isEmpty:=by cases l<;>simp
theorem QnO {α:Type}(l:List α):((l.length:Int) == 0)=l.isEmpty:=by rw[Qjj]; cases l<;>simp
theorem Qve (t:Ty)(ws:Nat)(h:Avm.H):Qb cfg ws 261 [t.enc] h=some (.bool (t.same Ty.zero),h):=by
 rw[Qcl];refine Qc rfl rfl ?_
 simp[QDV,QCV,Ty.n0,Ty.l0,Ty.h0,Ty.i0,Ty.k0,eqS,Js,QnO,Bool.and_assoc]
def mono :Bool->List It->Bool
 | _,[]=>true
 | e,x::r=>!(e&& !x.extra)&&mono x.extra r
def WE :Bool->List It->Bool
 | e,[]=>e
 | _,x::r=>WE x.extra r
def Qko (l:List It):Nat->Bool
 | 0=>false
 | j+1=>match l[j]? with | some x=>x.extra | none=>false
def Qgu :List It->Bool
 | []=>false
 | x::_=>!x.extra
def QbM (t:Ty)(ls:Bool):Bool:=mono false t.items&&((!WE false t.items||t.ext)&&(!ls||Qgu t.items))
theorem QnK (t:Ty)(ht:t.wid<=67108864)(ls:Bool)(h:Avm.H):Qa (evC (Qb cfg) Qa cfg.pol h.length h.length QbZ) [1,2,5,6] [(1,.bool ls),(2,.ptr h.length 0 8 0 0),(5,.bool false),(6,.int .i64 (0:Nat))] (h++ [.arr 0 8 [t.enc]])=
    some (if mono false t.items=true then(.exit 0,[(1,.bool ls),(2,.ptr h.length 0 8 0 0),(5,.bool (WE false t.items)),(6,.int .i64 t.items.length)],h++ [.arr 0 8 [t.enc]])else(.ret,[(4,.bool false)],h++ [.arr 0 8 [t.enc]])):=by
 have hwi:=t.Qe
 have hl:=QE (f:=evC (Qb cfg) Qa cfg.pol h.length h.length QbZ) (keep:=[1,2,5,6]) t.items (fun i=>[(1,.bool ls),(2,.ptr h.length 0 8 0 0),(5,.bool (Qko t.items i)),(6,.int .i64 i)]) (fun _=>h++ [.arr 0 8 [t.enc]])
  (fun i r=>if mono (Qko t.items i) r=true then(.exit 0,[(1,.bool ls),(2,.ptr h.length 0 8 0 0),(5,.bool (WE (Qko t.items i) r)),(6,.int .i64 t.items.length)],h++ [.arr 0 8 [t.enc]])else(.ret,[(4,.bool false)],h++ [.arr 0 8 [t.enc]])) ?_ ?_
 ·exact hl
 ·intro i x r hd hi hx K hK;have hw:=Qd (n:=i+1) (by omega)
  simp at hw;have hpn:Qko t.items (i+1)=x.extra:=by simp[Qko,hi,hx]
  rw[hpn]at hK;rw[mono,WE];cases Qko t.items i<;>cases q2:x.extra
  ·rw[q2]at hK; simp at hK; simp[QbZ,hi,hx,q2,hw,hK]
  ·rw[q2]at hK; simp at hK; simp[QbZ,hi,hx,q2,hw,hK]
  ·simp[QbZ,hi,hx,q2]
  ·rw[q2]at hK; simp at hK; simp[QbZ,hi,hx,q2,hw,hK]
 ·intro K;simp[QbZ,mono,WE]
theorem Qff (t:Ty)(ht:t.wid<=67108864)(ls:Bool)(ws:Nat)(h:Avm.H):Qb cfg ws 260 [t.enc,.bool ls] h=some (.bool (QbM t ls),h):=by
 have hl:=QnK t ht ls h;refine Qc rfl rfl ?_
 unfold QbM;cases q1:mono false t.items<;>rw[q1]at hl
 ·simp at hl;simp[QyO,Qyz,hl]
 ·generalize WE false t.items=la at hl;cases q2:t.items with
  | nil=>
   simp[q2]at hl;cases la<;>cases q3:t.ext<;>simp[q3]at hl<;>cases ls<;>simp[QyO,Qyz,hl,q2,q3,Qgu]
  | cons x r=>
   simp[q2]at hl;cases la<;>cases q3:t.ext<;>simp[q3]at hl<;>cases ls<;>simp[QyO,Qyz,hl,q2,q3,Qgu]
theorem Qgi (t:Ty)(ht:t.wid<=67108864)(h:Avm.H): ∃g,Qa (evC (Qb cfg) Qa cfg.pol h.length h.length Qfy) [1,7] [(1,.ptr h.length 0 8 0 0),(7,.int .i64 (0:Nat))] (h++([.arr 0 8 [t.enc]]++ []))=some (if(t.items).all (fun x=>XN x&&(!decide (t.kind=3)||x.of.same Ty.zero))=true then(.exit 1,[(1,.ptr h.length 0 8 0 0),(7,.int .i64 (t.items).length)],h++([.arr 0 8 [t.enc]]++g))else(.ret,[(2,.bool false)],h++([.arr 0 8 [t.enc]]++g))):=by
 have hl:(t.items).length<=67108864:=Nat.le_trans t.Qe ht
 have hlp:=Qg (γ:=Avm.H) (f:=evC (Qb cfg) Qa cfg.pol h.length h.length Qfy) (keep:=[1,7]) (t.items) (fun _ _=>True)
      (fun i _=>[(1,.ptr h.length 0 8 0 0),(7,.int .i64 i)]) (fun _ g=>h++([.arr 0 8 [t.enc]]++g))
      (fun _ r o=>∃g,o=if r.all (fun x=>XN x&&(!decide (t.kind=3)||x.of.same Ty.zero))=true then(.exit 1,[(1,.ptr h.length 0 8 0 0),(7,.int .i64 (t.items).length)],h++([.arr 0 8 [t.enc]]++g))else(.ret,[(2,.bool false)],h++([.arr 0 8 [t.enc]]++g))) ?_ ?_ [] trivial
 ·obtain⟨o,h1,g,h2⟩:=hlp;exact⟨g,h2▸h1⟩
 ·intro i x r g hd hi hx _ K hK;have hw:=Qd (n:=i+1) (by omega)
  simp at hw;have hm:x∈(t.items):=by rw[←hx]; exact List.getElem_mem hi
  have hb:=Qve x.of;simp at hb;cases hv:(fun x=>XN x&&(!decide (t.kind=3)||x.of.same Ty.zero)) x
  ·refine⟨_,?_,(g++ [.arr 0 12 [x.enc]]),by simp only[List.all_cons,hv,Bool.false_and,Bool.false_eq_true,if_false]; rfl⟩
   cases q1:x.opt<;>cases q2:x.Qy.isEmpty<;>by_cases q3:t.kind=3<;>cases q4:x.of.same Ty.zero<;>simp[XN,q1,q2,q3,q4]at hv<;>simp[Qfy,hi,hx,hb,QQ,q1,q2,q3,q4]
  ·obtain⟨o,h4,g2,h5⟩:=hK (g++ [.arr 0 12 [x.enc]]) trivial;refine⟨o,?_,g2,by simp only[List.all_cons,hv,Bool.true_and]; exact h5⟩
   simp at h4;cases q1:x.opt<;>cases q2:x.Qy.isEmpty<;>by_cases q3:t.kind=3<;>cases q4:x.of.same Ty.zero<;>simp[XN,q1,q2,q3,q4]at hv<;>(try simp only[q3]at h4)<;>(try simp only[q1]at h4)<;>simp[Qfy,hi,hx,hb,QQ,q1,q2,q3,q4,hw,h4]
 ·intro g K _;refine⟨_,?_,g,by simp only[List.all_nil,if_true]; rfl⟩
  simp[Qfy]
theorem Quz (t:Ty)(ht:t.wid<=67108864)(q:t.kind=0)(ws:Nat)(h:Avm.H):Qb cfg ws 218 [t.enc] h=some (.bool (t.n0&&(t.i0&&(t.k0&&(t.l0&&(t.h0&&(!t.free&& !t.ext)))))),h):=by
 have hwi:=t.Qe;have beq1:(((t.kids.length:Nat):Int) == 1)=decide (t.kids.length=1):=QY _ 1;have hrn: ∀a b:Int,XK t a b=XK t a b:=fun _ _=>rfl
 refine Qc rfl rfl ?_
 simp[YC,Yx,q,QQ,Js,beq1,Ty.n0,Ty.l0,Ty.h0,Ty.i0,Ty.k0,eqS]
 first | done | rfl | (simp only[Bool.and_assoc]) | (simp only[Bool.and_assoc]; rfl) | (simp only[Bool.and_assoc]; congr<;>exact Subsingleton.elim _ _)
theorem Quy (t:Ty)(ht:t.wid<=67108864)(q:t.kind=1)(ws:Nat)(h:Avm.H):Qb cfg ws 218 [t.enc] h=some (.bool (t.n0&&(t.i0&&(t.k0&&(t.l0&&(t.h0&&(!t.free&& !t.ext)))))),h):=by
 have hwi:=t.Qe;have beq1:(((t.kids.length:Nat):Int) == 1)=decide (t.kids.length=1):=QY _ 1;have hrn: ∀a b:Int,XK t a b=XK t a b:=fun _ _=>rfl
 refine Qc rfl rfl ?_
 simp[YC,Yx,q,QQ,Js,beq1,Ty.n0,Ty.l0,Ty.h0,Ty.i0,Ty.k0,eqS]
 first | done | rfl | (simp only[Bool.and_assoc]) | (simp only[Bool.and_assoc]; rfl) | (simp only[Bool.and_assoc]; congr<;>exact Subsingleton.elim _ _)
theorem Qut (t:Ty)(ht:t.wid<=67108864)(q:t.kind=6)(ws:Nat)(h:Avm.H):Qb cfg ws 218 [t.enc] h=some (.bool (t.n0&&(t.i0&&(t.k0&&(t.l0&&(t.h0&&(!t.free&& !t.ext)))))),h):=by
 have hwi:=t.Qe;have beq1:(((t.kids.length:Nat):Int) == 1)=decide (t.kids.length=1):=QY _ 1;have hrn: ∀a b:Int,XK t a b=XK t a b:=fun _ _=>rfl
 refine Qc rfl rfl ?_
 simp[YC,Yx,q,QQ,Js,beq1,Ty.n0,Ty.l0,Ty.h0,Ty.i0,Ty.k0,eqS]
 first | done | rfl | (simp only[Bool.and_assoc]) | (simp only[Bool.and_assoc]; rfl) | (simp only[Bool.and_assoc]; congr<;>exact Subsingleton.elim _ _)
theorem Qsh (t:Ty)(ht:t.wid<=67108864)(q:t.kind=11)(ws:Nat)(h:Avm.H):Qb cfg ws 218 [t.enc] h=some (.bool (t.n0&&(t.i0&&(t.k0&&(t.l0&&(t.h0&&(!t.free&& !t.ext)))))),h):=by
 have hwi:=t.Qe;have beq1:(((t.kids.length:Nat):Int) == 1)=decide (t.kids.length=1):=QY _ 1;have hrn: ∀a b:Int,XK t a b=XK t a b:=fun _ _=>rfl
 refine Qc rfl rfl ?_
 simp[YC,Yx,q,QQ,Js,beq1,Ty.n0,Ty.l0,Ty.h0,Ty.i0,Ty.k0,eqS]
 first | done | rfl | (simp only[Bool.and_assoc]) | (simp only[Bool.and_assoc]; rfl) | (simp only[Bool.and_assoc]; congr<;>exact Subsingleton.elim _ _)
theorem Qux (t:Ty)(ht:t.wid<=67108864)(q:t.kind=2)(ws:Nat)(h:Avm.H):Qb cfg ws 218 [t.enc] h=some (.bool (t.n0&&(t.i0&&(t.k0&&XK t (-1000000000000000) 1000000000000000))),h):=by
 have hwi:=t.Qe;have beq1:(((t.kids.length:Nat):Int) == 1)=decide (t.kids.length=1):=QY _ 1;have hrn: ∀a b:Int,XK t a b=XK t a b:=fun _ _=>rfl
 have e0:=QaK t (-1000000000000000) 1000000000000000;simp[q]at e0;refine Qc rfl rfl ?_
 simp[YC,Yx,q,e0,QQ,Js,beq1,Ty.n0,Ty.l0,Ty.h0,Ty.i0,Ty.k0,eqS]
 first | done | rfl | (simp only[Bool.and_assoc]) | (simp only[Bool.and_assoc]; rfl) | (simp only[Bool.and_assoc]; congr<;>exact Subsingleton.elim _ _)
theorem Quv (t:Ty)(ht:t.wid<=67108864)(q:t.kind=4)(ws:Nat)(h:Avm.H):Qb cfg ws 218 [t.enc] h=some (.bool (t.n0&&(t.i0&&(t.k0&&XK t 0 4000))),h):=by
 have hwi:=t.Qe;have beq1:(((t.kids.length:Nat):Int) == 1)=decide (t.kids.length=1):=QY _ 1;have hrn: ∀a b:Int,XK t a b=XK t a b:=fun _ _=>rfl
 have e0:=QaK t 0 4000;have el:=Qdn 4;simp[WD]at el;simp[q]at e0;refine Qc rfl rfl ?_
 simp[YC,Yx,q,e0,el,QQ,Js,beq1,Ty.n0,Ty.l0,Ty.h0,Ty.i0,Ty.k0,eqS]
 first | done | rfl | (simp only[Bool.and_assoc]) | (simp only[Bool.and_assoc]; rfl) | (simp only[Bool.and_assoc]; congr<;>exact Subsingleton.elim _ _)
theorem Quu (t:Ty)(ht:t.wid<=67108864)(q:t.kind=5)(ws:Nat)(h:Avm.H):Qb cfg ws 218 [t.enc] h=some (.bool (t.n0&&(t.i0&&(t.k0&&XK t 0 32000))),h):=by
 have hwi:=t.Qe;have beq1:(((t.kids.length:Nat):Int) == 1)=decide (t.kids.length=1):=QY _ 1;have hrn: ∀a b:Int,XK t a b=XK t a b:=fun _ _=>rfl
 have e0:=QaK t 0 32000;have el:=Qdn 5;simp[WD]at el;simp[q]at e0;refine Qc rfl rfl ?_
 simp[YC,Yx,q,e0,el,QQ,Js,beq1,Ty.n0,Ty.l0,Ty.h0,Ty.i0,Ty.k0,eqS]
 first | done | rfl | (simp only[Bool.and_assoc]) | (simp only[Bool.and_assoc]; rfl) | (simp only[Bool.and_assoc]; congr<;>exact Subsingleton.elim _ _)
theorem Qus (t:Ty)(ht:t.wid<=67108864)(q:t.kind=7)(ws:Nat)(h:Avm.H):Qb cfg ws 218 [t.enc] h=some (.bool (t.n0&&(t.i0&&(decide (t.kids.length=1)&&XK t 0 200))),h):=by
 have hwi:=t.Qe;have beq1:(((t.kids.length:Nat):Int) == 1)=decide (t.kids.length=1):=QY _ 1;have hrn: ∀a b:Int,XK t a b=XK t a b:=fun _ _=>rfl
 have e0:=QaK t 0 200;simp[q]at e0;refine Qc rfl rfl ?_
 simp[YC,Yx,q,e0,QQ,Js,beq1,Ty.n0,Ty.l0,Ty.h0,Ty.i0,Ty.k0,eqS]
 first | done | rfl | (simp only[Bool.and_assoc]) | (simp only[Bool.and_assoc]; rfl) | (simp only[Bool.and_assoc]; congr<;>exact Subsingleton.elim _ _)
theorem Qsi (t:Ty)(ht:t.wid<=67108864)(q:t.kind=10)(ws:Nat)(h:Avm.H):Qb cfg ws 218 [t.enc] h=some (.bool (t.l0&&(t.h0&&(!t.free&&(!t.ext&&t.i0)))),h):=by
 have hwi:=t.Qe;have beq1:(((t.kids.length:Nat):Int) == 1)=decide (t.kids.length=1):=QY _ 1;have hrn: ∀a b:Int,XK t a b=XK t a b:=fun _ _=>rfl
 refine Qc rfl rfl ?_
 simp[YC,Yx,q,QQ,Js,beq1,Ty.n0,Ty.l0,Ty.h0,Ty.i0,Ty.k0,eqS]
 first | done | rfl | (simp only[Bool.and_assoc]) | (simp only[Bool.and_assoc]; rfl) | (simp only[Bool.and_assoc]; congr<;>exact Subsingleton.elim _ _)
theorem Quw (t:Ty)(ht:t.wid<=67108864)(q:t.kind=3)(ws:Nat)(h:Avm.H):Qb cfg ws 218 [t.enc] h=some (.bool (t.n0&&(t.k0&&(t.l0&&(t.h0&&(!t.free&&(QbM t true&&t.items.all (fun x=>XN x&&(!decide (t.kind=3)||x.of.same Ty.zero)))))))),h):=by
 have hwi:=t.Qe;have beq1:(((t.kids.length:Nat):Int) == 1)=decide (t.kids.length=1):=QY _ 1;have hrn: ∀a b:Int,XK t a b=XK t a b:=fun _ _=>rfl
 have e0:=Qff t ht true;simp[q]at e0;obtain⟨g,hl⟩:=Qgi t ht h;refine Qc rfl rfl ?_
 rw[show t.k0= !decide (0<t.kids.length)by rw[QQ,Bool.not_not]; rfl]
 cases hn:t.n0
 ·simp[Ty.n0,eqS]at hn;simp[YC,Yx,q,QQ,Js,beq1,Ty.n0,Ty.l0,Ty.h0,Ty.i0,Ty.k0,eqS,hn]
 ·simp[Ty.n0,eqS]at hn;by_cases hk:0<t.kids.length
  ·simp[YC,Yx,q,QQ,Js,beq1,Ty.n0,Ty.l0,Ty.h0,Ty.i0,Ty.k0,eqS,hn,hk]
  ·by_cases h1:t.lo=0
   ·by_cases h2:t.hi=0
    ·cases h3:t.free
     ·cases h4:QbM t true
      ·rw[h4]at e0;simp[h1,h2,h3]at e0;simp[YC,Yx,q,QQ,Js,beq1,Ty.n0,Ty.l0,Ty.h0,Ty.i0,Ty.k0,eqS,hn,hk,h1,h2,h3,e0]
      ·rw[h4]at e0;simp[h1,h2,h3]at e0;cases qa:t.items.all (fun x=>XN x&&(!decide (t.kind=3)||x.of.same Ty.zero))<;>rw[qa]at hl<;>simp[q,h1,h2,h3]at hl<;>simp[YC,Yx,q,QQ,Js,beq1,Ty.n0,Ty.l0,Ty.h0,Ty.i0,Ty.k0,eqS,hn,hk,h1,h2,h3,e0,hl]
     ·simp[YC,Yx,q,QQ,Js,beq1,Ty.n0,Ty.l0,Ty.h0,Ty.i0,Ty.k0,eqS,hn,hk,h1,h2,h3]
    ·simp[YC,Yx,q,QQ,Js,beq1,Ty.n0,Ty.l0,Ty.h0,Ty.i0,Ty.k0,eqS,hn,hk,h1,h2]
   ·simp[YC,Yx,q,QQ,Js,beq1,Ty.n0,Ty.l0,Ty.h0,Ty.i0,Ty.k0,eqS,hn,hk,h1]
theorem Quq (t:Ty)(ht:t.wid<=67108864)(q:t.kind=9)(ws:Nat)(h:Avm.H):Qb cfg ws 218 [t.enc] h=some (.bool (t.n0&&(t.k0&&(t.l0&&(t.h0&&(!t.free&&(QbM t true&&t.items.all (fun x=>XN x&&(!decide (t.kind=3)||x.of.same Ty.zero)))))))),h):=by
 have hwi:=t.Qe;have beq1:(((t.kids.length:Nat):Int) == 1)=decide (t.kids.length=1):=QY _ 1;have hrn: ∀a b:Int,XK t a b=XK t a b:=fun _ _=>rfl
 have e0:=Qff t ht true;simp[q]at e0;obtain⟨g,hl⟩:=Qgi t ht h;refine Qc rfl rfl ?_
 rw[show t.k0= !decide (0<t.kids.length)by rw[QQ,Bool.not_not]; rfl]
 cases hn:t.n0
 ·simp[Ty.n0,eqS]at hn;simp[YC,Yx,q,QQ,Js,beq1,Ty.n0,Ty.l0,Ty.h0,Ty.i0,Ty.k0,eqS,hn]
 ·simp[Ty.n0,eqS]at hn;by_cases hk:0<t.kids.length
  ·simp[YC,Yx,q,QQ,Js,beq1,Ty.n0,Ty.l0,Ty.h0,Ty.i0,Ty.k0,eqS,hn,hk]
  ·by_cases h1:t.lo=0
   ·by_cases h2:t.hi=0
    ·cases h3:t.free
     ·cases h4:QbM t true
      ·rw[h4]at e0;simp[h1,h2,h3]at e0;simp[YC,Yx,q,QQ,Js,beq1,Ty.n0,Ty.l0,Ty.h0,Ty.i0,Ty.k0,eqS,hn,hk,h1,h2,h3,e0]
      ·rw[h4]at e0;simp[h1,h2,h3]at e0;cases qa:t.items.all (fun x=>XN x&&(!decide (t.kind=3)||x.of.same Ty.zero))<;>rw[qa]at hl<;>simp[q,h1,h2,h3]at hl<;>simp[YC,Yx,q,QQ,Js,beq1,Ty.n0,Ty.l0,Ty.h0,Ty.i0,Ty.k0,eqS,hn,hk,h1,h2,h3,e0,hl]
     ·simp[YC,Yx,q,QQ,Js,beq1,Ty.n0,Ty.l0,Ty.h0,Ty.i0,Ty.k0,eqS,hn,hk,h1,h2,h3]
    ·simp[YC,Yx,q,QQ,Js,beq1,Ty.n0,Ty.l0,Ty.h0,Ty.i0,Ty.k0,eqS,hn,hk,h1,h2]
   ·simp[YC,Yx,q,QQ,Js,beq1,Ty.n0,Ty.l0,Ty.h0,Ty.i0,Ty.k0,eqS,hn,hk,h1]
theorem Qur (t:Ty)(ht:t.wid<=67108864)(q:t.kind=8)(ws:Nat)(h:Avm.H):Qb cfg ws 218 [t.enc] h=some (.bool (t.n0&&(t.k0&&(t.l0&&(t.h0&&(!t.free&&QbM t false))))),h):=by
 have hwi:=t.Qe;have beq1:(((t.kids.length:Nat):Int) == 1)=decide (t.kids.length=1):=QY _ 1;have hrn: ∀a b:Int,XK t a b=XK t a b:=fun _ _=>rfl
 have e0:=Qff t ht false;simp[q]at e0;refine Qc rfl rfl ?_
 simp[YC,Yx,q,e0,QQ,Js,beq1,Ty.n0,Ty.l0,Ty.h0,Ty.i0,Ty.k0,eqS]
 first | done | rfl | (simp only[Bool.and_assoc]) | (simp only[Bool.and_assoc]; rfl) | (simp only[Bool.and_assoc]; congr<;>exact Subsingleton.elim _ _)
end Go.Proofs.YtflbneepngjglaaGreatDoor
namespace Go.Proofs.YtflbneepngjglaaGreatDoor
open Go Go.Avm
theorem Qkv : ∀l:List It,mono true l=l.all It.extra
 | []=>rfl
 | x::r=>by
  rw[mono,List.all_cons];cases h:x.extra
  ·rfl
  ·simp[Qkv r]
theorem QnQ : ∀(l:List It),l≠ []->l.all It.extra=true-> ∀e,WE e l=true
 | [],h,_,_=>absurd rfl h
 | [x],_,h,e=>by simpa[WE]using h
 | x::y::r,_,h,e=>by
  rw[List.all_cons,Bool.and_eq_true]at h;rw[WE];exact QnQ (y::r) (by simp) h.2 _
theorem Qfh : ∀(l:List It),l.findIdx? It.extra=none->mono false l=true/\WE false l=false/\Qgu l= !l.isEmpty
 | [],_=>⟨rfl,rfl,rfl⟩
 | x::r,h=>by
  rw[List.findIdx?_cons]at h
  cases hx:x.extra
  ·rw[hx]at h;simp at h;have hr:r.findIdx? It.extra=none:=by rw[List.findIdx?_eq_none_iff]; exact h
   obtain⟨h1,h2,h3⟩:=Qfh r hr;refine⟨by rw[mono,hx]; simpa using h1,by rw[WE,hx]; exact h2,by simp[Qgu,hx]⟩
  ·rw[hx]at h; simp at h
theorem Qfg : ∀(l:List It) (j:Nat),l.findIdx? It.extra=some j->mono false l=(l.drop j).all It.extra/\((l.drop j).all It.extra=true->WE false l=true)/\Qgu l=decide (0<j)
 | [],j,h=>by simp at h
 | x::r,j,h=>by
  rw[List.findIdx?_cons]at h
  cases hx:x.extra
  ·rw[hx]at h;cases hr:r.findIdx? It.extra with
   | none=>rw[hr]at h; simp at h
   | some k=>
    rw[hr]at h;simp at h;subst h;obtain⟨h1,h2,h3⟩:=Qfg r k hr;refine⟨by rw[mono,hx]; simpa using h1,fun h=>?_,by simp[Qgu,hx]⟩
    rw[WE,hx];exact h2 (by simpa using h)
  ·rw[hx]at h;simp at h;subst h;refine⟨by rw[mono]; simp[Qkv,hx],fun h=>QnQ (x::r) (by simp) (by simpa using h) false,by simp[Qgu,hx]⟩
theorem QnL (t:Ty):QbM t true=itP t 1:=by
 unfold QbM itP;cases h:t.items.findIdx? It.extra with
 | none=>
  obtain⟨h1,h2,h3⟩:=Qfh _ h;rw[h1,h2,h3];cases t.items with
  | nil=>rfl
  | cons x r=>
   have:(1:Int)<=(r.length:Int)+1:=by omega
   simp[this]
 | some j=>
  obtain⟨h1,h2,h3⟩:=Qfg _ j h;dsimp only;rw[h1,h3];have:decide ((1:Int)<=(j:Int))=decide (0<j):=by congr 1; apply propext; omega
  rw[this];cases q:(t.items.drop j).all It.extra
  ·simp
  ·rw[h2 q]; cases t.ext<;>simp
theorem Qvy (t:Ty):QbM t false=itP t 0:=by
 unfold QbM itP;cases h:t.items.findIdx? It.extra with
 | none=>
  obtain⟨h1,h2,h3⟩:=Qfh _ h;rw[h1,h2];simp
 | some j=>
  obtain⟨h1,h2,h3⟩:=Qfg _ j h;dsimp only;rw[h1];cases q:(t.items.drop j).all It.extra
  ·simp
  ·rw[h2 q]; cases t.ext<;>simp
theorem all_congr {α:Type}{p q:α->Bool}(l:List α)(h: ∀x,p x=q x):l.all p=l.all q:=by congr 1; funext x; exact h x
theorem Qsg (t:Ty)(ht:t.wid<=67108864)(ws:Nat)(h:Avm.H):Qb cfg ws 218 [t.enc] h=some (.bool (Qk t),h):=by
 unfold Qk;split
 ·rename_i q; rw[Quz t ht q ws h]; congr 3; first | done | (unfold Ty.Jz; cases t.n0<;>cases t.i0<;>cases t.k0<;>cases t.l0<;>cases t.h0<;>cases t.free<;>cases t.ext<;>rfl)
 split
 ·rename_i q; rw[Quy t ht q ws h]; congr 3; first | done | (unfold Ty.Jz; cases t.n0<;>cases t.i0<;>cases t.k0<;>cases t.l0<;>cases t.h0<;>cases t.free<;>cases t.ext<;>rfl)
 split
 ·rename_i q; rw[Qut t ht q ws h]; congr 3; first | done | (unfold Ty.Jz; cases t.n0<;>cases t.i0<;>cases t.k0<;>cases t.l0<;>cases t.h0<;>cases t.free<;>cases t.ext<;>rfl)
 split
 ·rename_i q; rw[Qsh t ht q ws h]; congr 3; first | done | (unfold Ty.Jz; cases t.n0<;>cases t.i0<;>cases t.k0<;>cases t.l0<;>cases t.h0<;>cases t.free<;>cases t.ext<;>rfl)
 split
 ·rename_i q; rw[Qux t ht q ws h]; congr 3; first | done | (unfold Ty.QbK; cases t.n0<;>cases t.i0<;>cases t.k0<;>rfl)
 split
 ·rename_i q; rw[Quw t ht q ws h]; congr 3; first | done | (rw[QnL,all_congr (q:=JW) t.items (fun x=>by rw[q]; unfold XN JW; cases x.opt<;>cases x.Qy.isEmpty<;>cases x.of.same Ty.zero<;>rfl)]; unfold Ty.oEI; cases t.n0<;>cases t.k0<;>cases t.l0<;>cases t.h0<;>cases t.free<;>cases itP t 1<;>rfl)
 split
 ·rename_i q; rw[Quv t ht q ws h]; congr 3; first | done | (unfold Ty.QbK; cases t.n0<;>cases t.i0<;>cases t.k0<;>rfl)
 split
 ·rename_i q; rw[Quu t ht q ws h]; congr 3; first | done | (unfold Ty.QbK; cases t.n0<;>cases t.i0<;>cases t.k0<;>rfl)
 split
 ·rename_i q; rw[Qus t ht q ws h]; congr 3; first | done | (unfold Ty.Qek; cases t.n0<;>cases t.i0<;>cases decide (t.kids.length=1)<;>cases XK t 0 200<;>rfl)
 split
 ·rename_i q; rw[Qur t ht q ws h]; congr 3; first | done | (rw[Qvy]; unfold Ty.oEI; cases t.n0<;>cases t.k0<;>cases t.l0<;>cases t.h0<;>cases t.free<;>cases itP t 0<;>rfl)
 split
 ·rename_i q; rw[Quq t ht q ws h]; congr 3; first | done | (rw[QnL,all_congr (q:=XN) t.items (fun x=>by rw[q]; unfold XN; cases x.opt<;>cases x.Qy.isEmpty<;>cases x.of.same Ty.zero<;>rfl)]; unfold Ty.oEI; cases t.n0<;>cases t.k0<;>cases t.l0<;>cases t.h0<;>cases t.free<;>cases itP t 1<;>rfl)
 rename_i q0 q1 q6 q11 q2 q3 q4 q5 q7 q8 q9;by_cases q:t.kind=10
 ·rw[decide_eq_true q,Bool.true_and,Qsi t ht q ws h]; congr 3; first | done | (unfold Ty.oNK; cases t.i0<;>cases t.l0<;>cases t.h0<;>cases t.free<;>cases t.ext<;>rfl)
 ·refine Qc rfl rfl ?_
  simp[YC,Yx,q,q0,q1,q6,q11,q2,q3,q4,q5,q7,q8,q9]
theorem Qoa (t:Ty)(ht:t.wid<=67108864)(hb:t.nodes<=67108864)(h:Avm.H): ∃g,Qa (evC (Qb cfg) Qa cfg.pol h.length h.length QfL) [3,4] [(3,.isl (t.QX.map Ty.enc)),(4,.int .i64 (0:Nat))] (h++([.arr 0 8 [t.enc]]++ []))=some (if(t.QX).all Qk=true then(.exit 0,[(3,.isl (t.QX.map Ty.enc)),(4,.int .i64 (t.QX).length)],h++([.arr 0 8 [t.enc]]++g))else(.ret,[(2,.bool false)],h++([.arr 0 8 [t.enc]]++g))):=by
 have hl:(t.QX).length<=67108864:=(by have:=JK _ t (Nat.le_refl _); omega)
 have hlp:=Qg (γ:=Avm.H) (f:=evC (Qb cfg) Qa cfg.pol h.length h.length QfL) (keep:=[3,4]) (t.QX) (fun _ _=>True)
      (fun i _=>[(3,.isl (t.QX.map Ty.enc)),(4,.int .i64 i)]) (fun _ g=>h++([.arr 0 8 [t.enc]]++g))
      (fun _ r o=>∃g,o=if r.all Qk=true then(.exit 0,[(3,.isl (t.QX.map Ty.enc)),(4,.int .i64 (t.QX).length)],h++([.arr 0 8 [t.enc]]++g))else(.ret,[(2,.bool false)],h++([.arr 0 8 [t.enc]]++g))) ?_ ?_ [] trivial
 ·obtain⟨o,h1,g,h2⟩:=hlp;exact⟨g,h2▸h1⟩
 ·intro i x r g hd hi hx _ K hK;have hw:=Qd (n:=i+1) (by omega)
  simp at hw;have hm:x∈(t.QX):=by rw[←hx]; exact List.getElem_mem hi
  have hkn:=Qsg x (Nat.le_trans (Qed _ t (Nat.le_refl _) x hm).1 ht);cases hv:Qk x
  ·refine⟨_,?_,g,by simp only[List.all_cons,hv,Bool.false_and,Bool.false_eq_true,if_false]; rfl⟩
   simp only[hv]at hkn;simp at hkn;simp[QfL,hi,hx,hkn,]
  ·obtain⟨o,h4,g2,h5⟩:=hK g trivial;refine⟨o,?_,g2,by simp only[List.all_cons,hv,Bool.true_and]; exact h5⟩
   simp at h4;simp only[hv]at hkn;simp at hkn;simp[QfL,hi,hx,hkn,hw,h4]
 ·intro g K _;refine⟨_,?_,g,by simp only[List.all_nil,if_true]; rfl⟩
  simp[QfL]
theorem QkK (t:Ty)(ht:t.wid<=67108864)(hb:t.nodes<=67108864)(ws:Nat)(h:Avm.H):Qb cfg ws 137 [t.enc] h=some (.bool (t.QH Qk),h):=by
 have h1:=QaN _ t (Nat.le_refl _) ht hb;obtain⟨g,hl⟩:=Qoa t ht hb h;rw[Wd _ _ t (Nat.le_refl _)]at hl;refine Qc rfl rfl ?_
 simp at h1;cases q:t.QH Qk<;>rw[q]at hl<;>simp at hl<;>simp[QEI,QDI,h1,hl]
end Go.Proofs.YtflbneepngjglaaGreatDoor
namespace Go.Proofs.YtflbneepngjglaaGreatDoor
open Go Go.Avm
def Ty.par(ps:List ByteArray)(t:Ty):Option Nat:=if t.kind=10/\t.kids=[]then ps.findIdx? (eqS t.name)else none
def It.QU(x:It)(t:Ty):It:=.mk x.name t x.opt x.extra x.Qy
def Ty.put(ps:List ByteArray)(args:List Ty)(t:Ty):Ty:=match t.par ps with
 | some i=>args[i]?.getD Ty.zero
 | none=>.mk t.kind t.name t.lo t.hi t.free t.ext (t.items.attach.map fun x=>x.1.QU (x.1.of.put ps args)) (t.kids.attach.map fun x=>x.1.put ps args)
termination_by t.size
decreasing_by
 ·exact Ty.mem_of x.2
 ·exact Ty.Xa x.2
theorem Ty.put_eq(ps:List ByteArray)(args:List Ty)(t:Ty):t.put ps args=match t.par ps with
 | some i=>args[i]?.getD Ty.zero
 | none=>.mk t.kind t.name t.lo t.hi t.free t.ext (t.items.map fun x=>x.QU (x.of.put ps args)) (t.kids.map fun x=>x.put ps args):=by
 rw[Ty.put,Yk t.items (fun x=>x.QU (x.of.put ps args)),Yk t.kids (fun x=>x.put ps args)]
theorem QtH (l:List It)(hl:l.length<=67108864)(ws:Nat)(h:Avm.H):Qb cfg ws 98 [.isl (l.map It.enc)] h=some (.osl h.length 0 12 0 l.length,h++ [.arr 0 12 (l.map It.enc)]):=by
 refine QP rfl ?_
 have:l.length<=lim:=by unfold lim; omega
 simp[Ju,this]
theorem YP {α β γ:Type}(f:β->γ)(g:α->β)(l:List α):List.take l.length ((l.map g).map f)=(l.map g).map f:=List.take_of_length_le (by simp)
def upto {α:Type}(f:α->α)(l:List α)(i:Nat):List α:=(l.take i).map f++l.drop i
theorem QdQ {α β:Type}(f:α->α)(enc:α->β)(l:List α)(i:Nat)(hi:i<l.length):((upto f l i).map enc)[i]? =some (enc l[i]):=by
 unfold upto;rw[List.map_append,List.getElem?_append_right (by simp; omega)]
 simp[hi,Nat.min_eq_left (Nat.le_of_lt hi)]
theorem QdP {α β:Type}(f:α->α)(enc:α->β)(l:List α)(i:Nat)(hi:i<l.length):((upto f l i).map enc).set i (enc (f l[i]))=(upto f l (i+1)).map enc:=by
 unfold upto;rw[List.map_append,List.set_append_right _ _ (by simp; omega)]
 have h1:i-(((l.take i).map f).map enc).length=0:=by simp; omega
 rw[h1,List.take_succ_eq_append_getElem hi,List.drop_eq_getElem_cons hi];simp only[List.map_append,List.map_cons,List.map_nil,List.set_cons_zero,List.append_assoc,List.cons_append,List.nil_append]
theorem Qhx {α:Type}(f:α->α)(l:List α)(i:Nat):(upto f l i).length=l.length:=by unfold upto; simp; omega
theorem Qhy {α:Type}(f:α->α)(l:List α):upto f l l.length=l.map f:=by unfold upto; simp
theorem QeO {α:Type}(f:α->α)(l:List α):upto f l 0=l:=by unfold upto; simp
theorem QsB (t:Ty)(ht:t.wid<=67108864)(ps:List ByteArray)(args:List Ty)(h:Avm.H)(P:Ty->Ty)(hP: ∀x∈t.kids,∀ws h,Qb cfg ws 95 [x.enc,.isl (ps.map .str),.isl (args.map Ty.enc)] h=some ((P x).enc,h)):
    Qa (evC (Qb cfg) Qa cfg.pol h.length h.length QoI) [1,2,3,6,35,36] [(1,.isl (ps.map .str)),(2,.isl (args.map Ty.enc)),(3,.ptr h.length 0 8 0 0),(6,.ptr (h.length+1) 0 8 0 0),(35,.int .i64 t.kids.length),(36,.int .i64 (0:Nat))] (h++ [.arr 0 8 [.agg [.int .i64 t.kind,.str t.name,.int .i64 t.lo,.int .i64 t.hi,.bool t.free,.bool t.ext,.isl (t.items.map It.enc),.osl (h.length+2) 0 8 0 t.kids.length]],.arr 0 8 [Ty.zero.enc],.arr 0 8 ((upto P t.kids 0).map Ty.enc)])=some (.exit 0,[(1,.isl (ps.map .str)),(2,.isl (args.map Ty.enc)),(3,.ptr h.length 0 8 0 0),(6,.ptr (h.length+1) 0 8 0 0),(35,.int .i64 t.kids.length),(36,.int .i64 t.kids.length)],h++ [.arr 0 8 [.agg [.int .i64 t.kind,.str t.name,.int .i64 t.lo,.int .i64 t.hi,.bool t.free,.bool t.ext,.isl (t.items.map It.enc),.osl (h.length+2) 0 8 0 t.kids.length]],.arr 0 8 [Ty.zero.enc],.arr 0 8 ((upto P t.kids t.kids.length).map Ty.enc)]):=by
 have hwk:=t.ZK;refine QE (f:=evC (Qb cfg) Qa cfg.pol h.length h.length QoI) (keep:=[1,2,3,6,35,36]) t.kids (fun i=>[(1,.isl (ps.map .str)),(2,.isl (args.map Ty.enc)),(3,.ptr h.length 0 8 0 0),(6,.ptr (h.length+1) 0 8 0 0),(35,.int .i64 t.kids.length),(36,.int .i64 i)]) (fun i=>h++ [.arr 0 8 [.agg [.int .i64 t.kind,.str t.name,.int .i64 t.lo,.int .i64 t.hi,.bool t.free,.bool t.ext,.isl (t.items.map It.enc),.osl (h.length+2) 0 8 0 t.kids.length]],.arr 0 8 [Ty.zero.enc],.arr 0 8 ((upto P t.kids i).map Ty.enc)]) (fun _ _=>(.exit 0,[(1,.isl (ps.map .str)),(2,.isl (args.map Ty.enc)),(3,.ptr h.length 0 8 0 0),(6,.ptr (h.length+1) 0 8 0 0),(35,.int .i64 t.kids.length),(36,.int .i64 t.kids.length)],h++ [.arr 0 8 [.agg [.int .i64 t.kind,.str t.name,.int .i64 t.lo,.int .i64 t.hi,.bool t.free,.bool t.ext,.isl (t.items.map It.enc),.osl (h.length+2) 0 8 0 t.kids.length]],.arr 0 8 [Ty.zero.enc],.arr 0 8 ((upto P t.kids t.kids.length).map Ty.enc)])) ?_ ?_
 ·intro i x r hd hi hx K hK;have hw:=Qd (n:=i+1) (by omega)
  simp at hw;have hm:x∈t.kids:=by rw[←hx]; exact List.getElem_mem hi
  have hcl:=fun h'=>hP x hm h.length h'
  have hget:=QdQ P Ty.enc t.kids i hi;have hset:=QdP P Ty.enc t.kids i hi;rw[hx]at hget hset;have hln:=Qhx P t.kids i;generalize (upto P t.kids i).map Ty.enc=els at hget hset ⊢;simp at hcl hget hset hK;simp[QoI,hi,hcl,hget,hset,hw,hK]
 ·intro K;simp[QoI]
theorem QsA (t:Ty)(ht:t.wid<=67108864)(ps:List ByteArray)(args:List Ty)(h:Avm.H)(P:Ty->Ty)(Q:It->It)(hQ: ∀x,Q x=x.QU (P x.of))(hP: ∀x∈t.items,∀ws h,Qb cfg ws 95 [x.of.enc,.isl (ps.map .str),.isl (args.map Ty.enc)] h=some ((P x.of).enc,h)):
    Qa (evC (Qb cfg) Qa cfg.pol h.length h.length QoH) [1,2,3,6,58,59] [(1,.isl (ps.map .str)),(2,.isl (args.map Ty.enc)),(3,.ptr h.length 0 8 0 0),(6,.ptr (h.length+1) 0 8 0 0),(58,.int .i64 t.items.length),(59,.int .i64 (0:Nat))] (h++ [.arr 0 8 [.agg [.int .i64 t.kind,.str t.name,.int .i64 t.lo,.int .i64 t.hi,.bool t.free,.bool t.ext,.osl (h.length+3) 0 12 0 t.items.length,.osl (h.length+2) 0 8 0 t.kids.length]],.arr 0 8 [Ty.zero.enc],.arr 0 8 ((t.kids.map P).map Ty.enc),.arr 0 12 ((upto Q t.items 0).map It.enc)])=some (.exit 2,[(1,.isl (ps.map .str)),(2,.isl (args.map Ty.enc)),(3,.ptr h.length 0 8 0 0),(6,.ptr (h.length+1) 0 8 0 0),(58,.int .i64 t.items.length),(59,.int .i64 t.items.length)],h++ [.arr 0 8 [.agg [.int .i64 t.kind,.str t.name,.int .i64 t.lo,.int .i64 t.hi,.bool t.free,.bool t.ext,.osl (h.length+3) 0 12 0 t.items.length,.osl (h.length+2) 0 8 0 t.kids.length]],.arr 0 8 [Ty.zero.enc],.arr 0 8 ((t.kids.map P).map Ty.enc),.arr 0 12 ((upto Q t.items t.items.length).map It.enc)]):=by
 have hwk:=t.Qe;refine QE (f:=evC (Qb cfg) Qa cfg.pol h.length h.length QoH) (keep:=[1,2,3,6,58,59]) t.items (fun i=>[(1,.isl (ps.map .str)),(2,.isl (args.map Ty.enc)),(3,.ptr h.length 0 8 0 0),(6,.ptr (h.length+1) 0 8 0 0),(58,.int .i64 t.items.length),(59,.int .i64 i)]) (fun i=>h++ [.arr 0 8 [.agg [.int .i64 t.kind,.str t.name,.int .i64 t.lo,.int .i64 t.hi,.bool t.free,.bool t.ext,.osl (h.length+3) 0 12 0 t.items.length,.osl (h.length+2) 0 8 0 t.kids.length]],.arr 0 8 [Ty.zero.enc],.arr 0 8 ((t.kids.map P).map Ty.enc),.arr 0 12 ((upto Q t.items i).map It.enc)]) (fun _ _=>(.exit 2,[(1,.isl (ps.map .str)),(2,.isl (args.map Ty.enc)),(3,.ptr h.length 0 8 0 0),(6,.ptr (h.length+1) 0 8 0 0),(58,.int .i64 t.items.length),(59,.int .i64 t.items.length)],h++ [.arr 0 8 [.agg [.int .i64 t.kind,.str t.name,.int .i64 t.lo,.int .i64 t.hi,.bool t.free,.bool t.ext,.osl (h.length+3) 0 12 0 t.items.length,.osl (h.length+2) 0 8 0 t.kids.length]],.arr 0 8 [Ty.zero.enc],.arr 0 8 ((t.kids.map P).map Ty.enc),.arr 0 12 ((upto Q t.items t.items.length).map It.enc)])) ?_ ?_
 ·intro i x r hd hi hx K hK;have hw:=Qd (n:=i+1) (by omega)
  simp at hw;have hm:x∈t.items:=by rw[←hx]; exact List.getElem_mem hi
  have hcl:=fun h'=>hP x hm h.length h'
  have hget:=QdQ Q It.enc t.items i hi;have hset:=QdP Q It.enc t.items i hi;rw[hx]at hget hset;rw[hQ x]at hset;generalize (upto Q t.items i).map It.enc=els at hget hset ⊢;simp[It.QU]at hcl hget hset hK;simp[QoH,hi,hcl,hget,hset,hw,hK]
 ·intro K;simp[QoH]
theorem QpT (ps:List ByteArray)(args:List Ty)(hp:ps.length<=67108864)(hpa:ps.length=args.length): ∀(n:Nat) (t:Ty),t.size<=n->t.wid<=67108864-> ∀ws h,Qb cfg ws 95 [t.enc,.isl (ps.map .str),.isl (args.map Ty.enc)] h=some ((t.put ps args).enc,h)
 | 0,t,ht,_,_,_=>by have:=t.size_pos; omega
 | n+1,t,ht,hw0,ws,h=>by
  have hwk:=t.ZK;have hwi:=t.Qe;have l0:=QsB t hw0 ps args h (fun x=>x.put ps args) (fun x hx ws h=>QpT ps args hp hpa n x (by have:=Ty.Xa hx; omega) (Nat.le_trans (Ty.ZX hx) hw0) ws h)
  have l1:=QsA t hw0 ps args h (fun x=>x.put ps args) (fun x=>x.QU (x.of.put ps args)) (fun _=>rfl) (fun x hx ws h=>QpT ps args hp hpa n x.of (by have:=Ty.mem_of hx; omega) (Nat.le_trans (Ty.ZL hx) hw0) ws h)
  rw[QeO,Qhy]at l0;rw[QeO,Qhy]at l1;have hix:=fun ws h=>QkE ps t.name hp ws h
  have hck:=fun ws h=>QkU t.kids (by omega) ws h
  have hci:=fun ws h=>QtH t.items (by omega) ws h
  refine Qc rfl rfl ?_
  rw[Ty.put_eq];simp[Ty.zero,-List.map_map]at l0 l1;by_cases q10:t.kind=10
  ·by_cases qk:t.kids=[]
   ·cases qi:ps.findIdx? (eqS t.name)with
    | some i=>
     have hpar:t.par ps=some i:=by simp[Ty.par,q10,qk,qi]
     have hi:i<args.length:=by
      rw[List.findIdx?_eq_some_iff_getElem]at qi
      obtain⟨hj,_⟩:=qi;omega
     have hlk:(((t.kids.length:Nat):Int) == 0)=true:=by rw[qk]; rfl
     rw[hpar];simp[idxOf,qi]at hix;simp[F95,c95,q10,qk,hix,hi]
    | none=>
     have hpar:t.par ps=none:=by simp[Ty.par,q10,qk,qi]
     rw[hpar];simp[idxOf,qi]at hix;simp[q10,qk,-List.map_map]at l0 l1 hck;simp[F95,c95,q10,qk,hix,hck,hci,l0,l1,-List.map_map,YP]
   ·have hpar:t.par ps=none:=by simp[Ty.par,qk]
    rw[hpar];simp[q10,-List.map_map]at l0 l1;simp[F95,c95,q10,qk,hck,hci,l0,l1,-List.map_map,YP]
  ·have hpar:t.par ps=none:=by simp[Ty.par,q10]
   rw[hpar];simp[F95,c95,q10,hck,hci,l0,l1,-List.map_map,YP]
end Go.Proofs.YtflbneepngjglaaGreatDoor
