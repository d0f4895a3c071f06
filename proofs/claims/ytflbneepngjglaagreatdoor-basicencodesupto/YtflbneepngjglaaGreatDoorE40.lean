/- The two ways to put arguments in, and to look behind a type. -/
import Derived.Test.YtflbneepngjglaaGreatDoorE39
import Derived.Test.YtflbneepngjglaaGreatDoorE38
set_option linter.all false
namespace Go.Proofs.YtflbneepngjglaaGreatDoor
open Go Go.Avm
theorem QAa (m:Md)(hm:m.ok)(t:Ty)(ht:t.wid<=67108864)(v:Val)(hv:v.size<=67108864)(b:Ty)(hb:beh m 21 t=some b)(hb1:b.wid<=67108864)(hvk:v.kind=b.kind)(hk:b.kind=5)(ws:Nat)(h:Avm.H):Qb cfg ws 49 [m.enc,t.enc,v.enc] h=some (.bool (QM false true false v&&(v.bytes.data.toList.all d01&&ZE b (v.bytes.size:Int) 32000)),h):=by
 have hwi:=b.Qe;have hws:IntKind.wrap .i64 ((b.items.length:Int)-1)=(b.items.length:Int)-1:=Qo (by omega) (by omega)
 have hvb:=v.QK;have hbb:((v.bytes.size:Int)<=4000)↔v.bytes.size<=4000:=by omega
 have hvi:=v.Qv;have hvk0:=hvk;rw[hk]at hvk;have e0:=fun ws h=>Qmd v ws h
 have e1:=fun ws h=>QdL b (v.bytes.size:Int) 32000 ws h
 obtain⟨r,e2,hr⟩:=QjU v.bytes (by omega) h.length (h++ [.arr 0 2 [m.enc],.arr 0 8 [b.enc],.arr 0 4 [v.enc]])
 have hz:(⟨#[]⟩:ByteArray).toList=[]:=by rw[ByteArray.toList_eq]
 rw[←ByteArray.toList_eq]at hr;simp[hk,hvk,Md.enc]at e0 e1 e2;refine Qoi m hm t ht v b hb hvk0 hk ws h _ [] ?_
 cases p0:QM false true false v
 ·rw[p0]at e0;simp[Qfr,Md.enc,hk,hvk,e0]
 ·rw[p0]at e0;cases p1:v.bytes.data.toList.all d01
  ·rw[p1]at hr;have hr': ¬r.toList=[]:=fun e=>by have:=hr.1 e; cases this
   simp[Qfr,Md.enc,hk,hvk,e0,e2,hz,hr']
  ·rw[p1]at hr;have hr':r.toList=[]:=hr.2 rfl;simp[Qfr,Md.enc,hk,hvk,e0,e2,hz,hr',e1]
theorem QzY (m:Md)(hm:m.ok)(t:Ty)(ht:t.wid<=67108864)(v:Val)(hv:v.size<=67108864)(b:Ty)(hb:beh m 21 t=some b)(hb1:b.wid<=67108864)(hvk:v.kind=b.kind)(sub:Ty->Val->Bool)(hk1:b.kids.length=1)(hsub: ∀x∈v.items,∀ws h,Qb cfg ws 49 [m.enc,(b.kids.headD Ty.zero).enc,x.enc] h=some (.bool (sub (b.kids.headD Ty.zero) x),h))(hk:b.kind=7)(ws:Nat)(h:Avm.H):Qb cfg ws 49 [m.enc,t.enc,v.enc] h=some (.bool (QM false false true v&&(ZE b (v.items.length:Int) 200&&v.items.all (sub (b.kids.headD Ty.zero)))),h):=by
 have hwi:=b.Qe;have hws:IntKind.wrap .i64 ((b.items.length:Int)-1)=(b.items.length:Int)-1:=Qo (by omega) (by omega)
 have hvb:=v.QK;have hbb:((v.bytes.size:Int)<=4000)↔v.bytes.size<=4000:=by omega
 have hvi:=v.Qv;have hvk0:=hvk;rw[hk]at hvk;have e0:=fun ws h=>Qmc v ws h
 have e1:=fun ws h=>QdL b (v.items.length:Int) 200 ws h
 have e2:=QvU m t v hv b hb1 sub hsub hk1 h.length h;obtain⟨A,hA⟩: ∃A,v.items.all (sub (b.kids.headD Ty.zero))=A:=⟨_,rfl⟩;rw[hA]at e2 ⊢;simp[hk,hvk,Md.enc]at e0 e1;simp only[Md.enc,Ty.ZS,Val.ZS,hk,hvk]at e2;try simp at e2
 refine Qog m hm t ht v b hb hvk0 hk ws h _ [] ?_
 cases p0:QM false false true v
 ·rw[p0]at e0;simp[QcC,Md.enc,hk,hvk,e0]
 ·rw[p0]at e0;cases p1:ZE b (v.items.length:Int) 200
  ·rw[p1]at e1;simp[QcC,Md.enc,hk,hvk,e0,e1]
  ·rw[p1]at e1;simp[QcC,Md.enc,hk,hvk,e0,e1,e2]
end Go.Proofs.YtflbneepngjglaaGreatDoor
namespace Go.Proofs.YtflbneepngjglaaGreatDoor
open Go Go.Avm
theorem QzW (m:Md)(hm:m.ok)(t:Ty)(ht:t.wid<=67108864)(v:Val)(hv:v.size<=67108864)(b:Ty)(hb:beh m 21 t=some b)(hb1:b.wid<=67108864)(hvk:v.kind=b.kind)(sub:Ty->Val->Bool)(hsub: ∀i∈b.items,∀x∈v.items,∀ws h,Qb cfg ws 49 [m.enc,i.of.enc,x.enc] h=some (.bool (sub i.of x),h))(hk:b.kind=9)(ws:Nat)(h:Avm.H):Qb cfg ws 49 [m.enc,t.enc,v.enc] h=some (.bool (QM true false true v&&(inP v.int 0 ((b.items.length:Int)-1)&&(decide (v.items.length=1)&&sub ((b.items[v.int.toNat]?.map It.of).getD Ty.zero) (v.items.headD (.mk 0 0 ⟨#[]⟩ []))))),h):=by
 have hwi:=b.Qe;have hws:IntKind.wrap .i64 ((b.items.length:Int)-1)=(b.items.length:Int)-1:=Qo (by omega) (by omega)
 have hvb:=v.QK;have hbb:((v.bytes.size:Int)<=4000)↔v.bytes.size<=4000:=by omega
 have hvi:=v.Qv;have hvk0:=hvk;rw[hk]at hvk;have e0:=fun ws h=>QvM v ws h
 have e1:=fun ws h=>Qgr v.int 0 ((b.items.length:Int)-1) ws h
 simp[hk,hvk,Md.enc]at e0 e1;refine Qof m hm t ht v b hb hvk0 hk ws h _ [] ?_
 cases p0:QM true false true v
 ·rw[p0]at e0;simp[Qbd,Md.enc,hk,hvk,hws,e0]
 ·rw[p0]at e0;cases p1:inP v.int 0 ((b.items.length:Int)-1)
  ·rw[p1]at e1;simp[Qbd,Md.enc,hk,hvk,hws,e0,e1]
  ·rw[p1]at e1;simp only[inP,Bool.and_eq_true,decide_eq_true_eq]at p1;by_cases p2:v.items.length=1
   ·obtain⟨x,hx⟩:=List.length_eq_one_iff.1 p2;obtain⟨n,hn⟩:=Int.eq_ofNat_of_zero_le p1.1;have hnb:n<b.items.length:=by omega
    obtain⟨y,hy⟩: ∃y,b.items[n]=y:=⟨_,rfl⟩;have e2:=fun ws h=>hsub y (by rw[←hy]; exact List.getElem_mem hnb) x (by rw[hx]; simp) ws h
    simp[Md.enc,hx,hn]at e0 e1 e2;simp[Qbd,Md.enc,hk,hvk,hws,e0,e1,hx,hn,hnb,hy,e2]
   ·have p2': ¬((v.items.length:Nat):Int)=1:=by omega
    simp[Qbd,Md.enc,hk,hvk,hws,e0,e1,p2,p2']
theorem QzX (m:Md)(hm:m.ok)(t:Ty)(ht:t.wid<=67108864)(v:Val)(hv:v.size<=67108864)(b:Ty)(hb:beh m 21 t=some b)(hb1:b.wid<=67108864)(hvk:v.kind=b.kind)(sub:Ty->Val->Bool)(hsub: ∀i∈b.items,∀x∈v.items,∀ws h,Qb cfg ws 49 [m.enc,i.of.enc,x.enc] h=some (.bool (sub i.of x),h))(hk:b.kind=8)(ws:Nat)(h:Avm.H):Qb cfg ws 49 [m.enc,t.enc,v.enc] h=some (.bool (QM false false true v&&(decide (v.items.length=b.items.length)&&(b.items.zip v.items).all (ZF sub))),h):=by
 have hwi:=b.Qe;have hws:IntKind.wrap .i64 ((b.items.length:Int)-1)=(b.items.length:Int)-1:=Qo (by omega) (by omega)
 have hvb:=v.QK;have hbb:((v.bytes.size:Int)<=4000)↔v.bytes.size<=4000:=by omega
 have hvi:=v.Qv;have hvk0:=hvk;rw[hk]at hvk;have e0:=fun ws h=>Qmc v ws h
 simp[hk,hvk,Md.enc]at e0;cases p0:QM false false true v
 ·rw[p0]at e0;refine WH m hm t ht v b hb hvk0 hk ws h _ [] ?_
  simp[Qdv,Md.enc,hk,hvk,e0]
 ·rw[p0]at e0;by_cases p1:v.items.length=b.items.length
  ·obtain⟨g,e1⟩:=Qtm m b v p1 (by omega) sub hsub h
   simp only[Md.enc,Ty.ZS,Val.ZS,hk,hvk]at e1;cases p2:(b.items.zip v.items).all (ZF sub)
   ·rw[p2]at e1;simp[p1]at e1;refine WH m hm t ht v b hb hvk0 hk ws h _ g ?_
    simp[Qdv,Md.enc,hk,hvk,e0,p1,e1]
   ·rw[p2]at e1;simp[p1]at e1;refine WH m hm t ht v b hb hvk0 hk ws h _ g ?_
    simp[Qdv,Md.enc,hk,hvk,e0,p1,e1]
  ·have p1': ¬((v.items.length:Nat):Int)=(b.items.length:Nat):=by omega
   refine WH m hm t ht v b hb hvk0 hk ws h _ [] ?_
   simp[Qdv,Md.enc,hk,hvk,e0,p1,p1']
theorem Qtl (m:Md)(hm:m.ok)(t:Ty)(ht:t.wid<=67108864)(v:Val)(hb:beh m 21 t=none)(ws:Nat)(h:Avm.H):Qb cfg ws 49 [m.enc,t.enc,v.enc] h=some (.bool false,h):=by
 have hbe:=fun ws h=>ZC m hm t ht ws h
 rw[hb]at hbe;simp[Md.enc,Ty.zero]at hbe;refine Qc rfl rfl ?_
 simp[F49,c49,Md.enc,Ty.zero,hbe]
theorem Qyg (m:Md)(hm:m.ok)(t:Ty)(ht:t.wid<=67108864)(v:Val)(b:Ty)(hb:beh m 21 t=some b)(hvk: ¬v.kind=b.kind)(ws:Nat)(h:Avm.H):Qb cfg ws 49 [m.enc,t.enc,v.enc] h=some (.bool false,h):=by
 have hbe:=fun ws h=>ZC m hm t ht ws h
 rw[hb]at hbe;simp[Md.enc,Ty.zero]at hbe;refine Qc rfl rfl ?_
 simp[F49,c49,Md.enc,Ty.zero,hbe,hvk]
end Go.Proofs.YtflbneepngjglaaGreatDoor
namespace Go.Proofs.YtflbneepngjglaaGreatDoor
open Go Go.Avm
theorem QhV {t:Ty}(h:Qk t=true)(hk:t.kind=7):t.kids.length=1:=by
 unfold Qk at h;simp[hk]at h;exact h.2.2
theorem QhU {t:Ty}(h:Qk t=true)(h10:t.kind≠10)(n0: ¬t.kind=0)(n1: ¬t.kind=1)(n2: ¬t.kind=2)(n3: ¬t.kind=3)(n4: ¬t.kind=4)(n5: ¬t.kind=5)(n6: ¬t.kind=6)(n11: ¬t.kind=11)(n7: ¬t.kind=7)(n9: ¬t.kind=9):t.kind=8:=by
 unfold Qk at h;rw[if_neg n0,if_neg n1,if_neg n6,if_neg n11,if_neg n2,if_neg n3,if_neg n4,if_neg n5,if_neg n7]at h;by_cases q8:t.kind=8
 ·exact q8
 ·rw[if_neg q8,if_neg n9]at h;simp[h10]at h
theorem Qhh (m:Md)(hm:m.ok)(hf:m.fm): ∀(n:Nat) (v:Val),v.size<=n->v.size<=67108864-> ∀t:Ty,t.wid<=67108864->t.QH Qk=true-> ∀ws h,Qb cfg ws 49 [m.enc,t.enc,v.enc] h=some (.bool (Xu m n t v),h)
 | 0,v,hn,_,_,_,_,_,_=>by have:=v.size_pos; omega
 | n+1,v,hn,hv,t,ht,hr,ws,h=>by
  rw[Xu];cases hb:beh m 21 t with
  | none=>exact Qtl m hm t ht v hb ws h
  | some b=>
   dsimp only;obtain⟨hbw,hbr,hb10⟩:=QeD m hm hf ht hr hb;have hbs:=QZ hbr;by_cases hvk:v.kind=b.kind
   ·rw[decide_eq_true hvk,Bool.true_and]
    have hsubI:b.comp=true-> ∀i∈b.items,∀x∈v.items,∀ws h,Qb cfg ws 49 [m.enc,i.of.enc,x.enc] h=some (.bool (Xu m n i.of x),h):=fun hc i hi x hx ws h=>
     Qhh m hm hf n x (by have:=Val.Qu hx; omega) (by have:=Val.Qu hx; omega) i.of (Nat.le_trans (Ty.ZL hi) hbw) (QC hbr (by unfold Ty.inner; rw[if_pos hc]; exact List.mem_append_right _ (List.mem_map_of_mem hi))) ws h
    unfold Yt;by_cases q0:b.kind=0
    ·rw[if_pos q0]; exact QAf m hm t ht v hv b hb hbw hvk q0 ws h
    rw[if_neg q0];by_cases q1:b.kind=1
    ·rw[if_pos q1]; exact QAe m hm t ht v hv b hb hbw hvk q1 ws h
    rw[if_neg q1];by_cases q2:b.kind=2
    ·rw[if_pos q2]; exact QAd m hm t ht v hv b hb hbw hvk q2 ws h
    rw[if_neg q2];by_cases q3:b.kind=3
    ·rw[if_pos q3]; exact QAc m hm t ht v hv b hb hbw hvk q3 ws h
    rw[if_neg q3];by_cases q4:b.kind=4
    ·rw[if_pos q4]; exact QAb m hm t ht v hv b hb hbw hvk q4 ws h
    rw[if_neg q4];by_cases q5:b.kind=5
    ·rw[if_pos q5]; exact QAa m hm t ht v hv b hb hbw hvk q5 ws h
    rw[if_neg q5];by_cases q6:b.kind=6
    ·rw[if_pos q6]; exact QzZ m hm t ht v hv b hb hbw hvk q6 ws h
    rw[if_neg q6];by_cases q11:b.kind=11
    ·rw[if_pos q11]; exact Qyh m hm t ht v hv b hb hbw hvk q11 ws h
    rw[if_neg q11];by_cases q7:b.kind=7
    ·rw[if_pos q7];have hk1:=QhV hbs q7;obtain⟨kd,hkd⟩:=List.length_eq_one_iff.1 hk1;have hkm:b.kids.headD Ty.zero∈b.kids:=by rw[hkd]; simp
     exact QzY m hm t ht v hv b hb hbw hvk (Xu m n) hk1 (fun x hx ws h=>Qhh m hm hf n x (by have:=Val.Qu hx; omega) (by have:=Val.Qu hx; omega) _ (Nat.le_trans (Ty.ZX hkm) hbw) (QC hbr (List.mem_append_left _ hkm)) ws h) q7 ws h
    rw[if_neg q7];by_cases q9:b.kind=9
    ·rw[if_pos q9]; exact QzW m hm t ht v hv b hb hbw hvk (Xu m n) (hsubI (by unfold Ty.comp; simp[q9])) q9 ws h
    rw[if_neg q9];have q8:=QhU hbs hb10 q0 q1 q2 q3 q4 q5 q6 q11 q7 q9;exact QzX m hm t ht v hv b hb hbw hvk (Xu m n) (hsubI (by unfold Ty.comp; simp[q8])) q8 ws h
   ·rw[decide_eq_false hvk,Bool.false_and];exact Qyg m hm t ht v b hb hvk ws h
end Go.Proofs.YtflbneepngjglaaGreatDoor
namespace Go.Proofs.YtflbneepngjglaaGreatDoor
open Go Go.Avm
def Ty.JS(ps:List ByteArray)(args:List Ty)(t:Ty):Ty:=match t.par ps with
 | some i=>args[i]?.getD Ty.zero
 | none=>.mk t.kind t.name t.lo t.hi t.free t.ext (t.items.attach.map fun x=>if t.comp then x.1.QU (x.1.of.JS ps args)else x.1) (t.kids.attach.map fun x=>x.1.JS ps args)
termination_by t.size
decreasing_by
 ·exact Ty.mem_of x.2
 ·exact Ty.Xa x.2
theorem Ty.Qcn(ps:List ByteArray)(args:List Ty)(t:Ty):t.JS ps args=match t.par ps with
 | some i=>args[i]?.getD Ty.zero
 | none=>.mk t.kind t.name t.lo t.hi t.free t.ext (t.items.map fun x=>if t.comp then x.QU (x.of.JS ps args)else x) (t.kids.map fun x=>x.JS ps args):=by
 rw[Ty.JS,Yk t.items (fun x=>if t.comp then x.QU (x.of.JS ps args)else x),Yk t.kids (fun x=>x.JS ps args)]
theorem QpC (t:Ty)(ht:t.wid<=67108864)(ps:List ByteArray)(args:List Ty)(h:Avm.H)(hp:ps.length<=67108864)(hpa:ps.length=args.length):
    Qa (evC (Qb cfg) Qa cfg.pol h.length h.length QdD) [1,2,3,6,7] [(1,.isl (ps.map .str)),(2,.isl (args.map Ty.enc)),(3,.ptr h.length 0 8 0 0),(6,.ptr (h.length+1) 0 8 0 0),(7,.int .i64 (0:Nat))] (h++ [.arr 0 8 [t.enc],.arr 0 8 [.agg [.int .i64 0,.str ⟨#[]⟩,.int .i64 0,.int .i64 0,.bool false,.bool false,.esl,.esl]]])=some (match (ps).findIdx? (fun p=>eqS p t.name)with | some j=>(.ret,[(6,.ptr (h.length+1) 0 8 0 0)],h++ [.arr 0 8 [t.enc],.arr 0 8 [(args[j]?.getD Ty.zero).enc]]) | none=>(.exit 0,[(1,.isl (ps.map .str)),(2,.isl (args.map Ty.enc)),(3,.ptr h.length 0 8 0 0),(6,.ptr (h.length+1) 0 8 0 0),(7,.int .i64 ps.length)],h++ [.arr 0 8 [t.enc],.arr 0 8 [.agg [.int .i64 0,.str ⟨#[]⟩,.int .i64 0,.int .i64 0,.bool false,.bool false,.esl,.esl]]])):=by
 have hlp:=QE (f:=evC (Qb cfg) Qa cfg.pol h.length h.length QdD) (keep:=[1,2,3,6,7]) ps (fun i=>[(1,.isl (ps.map .str)),(2,.isl (args.map Ty.enc)),(3,.ptr h.length 0 8 0 0),(6,.ptr (h.length+1) 0 8 0 0),(7,.int .i64 i)]) (fun _=>h++ [.arr 0 8 [t.enc],.arr 0 8 [.agg [.int .i64 0,.str ⟨#[]⟩,.int .i64 0,.int .i64 0,.bool false,.bool false,.esl,.esl]]])
      (fun i r=>match (r).findIdx? (fun p=>eqS p t.name)with | some j=>(.ret,[(6,.ptr (h.length+1) 0 8 0 0)],h++ [.arr 0 8 [t.enc],.arr 0 8 [(args[(i+j)]?.getD Ty.zero).enc]]) | none=>(.exit 0,[(1,.isl (ps.map .str)),(2,.isl (args.map Ty.enc)),(3,.ptr h.length 0 8 0 0),(6,.ptr (h.length+1) 0 8 0 0),(7,.int .i64 ps.length)],h++ [.arr 0 8 [t.enc],.arr 0 8 [.agg [.int .i64 0,.str ⟨#[]⟩,.int .i64 0,.int .i64 0,.bool false,.bool false,.esl,.esl]]])) ?_ ?_
 ·simp only[Nat.zero_add]at hlp;exact hlp
 ·intro i x r hd hi hx K hK;have hw:=Qd (n:=i+1) (by omega)
  simp at hw;have hia:i<args.length:=by omega
  rw[List.findIdx?_cons]
  by_cases hv:x.toList=t.name.toList
  ·have hv':eqS x t.name=true:=by unfold eqS; exact decide_eq_true hv
   simp only[hv',if_true];simp[QdD,hi,hx,hv,hia]
  ·have hv':eqS x t.name=false:=by unfold eqS; exact decide_eq_false hv
   simp only[hv',Bool.false_eq_true,if_false];cases hq:r.findIdx? (fun p=>eqS p t.name)with
   | none=>
    rw[hq]at hK;simp at hK;simp[QdD,hi,hx,hv,hw,hK]
   | some j=>
    rw[hq]at hK;dsimp only at hK;rw[show i+1+j=i+(j+1)by omega]at hK
    simp at hK;simp[QdD,hi,hx,hv,hw,hK]
 ·intro K;simp[QdD]
theorem QpB (t:Ty)(ht:t.wid<=67108864)(ps:List ByteArray)(args:List Ty)(h:Avm.H)(P:Ty->Ty)(Q:It->It)(hQ: ∀x,Q x=if t.comp then x.QU (P x.of)else x)(hP:t.comp=true-> ∀x∈t.items,∀ws h,Qb cfg ws 142 [x.of.enc,.isl (ps.map .str),.isl (args.map Ty.enc)] h=some ((P x.of).enc,h)):
    Qa (evC (Qb cfg) Qa cfg.pol h.length h.length QdC) [1,2,3,6,8,9] [(1,.isl (ps.map .str)),(2,.isl (args.map Ty.enc)),(3,.ptr h.length 0 8 0 0),(6,.ptr (h.length+1) 0 8 0 0),(8,.ptr (h.length+2) 0 8 0 0),(9,.int .i64 (0:Nat))] (h++ [.arr 0 8 [t.enc],.arr 0 8 [.agg [.int .i64 0,.str ⟨#[]⟩,.int .i64 0,.int .i64 0,.bool false,.bool false,.esl,.esl]],.arr 0 8 [.agg [.int .i64 t.kind,.str t.name,.int .i64 t.lo,.int .i64 t.hi,.bool t.free,.bool t.ext,.osl (h.length+3) 1 12 0 t.items.length,.isl (t.kids.map Ty.enc)]],.arr 1 12 ((upto Q t.items 0).map It.enc)])=some (.exit 2,[(1,.isl (ps.map .str)),(2,.isl (args.map Ty.enc)),(3,.ptr h.length 0 8 0 0),(6,.ptr (h.length+1) 0 8 0 0),(8,.ptr (h.length+2) 0 8 0 0),(9,.int .i64 t.items.length)],h++ [.arr 0 8 [t.enc],.arr 0 8 [.agg [.int .i64 0,.str ⟨#[]⟩,.int .i64 0,.int .i64 0,.bool false,.bool false,.esl,.esl]],.arr 0 8 [.agg [.int .i64 t.kind,.str t.name,.int .i64 t.lo,.int .i64 t.hi,.bool t.free,.bool t.ext,.osl (h.length+3) 1 12 0 t.items.length,.isl (t.kids.map Ty.enc)]],.arr 1 12 ((upto Q t.items t.items.length).map It.enc)]):=by
 have hwk:=t.Qe;refine QE (f:=evC (Qb cfg) Qa cfg.pol h.length h.length QdC) (keep:=[1,2,3,6,8,9]) t.items (fun i=>[(1,.isl (ps.map .str)),(2,.isl (args.map Ty.enc)),(3,.ptr h.length 0 8 0 0),(6,.ptr (h.length+1) 0 8 0 0),(8,.ptr (h.length+2) 0 8 0 0),(9,.int .i64 i)]) (fun i=>h++ [.arr 0 8 [t.enc],.arr 0 8 [.agg [.int .i64 0,.str ⟨#[]⟩,.int .i64 0,.int .i64 0,.bool false,.bool false,.esl,.esl]],.arr 0 8 [.agg [.int .i64 t.kind,.str t.name,.int .i64 t.lo,.int .i64 t.hi,.bool t.free,.bool t.ext,.osl (h.length+3) 1 12 0 t.items.length,.isl (t.kids.map Ty.enc)]],.arr 1 12 ((upto Q t.items i).map It.enc)]) (fun _ _=>(.exit 2,[(1,.isl (ps.map .str)),(2,.isl (args.map Ty.enc)),(3,.ptr h.length 0 8 0 0),(6,.ptr (h.length+1) 0 8 0 0),(8,.ptr (h.length+2) 0 8 0 0),(9,.int .i64 t.items.length)],h++ [.arr 0 8 [t.enc],.arr 0 8 [.agg [.int .i64 0,.str ⟨#[]⟩,.int .i64 0,.int .i64 0,.bool false,.bool false,.esl,.esl]],.arr 0 8 [.agg [.int .i64 t.kind,.str t.name,.int .i64 t.lo,.int .i64 t.hi,.bool t.free,.bool t.ext,.osl (h.length+3) 1 12 0 t.items.length,.isl (t.kids.map Ty.enc)]],.arr 1 12 ((upto Q t.items t.items.length).map It.enc)])) ?_ ?_
 ·intro i x r hd hi hx K hK;have hw:=Qd (n:=i+1) (by omega)
  simp at hw;have hm:x∈t.items:=by rw[←hx]; exact List.getElem_mem hi
  have hget:=QdQ Q It.enc t.items i hi;have hset:=QdP Q It.enc t.items i hi;have hln:=Qhx Q t.items i;have hln1:=Qhx Q t.items (i+1);rw[hx]at hget hset;rw[hQ x]at hset;cases hc:t.comp
  ·have hsame:(upto Q t.items (i+1)).map It.enc=(upto Q t.items i).map It.enc:=by
     rw[←hset,hc];simp only[Bool.false_eq_true,if_false];refine List.ext_getElem? fun k=>?_
     rw[List.getElem?_set]
     split
     ·rename_i e; subst e; rw[hget]; split<;>simp_all
     ·rfl
   rw[hsame]at hK;generalize (upto Q t.items i).map It.enc=els at hget hK ⊢;unfold Ty.comp at hc;simp at hc;simp at hK;simp[QdC,hi,hc.1,hc.2,hw,hK]
  ·have hcl:=fun h'=>hP hc x hm h.length h'
   rw[hc]at hset;simp only[if_true]at hset;generalize (upto Q t.items i).map It.enc=els at hget hset ⊢;simp[It.QU]at hcl hget hset hK;unfold Ty.comp at hc;by_cases q8:t.kind=8
   ·simp[q8]at hK;simp[QdC,hi,hx,q8,hcl,hget,hset,hw,hK]
   ·have q9:t.kind=9:=by simpa[q8]using hc
    simp[q9]at hK;simp[QdC,hi,hx,q9,hcl,hget,hset,hw,hK]
 ·intro K;simp[QdC]
theorem QpA (t:Ty)(ht:t.wid<=67108864)(ps:List ByteArray)(args:List Ty)(h:Avm.H)(P:Ty->Ty)(Q:It->It)(hP: ∀x∈t.kids,∀ws h,Qb cfg ws 142 [x.enc,.isl (ps.map .str),.isl (args.map Ty.enc)] h=some ((P x).enc,h)):
    Qa (evC (Qb cfg) Qa cfg.pol h.length h.length Qjc) [1,2,3,6,8,10] [(1,.isl (ps.map .str)),(2,.isl (args.map Ty.enc)),(3,.ptr h.length 0 8 0 0),(6,.ptr (h.length+1) 0 8 0 0),(8,.ptr (h.length+2) 0 8 0 0),(10,.int .i64 (0:Nat))] (h++ [.arr 0 8 [t.enc],.arr 0 8 [.agg [.int .i64 0,.str ⟨#[]⟩,.int .i64 0,.int .i64 0,.bool false,.bool false,.esl,.esl]],.arr 0 8 [.agg [.int .i64 t.kind,.str t.name,.int .i64 t.lo,.int .i64 t.hi,.bool t.free,.bool t.ext,.osl (h.length+3) 1 12 0 t.items.length,.osl (h.length+4) 1 8 0 t.kids.length]],.arr 1 12 ((t.items.map Q).map It.enc),.arr 1 8 ((upto P t.kids 0).map Ty.enc)])=some (.exit 4,[(1,.isl (ps.map .str)),(2,.isl (args.map Ty.enc)),(3,.ptr h.length 0 8 0 0),(6,.ptr (h.length+1) 0 8 0 0),(8,.ptr (h.length+2) 0 8 0 0),(10,.int .i64 t.kids.length)],h++ [.arr 0 8 [t.enc],.arr 0 8 [.agg [.int .i64 0,.str ⟨#[]⟩,.int .i64 0,.int .i64 0,.bool false,.bool false,.esl,.esl]],.arr 0 8 [.agg [.int .i64 t.kind,.str t.name,.int .i64 t.lo,.int .i64 t.hi,.bool t.free,.bool t.ext,.osl (h.length+3) 1 12 0 t.items.length,.osl (h.length+4) 1 8 0 t.kids.length]],.arr 1 12 ((t.items.map Q).map It.enc),.arr 1 8 ((upto P t.kids t.kids.length).map Ty.enc)]):=by
 have hwk:=t.ZK;refine QE (f:=evC (Qb cfg) Qa cfg.pol h.length h.length Qjc) (keep:=[1,2,3,6,8,10]) t.kids (fun i=>[(1,.isl (ps.map .str)),(2,.isl (args.map Ty.enc)),(3,.ptr h.length 0 8 0 0),(6,.ptr (h.length+1) 0 8 0 0),(8,.ptr (h.length+2) 0 8 0 0),(10,.int .i64 i)]) (fun i=>h++ [.arr 0 8 [t.enc],.arr 0 8 [.agg [.int .i64 0,.str ⟨#[]⟩,.int .i64 0,.int .i64 0,.bool false,.bool false,.esl,.esl]],.arr 0 8 [.agg [.int .i64 t.kind,.str t.name,.int .i64 t.lo,.int .i64 t.hi,.bool t.free,.bool t.ext,.osl (h.length+3) 1 12 0 t.items.length,.osl (h.length+4) 1 8 0 t.kids.length]],.arr 1 12 ((t.items.map Q).map It.enc),.arr 1 8 ((upto P t.kids i).map Ty.enc)]) (fun _ _=>(.exit 4,[(1,.isl (ps.map .str)),(2,.isl (args.map Ty.enc)),(3,.ptr h.length 0 8 0 0),(6,.ptr (h.length+1) 0 8 0 0),(8,.ptr (h.length+2) 0 8 0 0),(10,.int .i64 t.kids.length)],h++ [.arr 0 8 [t.enc],.arr 0 8 [.agg [.int .i64 0,.str ⟨#[]⟩,.int .i64 0,.int .i64 0,.bool false,.bool false,.esl,.esl]],.arr 0 8 [.agg [.int .i64 t.kind,.str t.name,.int .i64 t.lo,.int .i64 t.hi,.bool t.free,.bool t.ext,.osl (h.length+3) 1 12 0 t.items.length,.osl (h.length+4) 1 8 0 t.kids.length]],.arr 1 12 ((t.items.map Q).map It.enc),.arr 1 8 ((upto P t.kids t.kids.length).map Ty.enc)])) ?_ ?_
 ·intro i x r hd hi hx K hK;have hw:=Qd (n:=i+1) (by omega)
  simp at hw;have hm:x∈t.kids:=by rw[←hx]; exact List.getElem_mem hi
  have hcl:=fun h'=>hP x hm h.length h'
  have hget:=QdQ P Ty.enc t.kids i hi;have hset:=QdP P Ty.enc t.kids i hi;rw[hx]at hget hset;generalize (upto P t.kids i).map Ty.enc=els at hget hset ⊢;generalize (t.items.map Q).map It.enc=its at hK ⊢;simp at hcl hget hset hK;simp[Qjc,hi,hx,hcl,hget,hset,hw,hK]
 ·intro K;simp[Qjc]
theorem QlC (ps:List ByteArray)(args:List Ty)(hp:ps.length<=67108864)(hpa:ps.length=args.length): ∀(n:Nat) (t:Ty),t.size<=n->t.wid<=67108864-> ∀ws h,Qb cfg ws 142 [t.enc,.isl (ps.map .str),.isl (args.map Ty.enc)] h=some ((t.JS ps args).enc,h)
 | 0,t,ht,_,_,_=>by have:=t.size_pos; omega
 | n+1,t,ht,hw0,ws,h=>by
  have hwk:=t.ZK;have hwi:=t.Qe;have hli:t.items.length<=4294967296:=by omega
  have hlk:t.kids.length<=4294967296:=by omega
  have l0:=QpC t hw0 ps args h hp hpa;have l1:=QpB t hw0 ps args h (fun x=>x.JS ps args) (fun x=>if t.comp then x.QU (x.of.JS ps args)else x) (fun _=>rfl) (fun _ x hx ws h=>QlC ps args hp hpa n x.of (by have:=Ty.mem_of hx; omega) (Nat.le_trans (Ty.ZL hx) hw0) ws h)
  have l2:=QpA t hw0 ps args h (fun x=>x.JS ps args) (fun x=>if t.comp then x.QU (x.of.JS ps args)else x) (fun x hx ws h=>QlC ps args hp hpa n x (by have:=Ty.Xa hx; omega) (Nat.le_trans (Ty.ZX hx) hw0) ws h)
  rw[QeO,Qhy]at l1 l2;have hfi:ps.findIdx? (fun p=>eqS p t.name)=ps.findIdx? (eqS t.name):=by congr 1; funext p; exact QiA _ _
  rw[hfi]at l0;refine Qc rfl rfl ?_
  rw[Ty.Qcn];generalize (fun x:It=>if t.comp then x.QU (x.of.JS ps args)else x)=Q at l1 l2 ⊢
  simp[-List.map_map]at l1 l2;by_cases q10:t.kind=10
  ·by_cases qk:t.kids=[]
   ·cases qi:ps.findIdx? (eqS t.name)with
    | some i=>
     have hpar:t.par ps=some i:=by simp[Ty.par,q10,qk,qi]
     rw[hpar];rw[qi]at l0;simp[q10,qk]at l0;simp[QwN,Qwv,q10,qk,l0]
    | none=>
     have hpar:t.par ps=none:=by simp[Ty.par,q10,qk,qi]
     rw[hpar];rw[qi]at l0;simp[q10,qk,-List.map_map]at l0 l1 l2;simp[QwN,Qwv,q10,qk,l0,l1,l2,hli,hlk,QN,appended,Zw,look,Jm,-List.map_map,YP]
   ·have hpar:t.par ps=none:=by simp[Ty.par,qk]
    rw[hpar];simp[q10,-List.map_map]at l1 l2;simp[QwN,Qwv,q10,qk,l1,l2,hli,hlk,QN,appended,Zw,look,Jm,-List.map_map,YP]
  ·have hpar:t.par ps=none:=by simp[Ty.par,q10]
   rw[hpar];simp[QwN,Qwv,q10,l1,l2,hli,hlk,QN,appended,Zw,look,Jm,-List.map_map,YP]
end Go.Proofs.YtflbneepngjglaaGreatDoor
namespace Go.Proofs.YtflbneepngjglaaGreatDoor
open Go Go.Avm
def Ty.strip(t:Ty):Ty:=.mk t.kind t.name t.lo t.hi t.free t.ext (t.items.attach.map fun x=>if t.comp then x.1.QU x.1.of.strip else x.1.QU Ty.zero) (t.kids.attach.map fun x=>x.1.strip)
termination_by t.size
decreasing_by
 ·exact Ty.mem_of x.2
 ·exact Ty.Xa x.2
theorem Ty.Zd(t:Ty):t.strip= .mk t.kind t.name t.lo t.hi t.free t.ext (t.items.map fun x=>if t.comp then x.QU x.of.strip else x.QU Ty.zero) (t.kids.map Ty.strip):=by
 rw[Ty.strip,Yk t.items (fun x=>if t.comp then x.QU x.of.strip else x.QU Ty.zero),Yk t.kids Ty.strip]
theorem Qpo :Ty.zero.strip=Ty.zero:=by rw[Ty.Zd]; simp[Ty.zero]
theorem Qde (t:Ty):t.strip.kind=t.kind:=by rw[Ty.Zd]; rfl
theorem Qdd (t:Ty):t.strip.name=t.name:=by rw[Ty.Zd]; rfl
theorem QaG (t:Ty):t.strip.kids=t.kids.map Ty.strip:=by rw[Ty.Zd]; rfl
theorem QrW (ps:List ByteArray)(t:Ty):t.strip.par ps=t.par ps:=by
 unfold Ty.par;rw[Qde,Qdd,QaG];simp only[List.map_eq_nil_iff]
theorem Qti (args:List Ty)(i:Nat):(args[i]?.getD Ty.zero).strip=(args.map Ty.strip)[i]?.getD Ty.zero:=by
 rw[List.getElem?_map]
 cases args[i]? with
 | none=>exact Qpo
 | some a=>rfl
theorem Qhm (t:Ty)(x1:ByteArray)(x2 x3:Int)(x4 x5:Bool)(x6:List It)(x7:List Ty):(Ty.mk t.kind x1 x2 x3 x4 x5 x6 x7).comp=t.comp:=rfl
theorem WX (x:It)(t:Ty):(x.QU t).of=t:=rfl
theorem ZV (x:It)(t u:Ty):(x.QU t).QU u=x.QU u:=rfl
theorem Ww (x:It):x.QU x.of=x:=by cases x; rfl
theorem Qpp (t:Ty):t.strip.comp=t.comp:=by rw[Ty.Zd]; rfl
theorem Qci (ps:List ByteArray)(args:List Ty): ∀(n:Nat) (t:Ty),t.size<=n->(t.put ps args).strip=(t.strip.put ps (args.map Ty.strip)).strip
 | 0,t,h=>by have:=t.size_pos; omega
 | n+1,t,h=>by
  rw[Ty.put_eq ps args t,Ty.put_eq ps _ t.strip,QrW];cases hp:t.par ps with
  | some i=>
   dsimp only;rw[←Qti]
   have hidem: ∀(k:Nat) (u:Ty),u.size<=k->u.strip.strip=u.strip:=by
    intro k
    induction k with
    | zero=>intro u hu; have:=u.size_pos; omega
    | succ k ih=>
     intro u hu
     conv=>lhs; rw[Ty.Zd]
     rw[Ty.Zd u];simp only[Ty.QaT,Ty.Zs,Ty.QcS,Ty.QcV,Ty.Yh,Ty.Wl,Ty.Xl,Ty.ZG,Qhm,List.map_map]
     congr 1
     ·refine List.map_congr_left fun x hx=>?_
      by_cases hc:u.comp=true
      ·simp[hc,ZV,WX,ih x.of (by have:=Ty.mem_of hx; omega)]
      ·simp[hc,ZV]
     ·exact List.map_congr_left fun x hx=>ih x (by have:=Ty.Xa hx; omega)
   exact(hidem _ _ (Nat.le_refl _)).symm
  | none=>
   dsimp only;rw[Ty.Zd,Ty.Zd (Ty.mk t.strip.kind _ _ _ _ _ _ _)];rw[Ty.Zd t];simp only[Ty.QaT,Ty.Zs,Ty.QcS,Ty.QcV,Ty.Yh,Ty.Wl,Ty.Xl,Ty.ZG,Qhm,List.map_map]
   congr 1
   ·refine List.map_congr_left fun x hx=>?_
    by_cases hc:t.comp=true
    ·simp[hc,ZV,WX,Qci ps args n x.of (by have:=Ty.mem_of hx; omega)]
    ·simp[hc,ZV]
   ·exact List.map_congr_left fun x hx=>Qci ps args n x (by have:=Ty.Xa hx; omega)
theorem Qdc (ps:List ByteArray)(args:List Ty): ∀(n:Nat) (t:Ty),t.size<=n->(t.JS ps args).strip=(t.put ps args).strip
 | 0,t,h=>by have:=t.size_pos; omega
 | n+1,t,h=>by
  rw[Ty.put_eq ps args t,Ty.Qcn ps args t];cases hp:t.par ps with
  | some i=>rfl
  | none=>
   dsimp only;rw[Ty.Zd,Ty.Zd (Ty.mk t.kind _ _ _ _ _ (t.items.map fun x=>x.QU (x.of.put ps args)) _)]
   simp only[Ty.QaT,Ty.Zs,Ty.QcS,Ty.QcV,Ty.Yh,Ty.Wl,Ty.Xl,Ty.ZG,Qhm,List.map_map]
   congr 1
   ·refine List.map_congr_left fun x hx=>?_
    by_cases hc:t.comp=true
    ·simp[hc,ZV,WX,Qdc ps args n x.of (by have:=Ty.mem_of hx; omega)]
    ·simp[hc,ZV]
   ·exact List.map_congr_left fun x hx=>Qdc ps args n x (by have:=Ty.Xa hx; omega)
theorem Qef (args:List Ty): ∀(n:Nat) (t:Ty),t.size<=n->t.put [] args=t
 | 0,t,h=>by have:=t.size_pos; omega
 | n+1,t,h=>by
  rw[Ty.put_eq];have hp:t.par []=none:=by unfold Ty.par; split<;>rfl
  rw[hp];dsimp only
  have h1:(t.items.map fun x=>x.QU (x.of.put [] args))=t.items:=by
   conv=>rhs; rw[←List.map_id t.items]
   refine List.map_congr_left fun x hx=>?_
   rw[Qef args n x.of (by have:=Ty.mem_of hx; omega),Ww]; rfl
  have h2:(t.kids.map fun x=>x.put [] args)=t.kids:=by
   conv=>rhs; rw[←List.map_id t.kids]
   exact List.map_congr_left fun x hx=>Qef args n x (by have:=Ty.Xa hx; omega)
  rw[h1,h2];cases t; rfl
theorem Qbz : ∀(n:Nat) (t:Ty),t.size<=n->t.strip.nodes=t.nodes
 | 0,t,h=>by have:=t.size_pos; omega
 | n+1,t,h=>by
  rw[Ty.QD,Ty.QD t]
  have hin:t.strip.inner=t.inner.map Ty.strip:=by
   unfold Ty.inner;rw[Qpp,QaG,Ty.Zd t];cases hc:t.comp<;>simp[hc,WX,Function.comp_def]
  rw[hin,List.map_map]
  congr 2
  exact List.map_congr_left fun x hx=>Qbz n x (by have:=Ty.QR hx; omega)
def Qgj (m:Md)(t:Ty):Option Ty:=match m.defs.find? (isD t.name)with
 | none=>none
 | some d=>if d.params.length≠t.kids.length then none else if(d.of.JS d.params t.kids).nodes<=600 then some (d.of.JS d.params t.kids)else none
def Qaf (m:Md):Nat->Ty->Option Ty
 | 0,t=>if t.kind=10 then none else some t
 | n+1,t=>if t.kind=10 then(Qgj m t).bind (Qaf m n)else some t
def Md.lim(m:Md):Prop:=∀d∈m.defs,d.of.nodes<=600
theorem Qul (m:Md)(hl:m.lim){t u:Ty}(h:t.strip=u.strip):(Jw m t).map Ty.strip=(Qgj m u).map Ty.strip:=by
 have hn:t.name=u.name:=by rw[←Qdd t,h,Qdd]
 have hk:t.kids.map Ty.strip=u.kids.map Ty.strip:=by rw[←QaG t,h,QaG]
 have hkl:t.kids.length=u.kids.length:=by simpa using congrArg List.length hk
 unfold Jw Qgj;rw[hn];cases hd:m.defs.find? (isD u.name)with
 | none=>rfl
 | some d=>
  dsimp only;have hdm:=List.mem_of_find?_eq_some hd
  rw[hkl];by_cases q1:d.params.length≠u.kids.length
  ·rw[if_pos q1,if_pos q1]
  ·rw[if_neg q1,if_neg q1]
   have e1:(d.of.JS d.params u.kids).strip=(d.of.put d.params t.kids).strip:=by
    rw[Qdc _ _ _ _ (Nat.le_refl _),Qci _ _ _ _ (Nat.le_refl _),←hk,←Qci _ _ _ _ (Nat.le_refl _)]
   have e2:(d.of.JS d.params u.kids).nodes=(d.of.put d.params t.kids).nodes:=by
    rw[←Qbz _ _ (Nat.le_refl _),e1,Qbz _ _ (Nat.le_refl _)]
   by_cases q2:d.params=[]
   ·rw[if_pos q2];rw[q2,Qef _ _ _ (Nat.le_refl _)]at e1 e2;rw[q2,e2,if_pos (hl d hdm)];exact congrArg some e1.symm
   ·rw[if_neg q2,e2];by_cases q3:(d.of.put d.params t.kids).nodes<=600
    ·rw[if_pos q3,if_pos q3]; exact congrArg some e1.symm
    ·rw[if_neg q3,if_neg q3]
theorem QrJ (m:Md)(hl:m.lim): ∀(n:Nat) (t u:Ty),t.strip=u.strip->(beh m (n+1) t).map Ty.strip=(Qaf m n u).map Ty.strip
 | n,t,u,h=>by
  have hk:t.kind=u.kind:=by rw[←Qde t,h,Qde]
  have hs:=Qul m hl h;unfold beh;by_cases q:u.kind=10
  ·rw[hk,if_pos q];cases n with
   | zero=>
    unfold Qaf;rw[if_pos q];cases Jw m t<;>rfl
   | succ n=>
    unfold Qaf;rw[if_pos q];cases h1:Jw m t with
    | none=>
     rw[h1]at hs;cases h2:Qgj m u with
     | none=>rfl
     | some v=>rw[h2]at hs; cases hs
    | some w=>
     rw[h1]at hs;cases h2:Qgj m u with
     | none=>rw[h2]at hs; cases hs
     | some v=>
      rw[h2]at hs;exact QrJ m hl n w v (by simpa using hs)
  ·rw[hk,if_neg q];cases n<;>(unfold Qaf; rw[if_neg q]; exact congrArg some h)
theorem QqN (m:Md)(hl:m.lim)(n:Nat)(t:Ty):(beh m (n+1) t).isSome=(Qaf m n t).isSome:=by
 have h:=congrArg Option.isSome (QrJ m hl n t t rfl);simpa using h
end Go.Proofs.YtflbneepngjglaaGreatDoor
