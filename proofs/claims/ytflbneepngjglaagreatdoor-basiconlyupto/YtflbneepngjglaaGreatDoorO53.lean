/- BasicOnly: for every input whose reading holds at most so many values and letters, the law answers true, and what it was given reads as it read before. The conditions are the bound and the two tables of package utf8, which the card ties to the program's text. -/
import Derived.Test.YtflbneepngjglaaGreatDoorO52
import Derived.Test.YtflbneepngjglaaGreatDoorO51
import Derived.Test.YtflbneepngjglaaGreatDoorCards
import Derived.Test.YtflbneepngjglaaGreatDoorTie
import Derived.Test.YtflbneepngjglaaGreatDoorO31
set_option linter.all false
namespace Go.Proofs.YtflbneepngjglaaGreatDoor
open Go Go.Avm
theorem QmL (k:Int)(c:ByteArray):0<(elS k c).size:=by have:=Jk k c; omega
theorem Qrh {m:Md}{S:List (Ty×Val)}(M:m.Zz S)(hf:m.few): ∀(n:Nat) (t:Ty) (p q:Val),t.Zz m S->t.Qz JU=true->Xn m n t p=true->Xn m n t q=true->(Zr m n t p).size<=65535->(Zr m n t q).size<=65535-> ∀r r',BL (Zr m n t p)++r=BL (Zr m n t q)++r'->p=q/\r=r'
 | 0,_,_,_,_,_,hk,_,_,_,_,_,_=>by cases hk
 | n+1,t,p,q,T,TL,hp,hq,hsp,hsq,r,r',e=>by
  cases hb:beh m 21 t with
  | none=>unfold Xn at hp; rw[hb]at hp; cases hp
  | some b=>
  obtain⟨B,hb10⟩:=T.beh M hb;have BLm:=QxQ hf TL hb;have hr:=QO B.right;have hbl:=QO BLm;unfold JU at hbl;simp only[Bool.and_eq_true,decide_eq_true_eq]at hbl;obtain⟨pkind,pin,psub⟩:=JY m hp hb hr;obtain⟨qkind,qin,qsub⟩:=JY m hq hb hr;have hK:=QgA hr hb10;unfold Kind at hK
  have ps:JO b p (Xn m n)=true:=by
   unfold Xn at hp;rw[hb]at hp;simp only[Bool.and_eq_true]at hp;exact hp.2
  have qs:JO b q (Xn m n)=true:=by
   unfold Xn at hq;rw[hb]at hq;simp only[Bool.and_eq_true]at hq;exact hq.2
  have hen: ∀v,Zr m (n+1) t v=elS (QkV b.kind+if b.kind=9 then v.int else 0) (ZG b v (Zr m n)):=fun v=>by
   rw[Zr,hb];rfl
  rw[hen]at hsp hsq e;rw[hen]at e;have s1:=Jk (QkV b.kind+if b.kind=9 then p.int else 0) (ZG b p (Zr m n))
  have s2:=Jk (QkV b.kind+if b.kind=9 then q.int else 0) (ZG b q (Zr m n))
  obtain⟨etag,ec,er⟩:=Qri (by omega) (by omega) e
  refine⟨?_,er⟩
  have k:p.kind=q.kind:=by rw[pkind,qkind]
  have rec': ∀(i:Nat) x y t',p.items[i]? =some x->QW b p i x=some t'->Xn m n t' y=true->(Zr m n t' x).size<=65535->(Zr m n t' y).size<=65535-> ∀r r',BL (Zr m n t' x)++r=BL (Zr m n t' y)++r'->x=y/\r=r':=fun i x y t' hx ht hy=>
   Qrh M hf n t' x y (YY B ht) (Qsd BLm ht) (psub i x t' hx ht) hy
  have pc:(ZG b p (Zr m n)).size<=65535:=by omega
  have qc:(ZG b q (Zr m n)).size<=65535:=by omega
  clear s1 s2 hsp hsq e hen hp hq;unfold ZG at ec pc qc;unfold JO at ps qs;by_cases q0:b.kind=0
  ·rw[if_pos q0]at ps qs;exact has_eq ps qs k (fun h=>by cases h) (fun h=>by cases h) (fun h=>by cases h)
  rw[if_neg q0]at ps qs;by_cases q1:b.kind=1
  ·rw[if_pos q1]at ps qs ec;rw[if_pos q1]at ec;unfold inP at ps qs;simp only[Bool.and_eq_true,decide_eq_true_eq]at ps qs;refine has_eq ps.1 qs.1 k (fun _=>?_) (fun h=>by cases h) (fun h=>by cases h)
   have h1:=congrArg BL ec;unfold QcU at h1;injection h1 with h2 _;have:=WQ h2;omega
  rw[if_neg q1]at ps qs ec pc qc;rw[if_neg q1]at ec;by_cases q2:b.kind=2\/b.kind=3
  ·rw[if_pos q2]at ec;rw[if_pos q2]at ec;have hi:=QuV ec;rcases q2 with q2 | q2
   ·rw[if_pos q2]at ps qs;simp only[Bool.and_eq_true]at ps qs;exact has_eq ps.1 qs.1 k (fun _=>hi) (fun h=>by cases h) (fun h=>by cases h)
   ·rw[if_neg (by omega),if_pos q2]at ps qs
    simp only[Bool.and_eq_true]at ps qs;exact has_eq ps.1 qs.1 k (fun _=>hi) (fun h=>by cases h) (fun h=>by cases h)
  rw[if_neg (by omega),if_neg (by omega)]at ps qs
  rw[if_neg q2]at ec pc qc;rw[if_neg q2]at ec;by_cases q3:b.kind=4\/b.kind=11
  ·rw[if_pos q3]at ec;rw[if_pos q3]at ec;rcases q3 with q3 | q3
   ·rw[if_pos q3]at ps qs;simp only[Bool.and_eq_true]at ps qs;exact has_eq ps.1 qs.1 k (fun h=>by cases h) (fun _=>ec) (fun h=>by cases h)
   ·rw[if_neg (by omega),if_neg (by omega),if_neg (by omega),if_pos q3]at ps qs
    simp only[Bool.and_eq_true]at ps qs;exact has_eq ps.1 qs.1 k (fun h=>by cases h) (fun _=>ec) (fun h=>by cases h)
  rw[if_neg (by omega)]at ps qs
  rw[if_neg q3]at ec pc qc;rw[if_neg q3]at ec;by_cases q5:b.kind=5
  ·rw[if_pos q5]at ps qs ec;rw[if_pos q5]at ec;simp only[Bool.and_eq_true]at ps qs;exact has_eq ps.1 qs.1 k (fun h=>by cases h) (fun _=>QuK ps.2.1 qs.2.1 ec) (fun h=>by cases h)
  rw[if_neg q5]at ps qs ec pc qc;rw[if_neg q5]at ec;by_cases q6:b.kind=6
  ·rw[if_pos q6]at ps qs ec;rw[if_pos q6]at ec;exact Qwe ps qs k ec
  rw[if_neg q6,if_neg (by omega)]at ps qs
  rw[if_neg q6]at ec pc qc;rw[if_neg q6]at ec;by_cases q7:b.kind=7
  ·rw[if_pos q7]at ps qs ec pc qc;rw[if_pos q7]at ec;simp only[Bool.and_eq_true]at ps qs;refine has_eq ps.1 qs.1 k (fun h=>by cases h) (fun h=>by cases h) fun _=>?_
   have sz: ∀(l:List Val) (f:Val->ByteArray),∀x∈l,(f x).size<=(XY (l.map f)).size:=fun l f=>by
    induction l with
    | nil=>intro x hx; cases hx
    | cons a l ih=>
     intro x hx;rw[List.map_cons,XY,ByteArray.size_append];rcases List.mem_cons.1 hx with rfl | hx
     ·omega
     ·have:=ih x hx; omega
   refine Qrn (fun x hx y hy r r' he=>?_) (fun x hx=>?_) (fun x hx=>?_) (congrArg BL ec)
   ·obtain⟨i,hi⟩:=List.mem_iff_getElem?.1 hx;obtain⟨j,hj⟩:=List.mem_iff_getElem?.1 hy;have hpi:QW b p i x=some (b.kids.headD Ty.zero):=by unfold QW; rw[if_pos q7]
    have hqj:QW b q j y=some (b.kids.headD Ty.zero):=by unfold QW; rw[if_pos q7]
    exact rec' i x y _ hi hpi (qsub j y _ hj hqj) (Nat.le_trans (sz _ _ x hx) pc) (Nat.le_trans (sz _ _ y hy) qc) r r' he
   ·obtain⟨i,hi⟩:=List.mem_iff_getElem?.1 hx;have hfi:=psub i x (b.kids.headD Ty.zero) hi (by unfold QW; rw[if_pos q7])
    cases n with
    | zero=>cases hfi
    | succ n=>rw[Zr]; exact QmL _ _
   ·obtain⟨i,hi⟩:=List.mem_iff_getElem?.1 hx;have hfi:=qsub i x (b.kids.headD Ty.zero) hi (by unfold QW; rw[if_pos q7])
    cases n with
    | zero=>cases hfi
    | succ n=>rw[Zr]; exact QmL _ _
  rw[if_neg q7]at ps qs ec pc qc;rw[if_neg q7]at ec;by_cases q8:b.kind=8
  ·rw[if_neg (by omega)]at ps qs
   rw[if_pos q8]at ec pc qc;rw[if_pos q8]at ec;simp only[Bool.and_eq_true,decide_eq_true_eq,List.all_eq_true]at ps qs;refine has_eq ps.1 qs.1 k (fun h=>by cases h) (fun h=>by cases h) fun _=>?_
   have sz: ∀(l:List Val) (i j:Nat) x,l[j]? =some x->x.kind≠12->(Zr m n (b.items[i+j]?.getD It.zero).of x).size<=(ZE b (Zr m n) i l).size:=fun l=>by
    induction l with
    | nil=>intro i j x hx; cases hx
    | cons a l ih=>
     intro i j x hx h12;rw[ZE,ByteArray.size_append];cases j with
     | zero=>
      simp at hx;subst hx;rw[if_neg h12];have:=Jk (128+(i:Int)) (Zr m n (b.items[i]?.getD It.zero).of a);rw[Nat.add_zero];omega
     | succ j=>
      have:=ih (i+1) j x (by simpa using hx) h12
      rw[show i+1+j=i+(j+1)by omega]at this
      omega
   have part: ∀(v:Val) (i:Nat) x,x.kind≠12->QW b v i x=some (b.items[i]?.getD It.zero).of:=fun v i x h12=>by
    unfold QW; rw[if_neg q7,if_neg (by omega),if_pos ⟨q8,h12⟩,Qvi]
   refine QqE (by omega) (by omega) (fun j x y hx hy h1 h2 he=>?_) (fun j x y hx hy h1 h2=>?_) pc qc ec
   ·rw[Nat.zero_add]at he;have z1:=sz p.items 0 j x hx h1;have z2:=sz q.items 0 j y hy h2;rw[Nat.zero_add]at z1 z2;exact(rec' j x y _ hx (part p j x h1) (qsub j y _ hy (part q j y h2)) (by omega) (by omega) [] [] (by rw[he])).1
   ·have ab: ∀(v:Val) z,v.items[j]? =some z->v.items.length=b.items.length->(∀w∈b.items.zip v.items,Zn (Xn m n) w=true)->z.kind=12->QL false false false z=true:=fun v z hz hlv hv hz12=>by
      have hjl:=(List.getElem?_eq_some_iff.1 hz).1
      have hw:=hv (b.items[j],z) (by
       have:(b.items.zip v.items)[j]? =some (b.items[j],z):=by
        rw[List.getElem?_zip_eq_some]
        exact⟨List.getElem?_eq_getElem _,hz⟩
       exact List.mem_of_getElem? this)
      unfold Zn at hw;simp only[Bool.or_eq_true,Bool.and_eq_true]at hw;rcases hw with hw | hw
      ·exact hw.2.1
      ·exfalso;have T':(b.items[j]).of.Zz m S:=B.inner (by unfold Ty.inner Ty.comp; rw[q8]; exact List.mem_append_right _ (List.mem_map_of_mem (List.getElem_mem _)))
       cases n with
       | zero=>cases hw
       | succ n=>
        cases hb':beh m 21 (b.items[j]).of with
        | none=>unfold Xn at hw; rw[hb']at hw; cases hw
        | some b'=>
         obtain⟨B',h10'⟩:=T'.beh M hb';obtain⟨h3,_,_⟩:=JY m hw hb' (QO B'.right);have h4:=QgA (QO B'.right) h10';unfold Kind at h4;omega
    exact has_eq (ab p x hx ps.2.1 ps.2.2 h1) (ab q y hy qs.2.1 qs.2.2 h2) (by omega) (fun h=>by cases h) (fun h=>by cases h) (fun h=>by cases h)
  rw[if_neg q8]at ec pc qc;rw[if_neg q8]at ec;have q9:b.kind=9:=by omega
  rw[if_pos q9]at ps qs ec pc qc etag;rw[if_pos q9]at ec etag;unfold inP at ps qs;simp only[Bool.and_eq_true,decide_eq_true_eq]at ps qs;have hi:p.int=q.int:=by omega
  rw[hi]at ec pc;refine has_eq ps.1 qs.1 k (fun _=>hi) (fun h=>by cases h) fun _=>?_
  obtain⟨x,hx⟩: ∃x,p.items=[x]:=by
   have:=ps.2.2.1
   match hq:p.items with
   | []=>rw[hq]at this; cases this
   | [a]=>exact⟨a,rfl⟩
   | a::c::l=>rw[hq]at this; simp at this
  obtain⟨y,hy⟩: ∃y,q.items=[y]:=by
   have:=qs.2.2.1
   match hq:q.items with
   | []=>rw[hq]at this; cases this
   | [a]=>exact⟨a,rfl⟩
   | a::c::l=>rw[hq]at this; simp at this
  have hpx:QW b p 0 x=some ((b.items[q.int.toNat]?.map It.of).getD Ty.zero):=by unfold QW; rw[if_neg q7,if_pos q9,hi]
  have hqy:QW b q 0 y=some ((b.items[q.int.toNat]?.map It.of).getD Ty.zero):=by unfold QW; rw[if_neg q7,if_pos q9]
  have fy:=qsub 0 y _ (by rw[hy]; rfl) hqy
  have gx:=rec' 0 x y _ (by rw[hx]; rfl) hpx fy
  rw[hx]at ec pc ⊢;rw[hy]at ec qc ⊢
  rw[(gx pc qc [] [] (by
   have:=congrArg BL ec;simpa using this)).1]
end Go.Proofs.YtflbneepngjglaaGreatDoor
namespace Go.Proofs.YtflbneepngjglaaGreatDoor
open Go Go.Avm
theorem Qgj {m:Md}{t:Ty}{v:Val}(h:(Yw m t v).2=0):Qbh m t v=0/\(QcG m t v).size<=4000/\Yw m t v=(QcG m t v,0):=by
 unfold Yw at h ⊢;by_cases q:Qbh m t v=0
 ·rw[if_pos q]at h ⊢;by_cases c:4000<(QcG m t v).size
  ·rw[if_pos c]at h; cases h
  ·rw[if_neg c]; exact⟨q,by omega,rfl⟩
 ·rw[if_neg q]at h; exact absurd h q
theorem QvD {m:Md}(hm:m.ok){t:Ty}(hs:t.size<=67108864){v w:Val}(hv:v.size<=67108864)(hw:w.size<=67108864)(h1:Qbh m t v=0)(h2:Qbh m t w=0)(s1:(QcG m t v).size<=4000)(s2:(QcG m t w).size<=4000)(h:QcG m t v=QcG m t w):XL m t v=XL m t w:=by
 obtain⟨q1,_,_⟩:=Qas h1;obtain⟨r1,r2⟩:=Qcq q1;obtain⟨M,T,f1,_⟩:=QaF hm hs hv h1;obtain⟨_,_,f2,_⟩:=QaF hm hs hw h2;have hl:=(Qaf r2).1;unfold Qbe at hl;simp only[Bool.and_eq_true]at hl;unfold QcG at h s1 s2;exact(Qrh M (Qzh (Jz r1).1) _ _ _ _ T hl.2.2 f1 f2 (by omega) (by omega) [] [] (by rw[h])).1
def csV (m:Md)(t:Ty)(v w:Val)(ns:AV):AV:=.agg [.str m.name,.isl (m.defs.map Df.enc),.int .i64 t.kind,.str t.name,.int .i64 t.lo,.int .i64 t.hi,.bool t.free,.bool t.ext,.isl (t.items.map It.enc),.isl (t.kids.map Ty.enc),.int .i64 v.kind,.int .i64 v.int,.str v.bytes,.isl (v.items.map Val.enc),.int .i64 w.kind,.int .i64 w.int,.str w.bytes,.isl (w.items.map Val.enc),ns]
theorem QkU (t:Ty):t.enc= .agg [.int .i64 t.kind,.str t.name,.int .i64 t.lo,.int .i64 t.hi,.bool t.free,.bool t.ext,.isl (t.items.map It.enc),.isl (t.kids.map Ty.enc)]:=by show AV.agg t.cells=_; rw[Ty.XO]
theorem Wn (v:Val):v.enc= .agg [.int .i64 v.kind,.int .i64 v.int,.str v.bytes,.isl (v.items.map Val.enc)]:=by show AV.agg v.cells=_; rw[Val.XO]
set_option maxHeartbeats 2000000 in
theorem Qmm (m:Md)(hm:m.ok)(t:Ty)(hs:t.size<=67108864)(v w:Val)(hv:v.size<=67108864)(hw:w.size<=67108864)(l:List AV)(hl:Qv l=true):Qb cfg 0 7 [csV m t v w (.isl l)] []=some (.bool true,[]):=by
 obtain⟨b1,l1⟩:=Qny m hm t hs v hv 0 [.arr 0 19 [csV m t v w (.isl l)]];obtain⟨b2,l2⟩:=Qny m hm t hs w hw 0 [.arr 0 19 [csV m t v w (.isl l)]];have hsn: ∀(h:Avm.H) n,QH (snap h n) l=some l:=fun h n=>Qx hl
 refine Qc rfl rfl ?_
 simp only[Md.enc,QkU,Wn,csV]at l1 l2;try simp at l1 l2
 cases b1 with
 | true=>simp[F7,c7,csV,hsn,l1,Qlb]
 | false=>
  cases b2 with
  | true=>simp[F7,c7,csV,hsn,l1,l2,Qlb]
  | false=>
   have e1:=fun ws h=>QhE m hm t hs v hv ws h
   have e2:=fun ws h=>QhE m hm t hs w hw ws h
   have e3:=fun ws h=>Qjy m hm t hs v hv ws h
   have e4:=fun ws h=>Qjy m hm t hs w hw ws h
   unfold YW at e3 e4;by_cases q1:(Yw m t v).2=0
   ·obtain⟨a1,s1,g1⟩:=Qgj q1;by_cases q2:(Yw m t w).2=0
    ·obtain⟨a2,s2,g2⟩:=Qgj q2;have hiff:=QvD hm hs hv hw a1 a2 s1 s2;have hfi:XL m t v=XL m t w->QcG m t v=QcG m t w:=fun h=>by unfold QcG; rw[h]
     rw[g1]at e1;rw[g2]at e2;simp only[if_pos a1]at e3;simp only[if_pos a2]at e4;have hpn:=QhD hm hs hv;have hqn:=QhD hm hs hw;unfold YW at hpn hqn;simp only[if_pos a1]at hpn;simp only[if_pos a2]at hqn;have e5:=fun ws h=>Qjx _ (XL m t v) (XL m t w) (Nat.le_refl _) hpn ws h
     clear q1 q2 g1 g2 a1 a2 s1 s2;generalize QcG m t v=x at*;generalize QcG m t w=y at*;generalize XL m t v=p at*;generalize XL m t w=q at*;simp only[Md.enc,QkU t,Wn v,Wn w]at e1 e2 e3 e4;simp at e1 e2 e3 e4;by_cases c:p=q
     ·have cx:=hfi c;subst c cx;rw[QrN]at e5;simp at e5;simp[F7,c7,csV,hsn,l1,l2,e1,e2,e3,e4,e5,QtZ]
     ·have cx: ¬x=y:=fun h=>c (hiff h)
      have cy: ¬x.toList=y.toList:=fun h=>cx (by
       rw[ByteArray.toList_eq,ByteArray.toList_eq]at h;exact QdE h)
      have hf:p.same q=false:=by
       cases h:p.same q
       ·rfl
       ·exact absurd ((Val.Jh p q).1 h) c
      rw[hf]at e5;simp at e5;simp[F7,c7,csV,hsn,l1,l2,e1,e2,e3,e4,e5,cx,cy,QtZ]
    ·clear e3 e4;generalize Yw m t v=r at*;generalize Yw m t w=r' at*;obtain⟨x,e⟩:=r;obtain⟨x',e'⟩:=r';simp only[Md.enc,QkU t,Wn v,Wn w]at e1 e2;simp at e1 e2 q1 q2;simp[F7,c7,csV,hsn,l1,l2,e1,e2,q1,q2,Qlb]
   ·clear e3 e4;generalize Yw m t v=r at*;generalize Yw m t w=r' at*;obtain⟨x,e⟩:=r;obtain⟨x',e'⟩:=r';simp only[Md.enc,QkU t,Wn v,Wn w]at e1 e2;simp at e1 e2 q1;simp[F7,c7,csV,hsn,l1,l2,e1,e2,q1,Qlb]
end Go.Proofs.YtflbneepngjglaaGreatDoor
namespace Go.Proofs.YtflbneepngjglaaGreatDoor
open Go Go.Avm Go.RowKit Go.ChangeShapes Go.WideShapes Go.ChangeAt
theorem QyV (xs:List AV)(h:Qmx Tryz.prog Tryz.f7.params.toList xs)(hn:QF xs<=1048576): ∃h',Qb cfg 0 7 xs []=some (.bool true,h'):=by
 have hag:XQ Tryz.prog 53=true:=by simp[XQ,Tryz.underlying53]
 rw[Tryz.params7]at h;obtain⟨f1,l1,r1,rfl,t1,rfl⟩:=h;rw[hag]at hn ⊢;simp only[QF,XA,if_true,AV.bulk]at hn ⊢;have h1:=ZX Tryz.underlying53 (by kernel_rfl) t1
 obtain⟨y1,z1,rfl,k1,y2,z2,rfl,k2,y3,z3,rfl,k3,y4,z4,rfl,k4,y5,z5,rfl,k5,rfl⟩:=h1;simp only[QcC,QF]at hn;obtain⟨m,hm,sm⟩:=QBF k1 (by omega)
 obtain⟨t,rfl,st⟩:=Qqr _ _ _ (Nat.le_refl _) k2;obtain⟨v,hv,sv⟩:=QkT _ _ _ (Nat.le_refl _) k3;obtain⟨w,hw,sw⟩:=QkT _ _ _ (Nat.le_refl _) k4;obtain⟨ns,rfl,hns⟩:=ZN Tryz.underlying51 (by decide+kernel) k5
 have hp: ∀l:List AV,(∀x∈l,x.pure=true)->Qv l=true:=fun l=>by
  induction l with
  | nil=>intro _; rfl
  | cons a l ih=>intro h; rw[Qv,h a (by simp),ih fun x hx=>h x (by simp[hx])]; rfl
 have hnp:=hp ns fun x hx=>by
  obtain⟨l,hxl,hl⟩:=hns x hx;obtain⟨n,hln,_⟩:=YN Tryz.underlying3 hl;have hai:XQ Tryz.prog 3=false:=by simp[XQ,Tryz.underlying3]
  rw[hxl,hln,hai];rfl
 rw[hv]at sv;rw[hw]at sw;have sv':v.size<=QF y3+1:=by have:=congrArg AV.bulk hv; simp only[AV.bulk]at this; omega
 have sw':w.size<=QF y4+1:=by have:=congrArg AV.bulk hw; simp only[AV.bulk]at this; omega
 rw[Wn]at hv hw;injection hv with hv;injection hw with hw;unfold Md.enc at hm;injection hm with hm;subst hv hw hm;refine⟨[],?_⟩
 have:=Qmm m sm t (by omega) v w (by omega) (by omega) ns hnp
 unfold csV at this;rw[Ty.XO];simpa using this
set_option maxRecDepth 100000 in
theorem QvQ (H:Type)(enc:TypeId×Value->H)(W:World)(base:Nat)(args:Array Value)(ds gs:List (DataW H))(before:List MemPlace)
    (hval: ∀(j:Nat) t v,Tryz.f7.params[j]? =some t->args[j]? =some v->Value.okWide Tryz.prog W .any base t v)
    (hW:DataW.Whole enc Tryz.prog Tryz.f7.params.toList Rows.basicOnlySpec.vars false W args.toList ds gs before) (hk:Rows.uptoSmall H (ds++gs)=true) (hsh:W.ShapedOpen Tryz.prog):
    Calls Tryz.prog 7 args W fun e W'=>∃v,e= .returned v/\Rows.basicOnlySpec.post enc Tryz.prog Tryz.f7 false true false false W args v W':=by
 have hW':=hW;obtain⟨m,hm⟩:=Tryz.Qyk.s1_3 W hsh;obtain⟨p,q,hA,hV,hps,hfz,hnd⟩:=hW;obtain⟨rfl,rfl⟩:=trodVars_none hV
 have hds: ∃d0,ds=[d0]:=by
  have h:=hA;rw[Tryz.params7]at h;obtain⟨_,_,d0,_,_,_,_,rfl,_,_,r0⟩:=trodAll_cons h;obtain⟨_,rfl,_⟩:=trodAll_nil r0;exact⟨d0,rfl⟩
 obtain⟨d0,rfl⟩:=hds;obtain⟨N,hN,hb⟩: ∃N,N=1048576/\Rows.uptoBulkAll [d0]<=N:=⟨_,rfl,of_decide_eq_true hk⟩;refine(QsB (Qzv hm) Tryz.func7 (by decide+kernel) rfl (QAk H) (n:=N) (fun xs h1 h2=>QyV xs h1 (hN▸h2)) hval hA hb).mono fun e W' ⟨he,hbl⟩=>?_
 exact⟨_,he,Qvc hW' rfl rfl rfl Tryz.underlying4 (by kernel_rfl) (by kernel_rfl) hbl⟩
theorem Qve (os:Os):laidMet Tryz.prog Rows.basicOnlyUptoRow.laid ((QeU os).forCall (fun _ _=>0) ⟨#[],#[.agg #[.string ⟨#[]⟩,.slice none 0 0,.int .i64 0,.string ⟨#[]⟩,.int .i64 0,.int .i64 0,.bool false,.bool false,.slice none 0 0,.slice none 0 0,.int .i64 0,.int .i64 0,.string ⟨#[]⟩,.slice none 0 0,.int .i64 0,.int .i64 0,.string ⟨#[]⟩,.slice none 0 0,.slice none 0 0]],[]⟩).memory:=
 laidMet_of_run' 8 (by kernel_rfl) (by kernel_rfl)
theorem reads (os:Os){H:Type}(enc:TypeId×Value->H): ∃places,DataW.whole enc Tryz.prog ((QeU os).forCall (fun _ _=>0) ⟨#[],#[.agg #[.string ⟨#[]⟩,.slice none 0 0,.int .i64 0,.string ⟨#[]⟩,.int .i64 0,.int .i64 0,.bool false,.bool false,.slice none 0 0,.slice none 0 0,.int .i64 0,.int .i64 0,.string ⟨#[]⟩,.slice none 0 0,.int .i64 0,.int .i64 0,.string ⟨#[]⟩,.slice none 0 0,.slice none 0 0]],[]⟩).memory Tryz.f7.params.toList Rows.basicOnlySpec.vars false (#[.agg #[.string ⟨#[]⟩,.slice none 0 0,.int .i64 0,.string ⟨#[]⟩,.int .i64 0,.int .i64 0,.bool false,.bool false,.slice none 0 0,.slice none 0 0,.int .i64 0,.int .i64 0,.string ⟨#[]⟩,.slice none 0 0,.int .i64 0,.int .i64 0,.string ⟨#[]⟩,.slice none 0 0,.slice none 0 0]]:Array Value).toList 8=some ([.agg [.agg [.lit (.string []),.nil],.agg [.lit (.int .i64 0),.lit (.string []),.lit (.int .i64 0),.lit (.int .i64 0),.lit (.bool false),.lit (.bool false),.nil,.nil],.agg [.lit (.int .i64 0),.lit (.int .i64 0),.lit (.string []),.nil],.agg [.lit (.int .i64 0),.lit (.int .i64 0),.lit (.string []),.nil],.nil]],[],places):=
 ⟨[],by kernel_rfl⟩
set_option maxRecDepth 100000 in
theorem QpD (os:Os)(started:os.Started)(H:Type)(enc:TypeId×Value->H)(F:Stop.Interp):
    ReturnsInHanded {} Tryz.checked os 7 .any ((Rows.OpenSpec.upto Rows.basicOnlySpec).preRow enc Tryz.prog Tryz.f7 Rows.basicOnlyUptoRow.domain false Rows.basicOnlyUptoRow.laid) (((Rows.OpenSpec.upto Rows.basicOnlySpec).at F).post enc Tryz.prog Tryz.f7 false true false false):=by
 obtain⟨places,hx⟩:=reads os enc
 refine returnsInHanded_of_row (C:=Tryz.checked) (s:=Rows.OpenSpec.upto Rows.basicOnlySpec) own started (by kernel_rfl) Tryz.func7
  (witness_row_at (enc:=enc) (C:=Tryz.checked) false (QeU os) #[.agg #[.string ⟨#[]⟩,.slice none 0 0,.int .i64 0,.string ⟨#[]⟩,.int .i64 0,.int .i64 0,.bool false,.bool false,.slice none 0 0,.slice none 0 0,.int .i64 0,.int .i64 0,.string ⟨#[]⟩,.slice none 0 0,.int .i64 0,.int .i64 0,.string ⟨#[]⟩,.slice none 0 0,.slice none 0 0]] rfl (by kernel_rfl) (by kernel_rfl) (by kernel_rfl)
   (OpenSpec.preRow_of_cond 8 hx (by kernel_rfl) (fun k hk=>by cases hk; kernel_rfl) (by kernel_rfl) (Qve os))) ?_
 intro W base args ds gs before hval hW _ hcond _ _ hsh _;exact QvQ H enc W base args ds gs before hval hW (hcond _ rfl) hsh
theorem Quc :Rows.BasicOnlyUptoSaid:=
 OpenClaim.holds_of_cond 7 Tryz.f7 rfl rfl rfl rfl rfl rfl rfl ⟨rfl,rfl,rfl,rfl,rfl⟩ rfl rfl rfl rfl rfl (by kernel_rfl) Tryz.func7 QfG
  (of_decide_eq_true (by kernel_rfl)) (by unfold Func.isWrapper; first | (rw[if_pos (by decide+kernel)]; kernel_rfl) | (rw[if_neg (by decide+kernel)]; exact⟨rfl,rfl⟩))
  (fun os started H enc _ F=>by rw[OpenClaim.pre_eq_preRow]; exact QpD os started H enc F)
theorem plain (f:FuncId)(fn:Func)(hf:Tryz.pinned.checked.prog.funcNamed "heptad/heptadlaw05.BasicOnly" =some f)(hfn:Tryz.pinned.checked.prog.funcs[f]? =some fn):
    false=Tryz.pinned.checked.prog.looks []/\ ∀(j:Nat) t,fn.params[j]? =some t->Tryz.pinned.checked.prog.wantsStandIn t=false:=by
 obtain rfl:f=7:=Option.some.inj ((show Tryz.prog.funcNamed "heptad/heptadlaw05.BasicOnly" =some 7 by kernel_rfl).symm.trans hf) |>.symm
 obtain rfl:fn=Tryz.f7:=(Option.some.inj (Tryz.func7.symm.trans hfn)).symm;refine⟨by kernel_rfl,fun j t ht=>?_⟩
 rw[Tryz.params7]at ht;have hall: ∀t∈(#[53]:Array TypeId),Tryz.prog.wantsStandIn t=false:=by decide+kernel
 exact hall t (Array.mem_of_getElem? ht)
theorem basicOnly_holds :Rows.BasicOnlyUptoCardSaid:=
 Claim7.holds_tied_plain_at .later [] _ _ _ _ Quc (fun _ h=>by cases h) (by kernel_rfl) (fun _ h=>by cases h) basicOnlyUpto_row_tie rfl ⟨rfl,rfl⟩ (by kernel_rfl) rfl plain (by kernel_rfl)
end Go.Proofs.YtflbneepngjglaaGreatDoor
