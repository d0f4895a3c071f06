/- A drawn region: whichever operation comes up. -/
import Derived.Test.YtflbneepngjglaaGreatDoorO19
set_option linter.all false
namespace Go.Avm
open Go.RowKit
theorem Qun {e:Env}{base ws:Nat}{h h':H}{u:AV}{pf:FuncId->Bool}{dyn:List Dyn}{i:I}{x:O}(hk:kindOf pf dyn i= .read x)(ev:evI base ws e h i=some (u,h')){v:AV}{b:Nat}(hv:x.val e=some v)(hb:XD v=some b):ZD h b:=by
 have lk: ∀{b ver sz off len l},look h b ver sz off len=some l->ZD h b:=fun{b ver sz off len l} hl=>by
  obtain⟨els,h1,_⟩:=Qcj hl;exact⟨_,_,_,h1⟩
 cases i with
 | ld sz ag y=>
  simp only[kindOf,Kd.read.injEq]at hk; subst hk;simp only[evI,hv]at ev;cases v<;>simp[XD]at hb
  ·subst hb;simp only[Yg]at ev;split at ev
   ·rename_i l hl;split at hl
    ·rename_i h1; exact⟨_,_,_,h1⟩
    ·cases hl
   ·cases ev
  ·simp[Yg]at ev
 | slc k y lo hi mx=>
  cases k with
  | str=>simp[kindOf]at hk
  | sl sz=>
   simp only[kindOf,Kd.read.injEq]at hk; subst hk;simp only[evI]at ev;split at ev
   ·rename_i v' l r m' hv' h1 h2 h3;rw[hv]at hv';injection hv' with hv'; subst hv';split at ev
    ·rename_i w hw;cases v<;>simp[XD]at hb
     ·simp[QdL]at hw
     ·subst hb;simp only[QdL]at hw;split at hw
      ·split at hw
       ·rename_i hc;obtain⟨l',hl'⟩:=Option.isSome_iff_exists.1 hc.2.2.2;exact lk hl'
       ·cases hw
      ·cases hw
    ·cases ev
   ·cases ev
 | conv c y=>
  cases c with
  | b2s=>
   simp only[kindOf,Kd.read.injEq]at hk; subst hk;simp only[evI,hv]at ev;cases v<;>simp[XD]at hb
   ·simp[Zv]at ev
   ·subst hb;simp only[Zv]at ev;split at ev
    ·rename_i l hl; exact lk hl
    ·cases ev
  | intk k=>simp[kindOf]at hk
  | same=>simp[kindOf]at hk
  | s2b=>simp[kindOf]at hk
 | call f l=>simp only[kindOf]at hk; split at hk<;>cases hk
 | callv pu f l=>simp only[kindOf]at hk; split at hk<;>cases hk
 | bsl sz n zero ps=>simp only[kindOf]at hk; split at hk<;>cases hk
 | _=>simp[kindOf]at hk
section
variable {P : Program} {n : Nat} {ops : Array Oper} {it : Nat -> Option (Op1 × Nat)} {m : Nat} {pf : FuncId -> Bool} {dyn : List Dyn} {E : Nat -> Env} {Hp : Nat -> H}
 {call:Xt} {fpol:FuncId->Option Pol} {base ws:Nat}
theorem Qed {k:Nat}{h h':H}(hk:Za k h h'){b:Nat}(hb:b<k)(ha:ZD h' b):ZD h b:=by
 obtain⟨ver,sz,els,h1⟩:=ha;rcases hk.2 b hb ver sz els h1 with⟨els0,h2,_⟩ | ⟨_,ver0,els0,h2,_⟩
 ·exact⟨_,_,_,h2⟩
 ·exact⟨_,_,_,h2⟩
theorem QvI (hc:Xj call){e:Env}{h h':H}{i:I}{u:AV}(ev:XE call fpol base ws e h i=some (u,h')){b:Nat}(hb:b<h.length)(ha:ZD h' b):ZD h b:=by
 by_cases h1: ∃f args,i= .call f args
 ·obtain⟨f,args,rfl⟩:=h1;simp only[XE]at ev;split at ev
  ·exact Qed (hc _ _ _ _ _ _ ev).1 hb ha
  ·cases ev
 ·by_cases h2: ∃pu f args,i= .callv pu f args
  ·obtain⟨pu,f,args,rfl⟩:=h2;simp only[XE]at ev;split at ev
   ·split at ev
    ·split at ev
     ·exact Qed (hc _ _ _ _ _ _ ev).1 hb ha
     ·exact Qed (hc _ _ _ _ _ _ ev).1 hb ha
     ·cases ev
    ·exact Qed (hc _ _ _ _ _ _ ev).1 hb ha
   ·cases ev
  ·have ev':evI base ws e h i=some (u,h'):=by
     cases i<;>first | exact ev | exact absurd ⟨_,_,rfl⟩ h1 | exact absurd ⟨_,_,_,rfl⟩ h2
   exact(QlJ ev' hb ha).1
theorem QiG (T:Trace call fpol base ws it m E Hp)(hc:Xj call)(hb:base<=(Hp 0).length){b:Nat}(ha:ZD (Hp m) b): ∀q k,k+q=m->b<(Hp k).length->ZD (Hp k) b
 | 0,k,hk,_=>by rw[Nat.add_zero]at hk; rw[hk]; exact ha
 | q+1,k,hk,hl=>by
  have h1:=QiG T hc hb ha q (k+1) (by omega) (Nat.lt_of_lt_of_le hl (T.mono hc hb (Nat.le_succ k) (by omega)))
  cases hi:it k with
  | none=>rw[(T.drop k (by omega) hi).1]at h1; exact h1
  | some p=>
   obtain⟨v,h2,_⟩:=T.step k (by omega) p.1 p.2 hi
   rcases h2 with⟨_,h2⟩ | ⟨_,_,h2⟩
   ·exact QvI hc h2 hl h1
   ·rw[h2]at h1; exact h1
theorem QkN {x:O}(h:Qib dyn x=true):Dyn.alive x∈dyn:=by
 simp only[Qib,List.any_eq_true]at h;obtain⟨d,hd,h1⟩:=h;cases d<;>simp at h1;obtain⟨rfl,_⟩:=Xu h1;exact hd
theorem QnA {x:O}(h:Wy dyn x=true):Dyn.kept x∈dyn:=by
 simp only[Wy,List.any_eq_true]at h;obtain⟨d,hd,h1⟩:=h;cases d<;>simp at h1;obtain⟨rfl,_⟩:=Xu h1;exact hd
theorem QgI {x y:O}(h:Qia dyn x y=true):Dyn.far x y∈dyn:=by
 simp only[Qia,List.any_eq_true]at h;obtain⟨d,hd,h1⟩:=h;cases d<;>simp at h1;obtain⟨rfl,_⟩:=Xu h1.1;obtain⟨rfl,_⟩:=Xu h1.2;exact hd
theorem Qha {i:I}{y:O}(h:target i=some y):y∈i.QY/\ ∀pf dyn,kindOf pf dyn i= .touch (some y):=by
 cases i<;>simp[target]at h<;>subst h<;>exact⟨by simp[I.QY],fun _ _=>rfl⟩
theorem QpG {h0 h:H}{v:AV}(hk:QqW h0 h v=true): ∃b,XD v=some b/\h[b]? =h0[b]? /\ZD h b/\b<h0.length:=by
 cases v<;>simp only[QqW]at hk<;>try (cases hk; done)
 rename_i b ver sz i o;split at hk
 ·rename_i v1 z1 e1 v2 z2 e2 g1 g2;simp only[Bool.and_eq_true,beq_iff_eq]at hk;obtain⟨⟨rfl,rfl⟩,hs⟩:=hk;have:=YS _ _ hs;subst this;exact⟨b,rfl,by rw[g1,g2],⟨_,_,_,g2⟩,(List.getElem?_eq_some_iff.1 g1).1⟩
 ·cases hk
theorem Qhl (T:Trace call fpol base ws it m E Hp)(St:Stat P n ops it m pf dyn)(hf:Je (E m) (Hp 0) (Hp m) dyn=true)(hc:Xj call)(hpu:JM call fpol)(hpf: ∀g,pf g=true->(fpol g=some .snap\/ ∃b,fpol g=some (.pur b)))(hb:base<=(Hp 0).length)
    {x:O} (hx:Wy dyn x=true) {v:AV} {b:Nat} (hv:x.val (E m)=some v) (hbv:XD v=some b) (hb0:b<(Hp 0).length) (ha:ZD (Hp m) b) {k:Nat}: ∀c,k<=c->c<=m->(∀i f1 j1,k<=i->i<c->it i=some (f1,j1)->kindOf pf dyn f1.i≠ .ecall)->(Hp c)[b]? =(Hp k)[b]?
 | 0,h1,_,_=>by rw[Nat.le_zero.1 h1]
 | c+1,h1,h2,h3=>by
  rcases Nat.lt_or_ge k (c+1)with h4 | h4
  ·rw[←Qhl T St hf hc hpu hpf hb hx hv hbv hb0 ha c (by omega) (by omega) fun i f1 j1 a1 a2=>h3 i f1 j1 a1 (by omega)]
   have hbl:b<(Hp c).length:=Nat.lt_of_lt_of_le hb0 (T.len hc hb c (by omega)).2
   cases hic:it c with
   | none=>rw[(T.drop c (by omega) hic).1]
   | some p=>
    obtain⟨f1,j1⟩:=p;by_cases ht:Qt pf dyn f1.i
    ·obtain⟨r,h5,_⟩:=T.step c (by omega) f1 j1 hic
     rcases h5 with⟨_,h5⟩ | ⟨_,_,h5⟩
     ·have hne:=h3 c f1 j1 (by omega) (by omega) hic
      unfold Qt at ht;split at ht
      ·rename_i y hy
       have hev:evI base ws (E c) (Hp c) f1.i=some (r,Hp (c+1)):=by
        cases hfi:f1.i<;>rw[hfi]at h5 hy<;>first | exact h5 | (simp only[kindOf]at hy; split at hy<;>cases hy)
       have ha1:=QiG T hc hb ha (m-(c+1)) (c+1) (by omega) (Nat.lt_of_lt_of_le hbl (T.mono hc hb (Nat.le_succ c) (by omega)))
       refine(QlJ hev hbl ha1).2 fun y' uy b' h6 h7 h8=>?_
       obtain⟨h9,h10⟩:=Qha h6;rw[h10]at hy;injection hy with hy; subst hy;have hfm:=QgI (St.kf x hx c f1 j1 y' (by omega) hic (h10 _ _))
       have hfr:=List.all_eq_true.1 hf _ hfm;simp only[Dyn.ok]at hfr;split at hfr
       ·rename_i u1 u2 hu1 hu2;have e2:=Qcs T St (by omega) hic h9 hfm (by simp[Dyn.QY]) hu2
        rw[hv]at hu1; injection hu1 with hu1; subst hu1;rw[h7]at e2; injection e2 with e2; subst e2;simp only[Qxt,hbv,h8]at hfr;intro e; subst e; simp at hfr
       ·cases hfr
      ·rename_i hy; exact absurd hy hne
      ·exact ht.elim
     ·rw[h5]
    ·obtain⟨t,h5,_⟩:=Qhb T St hf hpu hpf (by omega) hic ht
     rw[h5]; exact List.getElem?_append_left hbl
  ·have:k=c+1:=Nat.le_antisymm h1 h4;rw[this]
theorem QfW (T:Trace call fpol base ws it m E Hp)(St:Stat P n ops it m pf dyn)(hf:Je (E m) (Hp 0) (Hp m) dyn=true)(hc:Xj call)(hpu:JM call fpol)(hpf: ∀g,pf g=true->(fpol g=some .snap\/ ∃b,fpol g=some (.pur b)))(hb:base<=(Hp 0).length)
    {k:Nat} {f:Op1} {j:Nat} (hk:k<m) (hi:it k=some (f,j)) {x:O} (hkd:kindOf pf dyn f.i= .read x) (hx:x∈f.i.QY) {v:AV} {b:Nat} (hv:x.val (E k)=some v) (hbv:XD v=some b) (ha:ZD (Hp k) b): ∀c,k<=c->c<=m->
    (∀i f1 j1,k<i->i<c->it i=some (f1,j1)->Qt pf dyn f1.i->Jl dyn (.read x) (kindOf pf dyn f1.i)=true)->(Hp c)[b]? =(Hp k)[b]?
 | 0,h1,_,_=>by rw[Nat.le_zero.1 h1]
 | c+1,h1,h2,h3=>by
  rcases Nat.lt_or_ge k (c+1)with h4 | h4
  ·have ih:=QfW T St hf hc hpu hpf hb hk hi hkd hx hv hbv ha c (by omega) (by omega) fun i f1 j1 a1 a2=>h3 i f1 j1 a1 (by omega)
   have hbl:b<(Hp c).length:=by
    obtain⟨_,_,_,h5⟩:=ha;have:=(List.getElem?_eq_some_iff.1 h5).1
    exact Nat.lt_of_lt_of_le this (T.mono hc hb (by omega) (by omega))
   rw[←ih];cases hic:it c with
   | none=>rw[(T.drop c (by omega) hic).1]
   | some p=>
    obtain⟨f1,j1⟩:=p;by_cases ht:Qt pf dyn f1.i
    ·have hkc:k≠c:=by
       rintro rfl
       rw[hi]at hic; injection hic with hic; injection hic with hic _;subst hic;unfold Qt at ht; rw[hkd]at ht; exact ht
     have hok:=h3 c f1 j1 (by omega) (by omega) hic ht
     obtain⟨r,h5,_⟩:=T.step c (by omega) f1 j1 hic
     rcases h5 with⟨_,h5⟩ | ⟨_,_,h5⟩
     ·unfold Qt at ht;split at ht
      ·rename_i y hy;rw[hy]at hok;simp only[Jl,Bool.and_eq_true]at hok
       have hev:evI base ws (E c) (Hp c) f1.i=some (r,Hp (c+1)):=by
        cases hfi:f1.i<;>rw[hfi]at h5 hy<;>first | exact h5 | (simp only[kindOf]at hy; split at hy<;>cases hy)
       have hal:=List.all_eq_true.1 hf _ (QkN hok.1);simp only[Dyn.ok]at hal;split at hal
       ·rename_i u hu;have hu2:=Qcs T St hk hi hx (QkN hok.1) (by simp[Dyn.QY]) hu
        rw[hv]at hu2; injection hu2 with hu2; subst hu2
        have harr:ZD (Hp m) b:=by
         cases v<;>simp[XD]at hbv<;>subst hbv<;>simp only[Qql]at hal<;>(obtain⟨z,es,h6⟩:=QkO hal; exact⟨_,_,_,h6⟩)
        have ha1:=QiG T hc hb harr (m-(c+1)) (c+1) (by omega) (Nat.lt_of_lt_of_le hbl (T.mono hc hb (Nat.le_succ c) (by omega)))
        refine(QlJ hev hbl ha1).2 fun y' uy b' h6 h7 h8=>?_
        obtain⟨h9,h10⟩:=Qha h6;rw[h10]at hy;injection hy with hy; subst hy;have hfr:=List.all_eq_true.1 hf _ (QgI hok.2);simp only[Dyn.ok]at hfr;split at hfr
        ·rename_i u1 u2 hu1 hu2;have e1:=Qcs T St hk hi hx (QgI hok.2) (by simp[Dyn.QY]) hu1
         have e2:=Qcs T St (by omega) hic h9 (QgI hok.2) (by simp[Dyn.QY]) hu2
         rw[hv]at e1; injection e1 with e1; subst e1;rw[h7]at e2; injection e2 with e2; subst e2;simp only[Qxt,hbv,h8]at hfr;intro e; subst e; simp at hfr
        ·cases hfr
       ·cases hal
      ·rename_i hy;rw[hy]at hok;simp only[Jl]at hok;have hal:=List.all_eq_true.1 hf _ (QnA hok);simp only[Dyn.ok]at hal;split at hal
       ·rename_i u hu;have hu2:=Qcs T St hk hi hx (QnA hok) (by simp[Dyn.QY]) hu
        rw[hv]at hu2; injection hu2 with hu2; subst hu2;obtain⟨b',g1,g2,g3,g4⟩:=QpG hal;rw[hbv]at g1; injection g1 with g1; subst g1;have ec: ∀i f2 j2,i<m->it i=some (f2,j2)->kindOf pf dyn f2.i= .ecall->i=c:=fun i f2 j2 a1 a2 a3=>St.ec ⟨x,hok⟩ i c f2 f1 j2 j1 a1 (by omega) a2 hic a3 hy
        have e1:=Qhl T St hf hc hpu hpf hb hok hu hbv g4 g3 (k:=0) c (Nat.zero_le _) (by omega) fun i f2 j2 _ a2 a3 a4=>by have:=ec i f2 j2 (by omega) a3 a4; omega
        have e2:=Qhl T St hf hc hpu hpf hb hok hu hbv g4 g3 (k:=c+1) m (by omega) (Nat.le_refl _) fun i f2 j2 a1 a2 a3 a4=>by have:=ec i f2 j2 a2 a3 a4; omega
        rw[e1,←g2,e2]
       ·cases hal
      ·exact ht.elim
     ·rw[h5]
    ·obtain⟨t,h5,_⟩:=Qhb T St hf hpu hpf (by omega) hic ht
     rw[h5]; exact List.getElem?_append_left hbl
  ·have:k=c+1:=Nat.le_antisymm h1 h4;rw[this]
end
section
variable {P : Program} {n : Nat} {ops : Array Oper} {it : Nat -> Option (Op1 × Nat)} {m : Nat} {pf : FuncId -> Bool} {dyn : List Dyn} {E : Nat -> Env} {Hp : Nat -> H} {w0 wst : World} {wr : Nat} {β0 : Beta} {a0 : Act}
 {call:Xt} {fpol:FuncId->Option Pol} {base ws:Nat} {Q:Exit->Act->World->Prop}
theorem Qvj (T:Trace call fpol base ws it m E Hp)(St:Stat P n ops it m pf dyn)(hf:Je (E m) (Hp 0) (Hp m) dyn=true)(hcall:WK P w0 call)(hkeep:Xj call)(hpu:JM call fpol)(hpf: ∀g,pf g=true->(fpol g=some .snap\/ ∃b,fpol g=some (.pur b)))
    (hws:wr<=ws) (hwb:wr<=base) (hb:base<=(Hp 0).length) (hwl:ws<=(Hp 0).length) (hn:n<=a0.tmps.size)
    {listed:Array Bool} {a:Act} {w:World} {c:Nat} {β:Beta} (I:Inv ops it m pf dyn E Hp w0 wst wr β0 a0 listed a w c β) {j:Nat} (hj:j∈Region.ready .any ops listed):
    wpOp P ops Q j (fun a' w'=>∃c' β',Inv ops it m pf dyn E Hp w0 wst wr β0 a0 (listed.setIfInBounds j true) a' w' c' β') a w:=by
 obtain⟨hun,o,ho,hready⟩:=mem_ready.1 hj;have hjs:j<ops.size:=(Array.getElem?_eq_some_iff.1 ho).1
 have hnd: ¬Dn listed j:=fun h=>by
  have hjl:j<listed.size:=by rw[I.size]; exact hjs
  unfold Dn at h;simp[hjl]at h hun;rw[h]at hun; cases hun
 obtain⟨k,hk,f,hi⟩:=St.all j hjs;obtain⟨o2,ho2,hop⟩:=St.op k hk f j hi;rw[ho]at ho2; injection ho2 with ho2; subst ho2;have hpre: ∀i,ahead (QI ops) i j=true->Dn listed i:=fun i h=>Qex (S:=Dn listed) I.closed j o i ho hready h
 have hpost: ∀i,Dn listed i->ahead (QI ops) j i=true->False:=fun i h1 h2=>by
  cases hoi:ops[i]? with
  | none=>
   have: ¬i<ops.size:=fun h=>by rw[Array.getElem?_eq_getElem h]at hoi; cases hoi
   unfold Dn at h1;rw[Array.getD_eq_getD_getElem?,Array.getElem?_eq_none (by rw[I.size]; omega)]at h1
   cases h1
  | some oi=>exact hnd (Qex (S:=Dn listed) I.closed i oi j hoi (I.closed i oi h1 hoi) h2)
 have hE:Qo (view wr β (Hp c) w) β ((E k).keep (reads f)) a.tmps:=by
  intro s x hx;obtain⟨y,hy,hr⟩:=get_filter (E k) (fun q=>(reads f).contains q) s x hx
  have hg:(E k).get s=some x:=by
   unfold Env.keep at hx
   rwa[Yd (E k) (fun q=>(reads f).contains q) s hr]at hx
  have hsr:s∈reads f:=by simpa using hr
  rcases T.src k (Nat.le_of_lt hk) hg with⟨k',f',j',h1,h2,h3,h4⟩ | ⟨h1,h2⟩
  ·exact I.slots1 k' f' j' (by omega) h2 (hpre j' (St.data k' k f' f j' j s h1 hk h2 hi h3 hsr)) s x h3 h4
  ·refine I.slots0 s x h1 fun k' f' j' h3 h4 h5 h6=>?_
   rcases Nat.lt_trichotomy k' k with h7 | h7 | h7
   ·exact h2 k' f' j' h7 h4 h6
   ·subst h7;rw[hi]at h4; injection h4 with h4; injection h4 with _ h4;subst h4; exact hnd h5
   ·exact hpost j' h5 (St.anti k k' f f' j j' s h7 h3 hi h4 h6 hsr)
 have hget: ∀s∈reads f,((E k).keep (reads f)).get s=(E k).get s:=fun s hs=>by
  unfold Env.keep;exact Yd (E k) (fun q=>(reads f).contains q) s (by simpa using hs)
 have hops: ∀x∈f.i.QY,x.val ((E k).keep (reads f))=x.val (E k):=Qsi fun s hs=>hget s (by unfold reads; simp[hs])
 have hopd:=hop;unfold QhH at hopd;obtain⟨hopd,hopI⟩:=QK hopd;obtain⟨hopd,hguard⟩:=QK hopd;obtain⟨hdst,hin⟩:=QK hopd;have hdst:o.dst=f.d:=by simpa using hdst
 have hkc:kindOf pf dyn f.i= .free\/k<=c:=by
  rcases Nat.lt_or_ge c k with h1 | h1
  ·left
   rcases I.c2 with h2 | ⟨_,fc,jc,h2,h3,h4⟩
   ·omega
   ·rcases St.kinds c k fc f jc j h1 hk h2 hi with h5 | h5
    ·exact absurd (hpre jc h5) h4
    ·unfold Qt at h3;split at h3
     ·rename_i x hx;rw[hx]at h5;cases hkd:kindOf pf dyn f.i<;>rw[hkd]at h5<;>simp[Jl]at h5 ⊢
     ·rename_i hx;rw[hx]at h5;cases hkd:kindOf pf dyn f.i<;>rw[hkd]at h5<;>simp[Jl]at h5 ⊢
     ·exact h3.elim
  ·exact .inr h1
 have htc:Qt pf dyn f.i->k=c:=fun h1=>by
  rcases hkc with h2 | h2
  ·unfold Qt at h1; rw[h2]at h1; exact h1.elim
  ·rcases Nat.lt_or_ge k c with h3 | h3
   ·exact absurd (I.c1 k f j h3 hi h1) hnd
   ·omega
 have hcl: ∀q,q<=m->base<=(Hp q).length/\ws<=(Hp q).length:=fun q hq=>by
  obtain⟨h1,h2⟩:=T.len hkeep hb q hq;exact⟨h1,Nat.le_trans hwl h2⟩
 have h0c:(Hp 0).length<=(Hp c).length:=(T.len hkeep hb c I.cm).2;obtain⟨v,hstep,hEk⟩:=T.step k hk f j hi
 have hEv: ∀d x,f.d=some d->(E (k+1)).get d=some x->x=v:=fun d x h1 h2=>by
  rw[hEk,Zi,if_pos h1]at h2;injection h2 with h2; exact h2.symm
 have c1': ∀k1 f1 j1,k1<c->it k1=some (f1,j1)->Qt pf dyn f1.i->Dn listed j1\/j1=j:=fun k1 f1 j1 h1 h2 h3=>.inl (I.c1 k1 f1 j1 h1 h2 h3)
 have c2': ¬Qt pf dyn f.i->(c=m\/(c<m/\ ∃f1 j1,it c=some (f1,j1)/\Qt pf dyn f1.i/\ ¬Dn listed j1/\j1≠j)):=fun hnt=>by
  rcases I.c2 with h1 | ⟨hcm,f1,j1,h1,h2,h3⟩
  ·exact .inl h1
  ·refine .inr ⟨hcm,f1,j1,h1,h2,h3,?_⟩
   rintro rfl
   have:=St.inj c k f1 f j1 hcm hk h1 hi;subst this;rw[hi]at h1; injection h1 with h1; injection h1 with h1 _;subst h1; exact hnt h2
 have hcur_dom: ∀{h:H} {β':Beta} {w':World},Sim w0 wr β' h w'-> ∀b v,h.length<=b->β' b v=none:=fun{h β' w'} S b v hbl=>by
  cases hx:β' b v with
  | none=>rfl
  | some x=>have:=WG S hx; omega
 have touched:Qt pf dyn f.i-> ∀(β':Beta) (w':World) (v':Value),Sim w0 wr β' (Hp (k+1)) w'->Ext wr β (Hp k) w β' (Hp (k+1)) w'->(∀d x,f.d=some d->(E (k+1)).get d=some x->Rel (view wr β' (Hp (k+1)) w') β' x v')->
      ∃c' β',Inv ops it m pf dyn E Hp w0 wst wr β0 a0 (listed.setIfInBounds j true) (a.put o.dst v') w' c' β':=by
  intro ht β' w' v' S1 E1 hrel;have hkc':=htc ht;subst hkc';obtain⟨c',hc1,hc2,hc3,hc4⟩:=QhI (it:=it) (pf:=pf) (dyn:=dyn) (fun i=>Dn listed i\/i=j) (k+1) hk
  have hno: ∀i f1 j1,k+1<=i->i<c'->it i=some (f1,j1)-> ¬Qt pf dyn f1.i:=fun i f1 j1 h1 h2 h3 h4=>by
   rcases hc3 i f1 j1 h1 h2 h3 h4 with h5 | h5
   ·rcases St.kinds k i f f1 j j1 (by omega) (by omega) hi h3 with h6 | h6
    ·exact hpost j1 h5 h6
    ·unfold Qt at ht h4;cases hkd:kindOf pf dyn f.i<;>rw[hkd]at h6 ht<;>cases hkd1:kindOf pf dyn f1.i<;>rw[hkd1]at h6 h4<;>simp_all [Jl]
   ·subst h5;have:=St.inj i k f1 f j1 (by omega) hk h3 hi
    omega
  obtain⟨t,ht1,hnt⟩:=Qax T St hf hpu hpf c' hc1 hc2 fun i f1 j1 h1 h2 h3=>hno i f1 j1 h1 h2 h3
  have S2:Sim w0 wr β' (Hp c') w':=by rw[ht1]; exact(QdM S1 t hnt).1
  have e1:Ext0 wr β' (Hp (k+1)) w' β' (Hp c') w':=by rw[ht1]; exact Qko S1 t
  have hlk: ∀b,b<(Hp (k+1)).length->(Hp c')[b]? =(Hp (k+1))[b]?:=fun b hbl=>by rw[ht1]; exact List.getElem?_append_left hbl
  have h0k:(Hp 0).length<=(Hp (k+1)).length:=(T.len hkeep hb (k+1) hk).2;refine⟨c',β',QnF St hn I hk hi ho hop hready hc2 ?_ ?_ S2 (E1.toExt0.trans e1) ⟨I.ext.toExt0.trans (E1.toExt0.trans e1),QbG (Fresh.trans I.ext.len I.ext.toFresh E1.toFresh) (fun _ _ _=>rfl) fun b hb0=>hlk b (by omega)⟩ ?_ ?_ fun d x h1 h2=>(hrel d x h1 h2).to e1.view e1.beta⟩
  ·intro k1 f1 j1 h1 h2 h3;rcases Nat.lt_trichotomy k1 k with h4 | h4 | h4
   ·exact .inl (I.c1 k1 f1 j1 h4 h2 h3)
   ·subst h4;rw[hi]at h2; injection h2 with h2; injection h2 with _ h2;exact .inr h2.symm
   ·exact absurd h3 (hno k1 f1 j1 h4 h1 h2)
  ·rcases hc4 with h1 | ⟨h0,f1,j1,h1,h2,h3⟩
   ·exact .inl h1
   ·exact .inr ⟨h0,f1,j1,h1,h2,fun h=>h3 (.inl h),fun h=>h3 (.inr h)⟩
  ·intro k1 f1 j1 h1 h2 h3 h4 b h5 h6 u;rcases Nat.lt_or_ge b (Hp k).length with h7 | h7
   ·exact E1.fresh b h7 (I.unborn k1 f1 j1 h1 h3 h4 b h5 h6) u
   ·rcases Nat.lt_or_ge b (Hp (k+1)).length with h8 | h8
    ·exact absurd (QdC T hkeep hb h1 hk h5 h6 h7 h8) h2
    ·exact hcur_dom S1 b u h8
  ·intro k1 f1 j1 h1 h2 h3 h4 b h5 h6;rcases Nat.lt_or_ge k1 k with h7 | h7
   ·have h8:b<(Hp k).length:=Nat.lt_of_lt_of_le h6 (T.mono hkeep hb h7 (Nat.le_of_lt hk));have h9:=E1.len;rw[hlk b (by omega),E1.keep b h8 (I.unborn k1 f1 j1 (by omega) h3 h4 b h5 h6)]
    exact I.pend k1 f1 j1 h7 h3 h4 b h5 h6
   ·obtain⟨t2,ht2,_⟩:=Qax T St hf hpu hpf (k:=k1+1) c' h1 hc2 fun i f2 j2 a1 a2 a3=>hno i f2 j2 (by omega) a2 a3
    rw[ht2]; exact List.getElem?_append_left h6
 have calced: ¬Qt pf dyn f.i-> ∀(β':Beta) (w':World) (v':Value),Sim w0 wr β' (Hp c) w'->Ext0 wr β (Hp c) w β' (Hp c) w'->Fresh β0 (Hp 0) β' (Hp c)->
      (∀k1 f1 j1,k1<m->k1≠k->it k1=some (f1,j1)-> ¬Dn listed j1-> ∀b,(Hp k1).length<=b->b<(Hp (k1+1)).length-> ∀v,β' b v=none)->
      (∀d x,f.d=some d->(E (k+1)).get d=some x->Rel (view wr β' (Hp c) w') β' x v')->
      ∃c' β',Inv ops it m pf dyn E Hp w0 wst wr β0 a0 (listed.setIfInBounds j true) (a.put o.dst v') w' c' β':=fun hnt β' w' v' S1 e0 F1 hu hrel=>
  ⟨c,β',QnF St hn I hk hi ho hop hready I.cm c1' (c2' hnt) S1 e0 ⟨I.ext.toExt0.trans e0,F1⟩ hu (fun k1 f1 j1 h1 _ h2 h3=>I.pend k1 f1 j1 h1 h2 h3) hrel⟩
 have calcedE: ¬Qt pf dyn f.i-> ∀(β':Beta) (w':World) (v':Value),Sim w0 wr β' (Hp c) w'->Ext wr β (Hp c) w β' (Hp c) w'->(∀d x,f.d=some d->(E (k+1)).get d=some x->Rel (view wr β' (Hp c) w') β' x v')->
      ∃c' β',Inv ops it m pf dyn E Hp w0 wst wr β0 a0 (listed.setIfInBounds j true) (a.put o.dst v') w' c' β':=fun hnt β' w' v' S1 E1 hrel=>
  calced hnt β' w' v' S1 E1.toExt0 (Fresh.trans I.ext.len I.ext.toFresh E1.toFresh) (fun k1 f1 j1 h1 _ h3 h4 b h5 h6 u=>by
   rcases Nat.lt_or_ge b (Hp c).length with h7 | h7
   ·exact E1.fresh b h7 (I.unborn k1 f1 j1 h1 h3 h4 b h5 h6) u
   ·exact hcur_dom S1 b u h7) hrel
 unfold wpOp;simp only[ho];rcases hstep with⟨hon,hdo⟩ | ⟨hoff,hv,hh⟩
 ·
  have hw:Region.wanted o (yielded ops a.tmps)=true:=by
   cases hfg:f.g with
   | none=>
    rw[hfg]at hguard;have hno:o.guard=none:=by simpa[QaK]using hguard
    simp[Region.wanted,hno]
   | some gw=>
    obtain⟨s,wt⟩:=gw;have h1:=hon s wt hfg;rw[hfg]at hguard;rw[QeC hguard hE (by rw[hget s (by unfold reads; rw[hfg]; simp)]; exact h1)]
    simp
  rw[if_pos hw];refine .inl ?_
  have hdo':XE call fpol base ws ((E k).keep (reads f)) (Hp k) f.i=some (v,Hp (k+1)):=by rw[Qjc hops]; exact hdo
  have plain: ∀{g g':H} {r:AV},(∀q args,f.i≠ .call q args)->(∀q x args,f.i≠ .callv q x args)->evI base ws ((E k).keep (reads f)) g f.i=some (r,g')->XE call fpol base ws ((E k).keep (reads f)) g f.i=some (r,g'):=fun{g g' r} h1 h2 h3=>by
   cases hfi:f.i<;>rw[hfi]at h3 h1 h2<;>first | exact h3 | exact absurd rfl (h1 _ _) | exact absurd rfl (h2 _ _ _)
  have unplain:(∀q args,f.i≠ .call q args)->(∀q x args,f.i≠ .callv q x args)->evI base ws ((E k).keep (reads f)) (Hp k) f.i=some (v,Hp (k+1)):=fun h1 h2=>by
   cases hfi:f.i<;>rw[hfi]at hdo' h1 h2<;>first | exact hdo' | exact absurd rfl (h1 _ _) | exact absurd rfl (h2 _ _ _)
  have hcm:=I.cm
  have hklt:kindOf pf dyn f.i≠ .free-> ¬Qt pf dyn f.i->k<c:=fun h1 h2=>by
   have h3:=hkc.resolve_left h1;rcases Nat.lt_or_ge k c with h4 | h4
   ·exact h4
   ·have h5:k=c:=Nat.le_antisymm h3 h4;subst h5;rcases I.c2 with h6 | ⟨_,f1,j1,h6,h7,_⟩
    ·omega
    ·rw[hi]at h6; injection h6 with h6; injection h6 with h6 _;subst h6; exact absurd h7 h2
  cases hkd:kindOf pf dyn f.i with
  | free=>
   have hnt: ¬Qt pf dyn f.i:=by unfold Qt; rw[hkd]; exact fun h=>h
   have n1: ∀q args,f.i≠ .call q args:=fun q args h=>by rw[h]at hkd; simp only[kindOf]at hkd; split at hkd<;>cases hkd
   have n2: ∀q x args,f.i≠ .callv q x args:=fun q x args h=>by rw[h]at hkd; simp only[kindOf]at hkd; split at hkd<;>cases hkd
   have h1:=(QhT hkd (unplain n1 n2)).2 (Hp c);exact YZ hopI hcall hE I.sim hws hwb (hcl c hcm).1 (hcl c hcm).2 (plain n1 n2 h1) fun v' w' ⟨β',S1,E1,r1⟩=>calcedE hnt β' w' v' S1 E1 fun d x h2 h3=>by rw[hEv d x h2 h3]; exact r1
  | read x=>
   have hnt: ¬Qt pf dyn f.i:=by unfold Qt; rw[hkd]; exact fun h=>h
   have n1: ∀q args,f.i≠ .call q args:=fun q args h=>by rw[h]at hkd; simp only[kindOf]at hkd; split at hkd<;>cases hkd
   have n2: ∀q x args,f.i≠ .callv q x args:=fun q x args h=>by rw[h]at hkd; simp only[kindOf]at hkd; split at hkd<;>cases hkd
   have hevk:=unplain n1 n2;obtain⟨_,hx,hany⟩:=Qhx hkd hevk;have hkle:=hklt (by rw[hkd]; simp) hnt
   have h1:=hany (Hp c) fun vx b hvx hbx=>QfW T St hf hkeep hpu hpf hb hk hi hkd hx (by rw[←hops x hx]; exact hvx) hbx (Qun hkd hevk hvx hbx) c (Nat.le_of_lt hkle) hcm fun i f1 j1 h2 h3 h4 h5=>by
    rcases St.kinds k i f f1 j j1 h2 (by omega) hi h4 with h6 | h6
    ·exact(hpost j1 (I.c1 i f1 j1 h3 h4 h5) h6).elim
    ·rw[hkd]at h6; exact h6
   exact YZ hopI hcall hE I.sim hws hwb (hcl c hcm).1 (hcl c hcm).2 (plain n1 n2 h1) fun v' w' ⟨β',S1,E1,r1⟩=>calcedE hnt β' w' v' S1 E1 fun d x h2 h3=>by rw[hEv d x h2 h3]; exact r1
  | birth=>
   have hnt: ¬Qt pf dyn f.i:=by unfold Qt; rw[hkd]; exact fun h=>h
   have n1: ∀q args,f.i≠ .call q args:=fun q args h=>by rw[h]at hkd; simp only[kindOf]at hkd; split at hkd<;>cases hkd
   have n2: ∀q x args,f.i≠ .callv q x args:=fun q x args h=>by rw[h]at hkd; simp only[kindOf]at hkd; split at hkd<;>cases hkd
   have hevk:=unplain n1 n2;have hkl:=hklt (by rw[hkd]; simp) hnt
   obtain⟨sz,els,hH,hu,hg⟩:=Qtp (L:=(Hp c).length) hopI hkd hE (fun b v x hx=>WG I.sim hx) (fun x hx hp v hv=>Qnb T St hf hk hi x hx hp v (by rw[←hops x hx]; exact hv)) hevk
   obtain⟨ug,hev2,hconv⟩:=hg (Hp c);refine YZ hopI hcall hE I.sim hws hwb (hcl c hcm).1 (hcl c hcm).2 (plain n1 n2 hev2) fun v' w' ⟨β1,S1,E1,r1⟩=>?_
   have hin1:(Hp k).length<(Hp (k+1)).length:=by rw[hH]; simp
   have hbk:(Hp c)[(Hp k).length]? =some (.arr 0 sz els):=by rw[I.pend k f j hkl hi hnd _ (Nat.le_refl _) hin1,hH]; simp
   have hnone:=I.unborn k f j hk hi hnd (Hp k).length (Nat.le_refl _) hin1;obtain⟨S2,e2,L2,_⟩:=QpB I.sim S1 E1 hbk (Nat.le_trans hwb (hcl k (Nat.le_of_lt hk)).1) hnone hu;have h0k:(Hp 0).length<=(Hp k).length:=(T.len hkeep hb k (Nat.le_of_lt hk)).2;refine calced hnt _ w' v' S2 e2 (QbG (Fresh.trans I.ext.len I.ext.toFresh E1.toFresh) (fun b hb0 u=>?_) fun b hb0=>(List.getElem?_append_left (by omega)).symm) (fun k1 f1 j1 h1 h2 h3 h4 b h5 h6 u=>?_) fun d x h1 h2=>?_
   ·unfold Wb;rw[if_neg (by omega),if_pos (by omega)]
   ·have hne:b≠(Hp k).length:=by
      rintro rfl
      exact h2 (QdC T hkeep hb h1 hk h5 h6 (Nat.le_refl _) hin1)
    unfold Wb;rw[if_neg hne];split
    ·rename_i hbl; exact E1.fresh b hbl (I.unborn k1 f1 j1 h1 h3 h4 b h5 h6) u
    ·rfl
   ·rw[hEv d x h1 h2];exact hconv _ β1 _ v' (fun ver=>by unfold Wb; rw[if_pos rfl]) (r1.to (ZV L2) (Beta.Le.refl _))
  | call=>
   have hnt: ¬Qt pf dyn f.i:=by unfold Qt; rw[hkd]; exact fun h=>h
   have hkl:=hklt (by rw[hkd]; simp) hnt
   have after: ∀i f1 j1,k<i->i<c->it i=some (f1,j1)->Dn listed j1->Jl dyn .call (kindOf pf dyn f1.i)=true:=fun i f1 j1 h1 h2 h3 h4=>by
    rcases St.kinds k i f f1 j j1 h1 (by omega) hi h3 with h6 | h6
    ·exact(hpost j1 h4 h6).elim
    ·rw[hkd]at h6; exact h6
   have hno: ∀i f1 j1,k<=i->i<c->it i=some (f1,j1)-> ¬Qt pf dyn f1.i:=fun i f1 j1 h1 h2 h3 h4=>by
    rcases Nat.lt_or_ge k i with h5 | h5
    ·have h6:=after i f1 j1 h5 h2 h3 (I.c1 i f1 j1 h2 h3 h4);unfold Qt at h4;split at h4
     ·rename_i y hy; rw[hy]at h6; simp[Jl]at h6
     ·rename_i hy; rw[hy]at h6; simp[Jl]at h6
     ·exact h4
    ·have:i=k:=by omega
     subst this;rw[hi]at h3; injection h3 with h3; injection h3 with h3 _;subst h3; exact hnt h4
   obtain⟨t,ht,_⟩:=Qax T St hf hpu hpf c (Nat.le_of_lt hkl) hcm hno;obtain⟨t1,ht1,hnt1⟩:=Qax T St hf hpu hpf (k:=k+1) c hkl hcm fun i f1 j1 h1=>hno i f1 j1 (by omega)
   have hnone: ∀b u,(Hp k).length<=b->β b u=none:=fun b u hbl=>by
    rcases Nat.lt_or_ge b (Hp c).length with h1 | h1
    ·obtain⟨i,f1,j1,h2,h3,h4,h5,h6⟩:=Qrq T hkeep hb c (Nat.le_of_lt hkl) hcm hbl h1;refine I.unborn i f1 j1 (by omega) h4 (fun h7=>?_) b h5 h6 u
     rcases Nat.lt_or_ge k i with h8 | h8
     ·have h9:=after i f1 j1 h8 h3 h4 h7;obtain⟨r,h10,_⟩:=T.step i (by omega) f1 j1 h4
      have hsame:Hp (i+1)=Hp i:=by
       rcases h10 with⟨_,h10⟩ | ⟨_,_,h10⟩
       ·cases hkd1:kindOf pf dyn f1.i<;>rw[hkd1]at h9<;>simp[Jl]at h9
        ·have hev:evI base ws (E i) (Hp i) f1.i=some (r,Hp (i+1)):=by
           cases hfi:f1.i<;>rw[hfi]at h10 hkd1<;>first | exact h10 | (simp only[kindOf]at hkd1; split at hkd1<;>cases hkd1)
         exact(QhT hkd1 hev).1
        ·have hev:evI base ws (E i) (Hp i) f1.i=some (r,Hp (i+1)):=by
           cases hfi:f1.i<;>rw[hfi]at h10 hkd1<;>first | exact h10 | (simp only[kindOf]at hkd1; split at hkd1<;>cases hkd1)
         exact(Qhx hkd1 hev).1
       ·exact h10
      rw[hsame]at h6; omega
     ·have:i=k:=by omega
      subst this;rw[hi]at h4; injection h4 with h4; injection h4 with _ h4;subst h4; exact hnd h7
    ·exact hcur_dom I.sim b u h1
   have S':Sim w0 wr β (Hp k++t) w:=ht▸I.sim;obtain⟨Sk,Lk⟩:=QtO S' fun b u h=>hnone b u h
   have hEk':Qo (view wr β (Hp k) w) β ((E k).keep (reads f)) a.tmps:=hE.mono (ZV fun c' h=>by rw[ht]; exact(Lk c').1 h) (Beta.Le.refl _)
   have hkm:=Nat.le_of_lt hk;refine YZ hopI hcall hEk' Sk hws hwb (hcl k hkm).1 (hcl k hkm).2 hdo' fun v' w' ⟨β',S1,E1,r1⟩=>?_
   have S2:Sim w0 wr β' (Hp c) w':=by rw[ht1]; exact(QdM S1 t1 hnt1).1
   have L2: ∀c',Live wr β' (Hp c) c'↔Live wr β' (Hp (k+1)) c':=fun c'=>by rw[ht1]; exact(QdM S1 t1 hnt1).2 c'
   have h0k:(Hp 0).length<=(Hp k).length:=(T.len hkeep hb k hkm).2;have hk1:=E1.len
   have e0:Ext0 wr β (Hp c) w β' (Hp c) w':=⟨E1.os,E1.tape,E1.output,E1.size,Nat.le_refl _,E1.beta,fun c' hc' hl=>by
    have h1:=E1.stay c' hc' fun h=>hl (by rw[ht]; exact(Lk c').1 h)
    exact⟨h1.1,fun h=>h1.2 ((L2 c').1 h)⟩,E1.shape⟩
   have F:Fresh β0 (Hp 0) β' (Hp c):=QbG (Fresh.trans h0k (QbG I.ext.toFresh (fun _ _ _=>rfl) fun b hb0=>by rw[ht]; exact(List.getElem?_append_left (by omega)).symm) E1.toFresh) (fun _ _ _=>rfl) fun b hb0=>by rw[ht1]; exact List.getElem?_append_left (by omega)
   refine calced hnt β' w' v' S2 e0 F (fun k1 f1 j1 h1 h2 h3 h4 b h5 h6 u=>?_) fun d x h1 h2=>?_
   ·rcases Nat.lt_or_ge b (Hp k).length with h7 | h7
    ·exact E1.fresh b h7 (I.unborn k1 f1 j1 h1 h3 h4 b h5 h6) u
    ·rcases Nat.lt_or_ge b (Hp (k+1)).length with h8 | h8
     ·exact absurd (QdC T hkeep hb h1 hk h5 h6 h7 h8) h2
     ·exact hcur_dom S1 b u h8
   ·rw[hEv d x h1 h2];exact r1.to (ZV fun c' h=>(L2 c').1 h) (Beta.Le.refl _)
  | touch x=>
   have ht:Qt pf dyn f.i:=by unfold Qt; rw[hkd]; trivial
   have hkc':=htc ht;subst hkc';exact YZ hopI hcall hE I.sim hws hwb (hcl k hcm).1 (hcl k hcm).2 hdo' fun v' w' ⟨β',S1,E1,r1⟩=>touched ht β' w' v' S1 E1 fun d x h2 h3=>by rw[hEv d x h2 h3]; exact r1
  | ecall=>
   have ht:Qt pf dyn f.i:=by unfold Qt; rw[hkd]; trivial
   have hkc':=htc ht;subst hkc';exact YZ hopI hcall hE I.sim hws hwb (hcl k hcm).1 (hcl k hcm).2 hdo' fun v' w' ⟨β',S1,E1,r1⟩=>touched ht β' w' v' S1 E1 fun d x h2 h3=>by rw[hEv d x h2 h3]; exact r1
 ·
  obtain⟨s,wt,hfg,hs⟩:=hoff
  have hw:Region.wanted o (yielded ops a.tmps)=false:=by
   rw[hfg]at hguard;have hse:((E k).keep (reads f)).get s=(E k).get s:=hget s (by unfold reads; rw[hfg]; simp)
   rcases hs with hs | hs
   ·rw[QeC hguard hE (by rw[hse]; exact hs)]
    cases wt<;>rfl
   ·exact Qjo hguard hE (by rw[hse]; exact hs)
  rw[if_neg (by rw[hw]; simp)]
  have hrel: ∀(V:View) (β':Beta) d x,f.d=some d->(E (k+1)).get d=some x->Rel V β' x undef:=fun V β' d x h1 h2=>by rw[hEv d x h1 h2,hv]; exact QjB
  by_cases ht:Qt pf dyn f.i
  ·have hkc':=htc ht;refine touched ht β w undef (by rw[hh,hkc']; exact I.sim) (by rw[hh]; exact Ext.refl _ _ _ _) fun d x=>hrel _ _ d x
  ·exact calcedE ht β w undef I.sim (Ext.refl _ _ _ _) fun d x=>hrel _ _ d x
end
end Go.Avm
