/- A drawn region: one more operation comes up. -/
import Derived.Test.YtflbneepngjglaaGreatDoorO18
set_option linter.all false
namespace Go.Avm
open Go.RowKit
def mkMask (acc:List Nat)(o:Oper):Nat:=o.after.toList.foldl (fun m e=>if Region.binds .any e=true then m||| (acc.getD e.on 0||| 2^e.on)else m) 0
def Qif :List Nat->List Oper->List Nat
 | acc,[]=>acc
 | acc,o::r=>Qif (acc++ [mkMask acc o]) r
def QI (ops:Array Oper):List Nat:=Qif [] ops.toList
theorem QnJ {acc:List Nat}{i:Nat}: ∀(l:List Edge) (m:Nat),(l.foldl (fun m e=>if Region.binds .any e=true then m||| (acc.getD e.on 0||| 2^e.on)else m) m).testBit i=true->m.testBit i=true\/ ∃e∈l,Region.binds .any e=true/\((acc.getD e.on 0).testBit i=true\/e.on=i)
 | [],m,h=>.inl h
 | e::l,m,h=>by
  simp only[List.foldl_cons]at h;rcases QnJ l _ h with h1 | ⟨e',h1,h2⟩
  ·split at h1
   ·rename_i hb;simp only[Nat.testBit_or,Bool.or_eq_true]at h1;rcases h1 with h1 | h1 | h1
    ·exact .inl h1
    ·exact .inr ⟨e,by simp,hb,.inl h1⟩
    ·rw[Nat.testBit_two_pow]at h1;exact .inr ⟨e,by simp,hb,.inr (by simpa using h1)⟩
   ·exact .inl h1
  ·exact .inr ⟨e',by simp[h1],h2⟩
theorem Qdl : ∀(r:List Oper) (acc:List Nat),(∃t,Qif acc r=acc++t/\t.length=r.length)/\ ∀j o,r[j]? =some o->(Qif acc r).getD (acc.length+j) 0=mkMask ((Qif acc r).take (acc.length+j)) o
 | [],acc=>⟨⟨[],by simp[Qif]⟩,fun j o h=>by simp at h⟩
 | o::r,acc=>by
  obtain⟨⟨t,h1,h2⟩,h3⟩:=Qdl r (acc++ [mkMask acc o]);simp only[Qif];refine⟨⟨mkMask acc o::t,by rw[h1]; simp,by simp[h2]⟩,fun j q hj=>?_⟩
  cases j with
  | zero=>
   simp at hj; subst hj;rw[h1];simp[List.getD_eq_getElem?_getD]
  | succ j=>
   have:=h3 j q (by simpa using hj)
   simp only[List.length_append,List.length_singleton]at this;rw[show acc.length+(j+1)=acc.length+1+j by omega]
   exact this
theorem Qtf {ops:Array Oper}{j:Nat}{o:Oper}(h:ops[j]? =some o):(QI ops).getD j 0=mkMask ((QI ops).take j) o:=by
 have:=(Qdl ops.toList []).2 j o (by simpa using h)
 simpa[QI]using this
def ahead (cl:List Nat)(i j:Nat):Bool:=(cl.getD j 0).testBit i
theorem Qex {ops:Array Oper}{S:Nat->Prop}(hS: ∀j o,S j->ops[j]? =some o-> ∀e∈o.after,Region.binds .any e=true->S e.on): ∀(j:Nat) (o:Oper) (i:Nat),ops[j]? =some o->(∀e∈o.after,Region.binds .any e=true->S e.on)->ahead (QI ops) i j=true->S i:=by
 intro j
 induction j using Nat.strongRecOn with
 | _ j ih=>
  intro o i ho he ha;unfold ahead at ha;rw[Qtf ho]at ha;rcases QnJ _ _ ha with h1 | ⟨e,h1,h2,h3⟩
  ·simp at h1
  ·have hse:=he e (by simpa using h1) h2
   rcases h3 with h3 | rfl
   ·have hlt:e.on<j:=by
      rcases Nat.lt_or_ge e.on j with h4 | h4
      ·exact h4
      ·rw[List.getD_eq_getElem?_getD,List.getElem?_eq_none (by simp; omega)]at h3
       simp at h3
    rw[List.getD_eq_getElem?_getD,List.getElem?_take,if_pos hlt,←List.getD_eq_getElem?_getD]at h3
    cases ho2:ops[e.on]? with
    | none=>
     have hlen:(QI ops).length=ops.toList.length:=by
      obtain⟨⟨t,h5,h6⟩,_⟩:=Qdl ops.toList [];unfold QI;rw[h5]; simpa using h6
     rw[List.getD_eq_getElem?_getD,List.getElem?_eq_none]at h3
     ·simp at h3
     ·rw[hlen];simp at ho2 ⊢;exact ho2
    | some o2=>exact ih e.on hlt o2 i ho2 (fun e' he' hb'=>hS e.on o2 hse ho2 e' he' hb') h3
   ·exact hse
def ZD (h:H)(b:Nat):Prop:=∃ver sz els,h[b]? =some (Qq.arr ver sz els)
def target :I->Option O
 | .st _ x _=>some x
 | .app _ _ _ x _=>some x
 | _=>none
theorem Qkj {base n:Nat}{v v':AV}{h h':H}(e:frz base n v h=some (v',h')){b:Nat}(ha:ZD h' b):h'[b]? =h[b]?:=by
 obtain⟨ver,sz,els,h1⟩:=ha;rw[h1,Qcp base n v h v' h' e b ver sz els h1]
theorem QiC {base:Nat}{e:Env}{sz:Nat}: ∀{ps:List (Nat×O)} {els els':List AV} {h h':H},QS base e sz ps els h=some (els',h')-> ∀{b:Nat},ZD h' b->h'[b]? =h[b]?
 | [],els,els',h,h',ev,b,_=>by
  simp[QS]at ev;obtain⟨_,rfl⟩:=ev;rfl
 | (i,x)::r,els,els',h,h',ev,b,ha=>by
  unfold QS at ev;split at ev
  ·split at ev
   ·rename_i h1 e1;split at ev
    ·have h2:=QiC ev ha
     have h3:ZD h1 b:=by
      obtain⟨ver,sz,els,h4⟩:=ha;exact⟨ver,sz,els,by rw[←h2]; exact h4⟩
     exact h2.trans (Qkj e1 h3)
    ·cases ev
   ·cases ev
  ·cases ev
theorem QlJ {base ws:Nat}{e:Env}{h h':H}{i:I}{u:AV}(ev:evI base ws e h i=some (u,h')){b:Nat}(hb:b<h.length)(ha:ZD h' b):
    ZD h b/\((∀x v b',target i=some x->x.val e=some v->XD v=some b'->b'≠b)->h'[b]? =h[b]?):=by
 have stay:h'=h->ZD h b/\((∀x v b',target i=some x->x.val e=some v->XD v=some b'->b'≠b)->h'[b]? =h[b]?):=by
  rintro rfl; exact⟨ha,fun _=>rfl⟩
 have app:(∃t,h'=h++t)->ZD h b/\((∀x v b',target i=some x->x.val e=some v->XD v=some b'->b'≠b)->h'[b]? =h[b]?):=by
  rintro⟨t,rfl⟩
  have h1:(h++t)[b]? =h[b]?:=List.getElem?_append_left hb
  obtain⟨ver,sz,els,h2⟩:=ha;exact⟨⟨ver,sz,els,by rw[←h1]; exact h2⟩,fun _=>h1⟩
 have same:h'[b]? =h[b]? ->ZD h b/\((∀x v b',target i=some x->x.val e=some v->XD v=some b'->b'≠b)->h'[b]? =h[b]?):=by
  intro h1;obtain⟨ver,sz,els,h2⟩:=ha;exact⟨⟨ver,sz,els,by rw[←h1]; exact h2⟩,fun _=>h1⟩
 have setno: ∀b0 blk,(∀v z l,blk≠Qq.arr v z l)->h'=h.set b0 blk->ZD h b/\((∀x v b',target i=some x->x.val e=some v->XD v=some b'->b'≠b)->h'[b]? =h[b]?):=by
  intro b0 blk hx hh
  have hne:b0≠b:=by
   rintro rfl
   obtain⟨a1,a2,a3,a4⟩:=ha;rw[hh,List.getElem?_set_self hb]at a4
   injection a4 with a4; exact hx _ _ _ a4
  exact same (by rw[hh]; exact List.getElem?_set_ne hne)
 cases i with
 | ustr T p n=>
  simp only[evI]at ev
  repeat' split at ev
  all_goals first
   | (cases ev; done)
   | (simp at ev; exact stay ev.2.symm)
   | (simp at ev; exact setno _ _ (fun _ _ _ h=>by cases h) ev.2.symm)
 | appb T lim x y=>
  simp only[evI]at ev
  repeat' split at ev
  all_goals first
   | (cases ev; done)
   | (simp at ev; exact setno _ _ (fun _ _ _ h=>by cases h) ev.2.symm)
 | st sz x v=>
  dsimp only[evI]at ev;split at ev
  ·rename_i b0 ver bz j o r hx hv;split at ev
   ·split at ev
    ·rename_i u' h1 hu
     have hu1: ∀{b:Nat},ZD h1 b->h1[b]? =h[b]?:=by
      split at hu
      ·exact fun ha=>Qkj hu ha
      ·simp at hu;obtain⟨_,rfl⟩:=hu;exact fun _=>rfl
     split at ev
     ·rename_i v' z els hbk;split at ev
      ·split at ev
       ·split at ev
        ·split at ev
         ·simp at ev; obtain⟨_,rfl⟩:=ev;by_cases hbb:b0=b
          ·subst hbb;have h2:=hu1 ⟨_,_,_,hbk⟩;exact⟨⟨_,_,_,by rw[←h2]; exact hbk⟩,fun hne=>absurd rfl (hne x _ _ rfl hx rfl)⟩
          ·rw[List.getElem?_set_ne hbb]at same
           have ha1:ZD h1 b:=by
            obtain⟨a1,a2,a3,a4⟩:=ha;exact⟨a1,a2,a3,by rwa[List.getElem?_set_ne hbb]at a4⟩
           rw[List.getElem?_set_ne hbb]
           exact same (hu1 ha1)
         ·cases ev
        ·cases ev
       ·cases ev
      ·cases ev
     ·cases ev
    ·cases ev
   ·cases ev
  ·cases ev
 | app s sz lim x y=>
  simp only[evI]at ev;split at ev
  ·rename_i xv yv hxv hyv;split at ev
   ·unfold Ju at ev;split at ev
    ·split at ev
     ·simp at ev; obtain⟨_,rfl⟩:=ev; exact app ⟨_,rfl⟩
     ·cases ev
    ·rename_i b0 ver sz' off len;split at ev
     ·rename_i hbk;split at ev
      ·simp at ev; obtain⟨_,rfl⟩:=ev;by_cases hbb:b0=b
       ·subst hbb;exact⟨⟨_,_,_,hbk⟩,fun hne=>absurd rfl (hne x _ _ rfl hxv rfl)⟩
       ·exact same (List.getElem?_set_ne hbb)
      ·cases ev
     ·cases ev
    ·cases ev
   ·cases ev
  ·cases ev
 | bsl sz n zero ps=>
  simp only[evI]at ev;split at ev
  ·rename_i h1 e1;simp at ev; obtain⟨_,rfl⟩:=ev;have hl:=(QaW e1).1;have h2: ∀t,(h1++t)[b]? =h1[b]?:=fun t=>List.getElem?_append_left (by omega)
   have ha1:ZD h1 b:=by
    obtain⟨a1,a2,a3,a4⟩:=ha;exact⟨a1,a2,a3,by rwa[h2]at a4⟩
   exact same ((h2 _).trans (QiC e1 ha1))
  ·cases ev
 | nxt x=>
  simp only[evI]at ev;split at ev
  ·split at ev
   ·split at ev
    ·rename_i hbk;split at ev
     ·simp at ev; obtain⟨_,rfl⟩:=ev;refine same (List.getElem?_set_ne ?_)
      rintro rfl
      obtain⟨a1,a2,a3,a4⟩:=ha;rw[List.getElem?_set_self hb]at a4
      simp at a4
     ·simp at ev; obtain⟨_,h1⟩:=ev; exact stay h1.symm
    ·cases ev
   ·cases ev
  ·cases ev
 | call f args=>simp[evI]at ev
 | callv pu f args=>simp[evI]at ev
 | own0 sz=>simp[evI]at ev; obtain⟨_,rfl⟩:=ev; exact app ⟨_,rfl⟩
 | _=>
  simp only[evI]at ev
  repeat' split at ev
  all_goals first
   | (cases ev; done)
   | (simp at ev; exact stay ev.2.symm)
   | (simp at ev; exact app ⟨_,ev.2.symm⟩)
end Go.Avm
namespace Go.Avm
open Go.RowKit
def reads (f:Op1):List Nat:=f.i.Qba++(match f.g with | some (s,_)=>[s] | none=>[])
def GOn (g:Option (Nat×Bool))(e:Env):Prop:=∀s w,g=some (s,w)->e.get s=some (.bool w)
def QEG (g:Option (Nat×Bool))(e:Env):Prop:=∃s w,g=some (s,w)/\(e.get s=some (.bool (!w))\/e.get s=some (.tup []))
def Qt (pf:FuncId->Bool)(dyn:List Dyn)(i:I):Prop:=match kindOf pf dyn i with | .touch _=>True | .ecall=>True | _=>False
def Qib (dyn:List Dyn)(x:O):Bool:=dyn.any fun d=>match d with | .alive y=>O.same y x | _=>false
def Qia (dyn:List Dyn)(x y:O):Bool:=dyn.any fun d=>match d with | .far a b=>O.same a x&&O.same b y | _=>false
def Wy (dyn:List Dyn)(x:O):Bool:=dyn.any fun d=>match d with | .kept y=>O.same y x | _=>false
def Jl (dyn:List Dyn):Kd->Kd->Bool
 | .free,_=>true
 | .read x,k=>(match k with
  | .free | .read _ | .birth | .call=>true
  | .touch y=>Qib dyn x&&(match y with | some y=>Qia dyn x y | none=>true)
  | .ecall=>Wy dyn x)
 | .birth,_=>true
 | .call,k=>(match k with | .free | .read _=>true | _=>false)
 | .touch _,k=>(match k with | .free=>true | _=>false)
 | .ecall,k=>(match k with | .free=>true | _=>false)
def Dyn.QY:Dyn->List O
 | .far x y=>[x,y]
 | .pur x=>[x]
 | .alive x=>[x]
 | .kept x=>[x]
def Qob (dyn:List Dyn):List Nat:=dyn.flatMap fun d=>d.QY.flatMap O.Qba
structure Stat (P:Program) (n:Nat) (ops:Array Oper) (it:Nat->Option (Op1×Nat)) (m:Nat) (pf:FuncId->Bool) (dyn:List Dyn):Prop where
 op: ∀k,k<m-> ∀f j,it k=some (f,j)-> ∃o,ops[j]? =some o/\QhH P n ops o f=true
 all: ∀j,j<ops.size-> ∃k,k<m/\ ∃f,it k=some (f,j)
 inj: ∀k k' f f' j,k<m->k'<m->it k=some (f,j)->it k'=some (f',j)->k=k'
 lin: ∀k f j o,k<m->it k=some (f,j)->ops[j]? =some o-> ∀e∈o.after,Region.binds .any e=true-> ∃k',k'<k/\ ∃f',it k'=some (f',e.on)
 dst: ∀k k' f f' j j' d,k<k'->k'<m->it k=some (f,j)->it k'=some (f',j')->f.d=some d->f'.d≠some d
 data: ∀k k' f f' j j' d,k<k'->k'<m->it k=some (f,j)->it k'=some (f',j')->f.d=some d->d∈reads f'->ahead (QI ops) j j'=true
 anti: ∀k k' f f' j j' d,k<k'->k'<m->it k=some (f,j)->it k'=some (f',j')->f'.d=some d->d∈reads f->ahead (QI ops) j j'=true
 kinds: ∀k k' f f' j j',k<k'->k'<m->it k=some (f,j)->it k'=some (f',j')->ahead (QI ops) j j'=true\/Jl dyn (kindOf pf dyn f.i) (kindOf pf dyn f'.i)=true
 ec:(∃x,Wy dyn x=true)-> ∀k k' f f' j j',k<m->k'<m->it k=some (f,j)->it k'=some (f',j')->kindOf pf dyn f.i= .ecall->kindOf pf dyn f'.i= .ecall->k=k'
 kf: ∀x,Wy dyn x=true-> ∀k f j y,k<m->it k=some (f,j)->kindOf pf dyn f.i= .touch (some y)->Qia dyn x y=true
 stab: ∀k k' f f' j j' s,k<=k'->k'<m->it k=some (f,j)->it k'=some (f',j')->s∈f.i.Qba->s∈Qob dyn->f'.d≠some s
structure Trace (call:Xt) (fpol:FuncId->Option Pol) (base ws:Nat) (it:Nat->Option (Op1×Nat)) (m:Nat) (E:Nat->Env) (Hp:Nat->H):Prop where
 drop: ∀k,k<m->it k=none->Hp (k+1)=Hp k/\ ∀s x,(E (k+1)).get s=some x->(E k).get s=some x
 step: ∀k,k<m-> ∀f j,it k=some (f,j)-> ∃v,((GOn f.g (E k)/\XE call fpol base ws (E k) (Hp k) f.i=some (v,Hp (k+1)))\/(QEG f.g (E k)/\v= .tup []/\Hp (k+1)=Hp k))/\E (k+1)=Jc (E k) f.d v
section
variable {P : Program} {n : Nat} {ops : Array Oper} {it : Nat -> Option (Op1 × Nat)} {m : Nat} {pf : FuncId -> Bool} {dyn : List Dyn} {call : Xt} {fpol : FuncId -> Option Pol} {base ws : Nat} {E : Nat -> Env} {Hp : Nat -> H}
theorem Trace.len(T:Trace call fpol base ws it m E Hp)(hc:Xj call)(hb:base<=(Hp 0).length): ∀k,k<=m->base<=(Hp k).length/\(Hp 0).length<=(Hp k).length
 | 0,_=>⟨hb,Nat.le_refl _⟩
 | k+1,hk=>by
  obtain⟨h1,h2⟩:=T.len hc hb k (by omega)
  have h3:(Hp k).length<=(Hp (k+1)).length:=by
   cases hi:it k with
   | none=>rw[(T.drop k (by omega) hi).1]; exact Nat.le_refl _
   | some p=>
    obtain⟨v,h4,_⟩:=T.step k (by omega) p.1 p.2 hi
    rcases h4 with⟨_,h4⟩ | ⟨_,_,h4⟩
    ·exact(QeY hc h4 h1).1.1
    ·rw[h4]; exact Nat.le_refl _
  exact⟨Nat.le_trans h1 h3,Nat.le_trans h2 h3⟩
theorem Trace.mono(T:Trace call fpol base ws it m E Hp)(hc:Xj call)(hb:base<=(Hp 0).length){k k':Nat}(hk:k<=k')(hm:k'<=m):(Hp k).length<=(Hp k').length:=by
 induction k' with
 | zero=>rw[Nat.le_zero.1 hk]; exact Nat.le_refl _
 | succ k' ih=>
  rcases Nat.lt_or_ge k (k'+1)with h1 | h1
  ·refine Nat.le_trans (ih (by omega) (by omega)) ?_
   cases hi:it k' with
   | none=>rw[(T.drop k' (by omega) hi).1]; exact Nat.le_refl _
   | some p=>
    obtain⟨v,h4,_⟩:=T.step k' (by omega) p.1 p.2 hi
    rcases h4 with⟨_,h4⟩ | ⟨_,_,h4⟩
    ·exact(QeY hc h4 (T.len hc hb k' (by omega)).1).1.1
    ·rw[h4]; exact Nat.le_refl _
  ·rw[Nat.le_antisymm hk h1]; exact Nat.le_refl _
theorem Trace.src(T:Trace call fpol base ws it m E Hp){s:Nat}{x:AV}: ∀k,k<=m->(E k).get s=some x->
    (∃k' f j,k'<k/\it k'=some (f,j)/\f.d=some s/\(E (k'+1)).get s=some x)\/((E 0).get s=some x/\ ∀k' f j,k'<k->it k'=some (f,j)->f.d≠some s)
 | 0,_,h=>.inr ⟨h,fun k' f j hk=>by omega⟩
 | k+1,hk,h=>by
  have up:(∀f j,it k=some (f,j)->f.d≠some s)->(E k).get s=some x->(∃k' f j,k'<k+1/\it k'=some (f,j)/\f.d=some s/\(E (k'+1)).get s=some x)\/((E 0).get s=some x/\ ∀k' f j,k'<k+1->it k'=some (f,j)->f.d≠some s):=by
   intro hno hg;rcases T.src k (by omega) hg with⟨k',f,j,h1,h2,h3,h4⟩ | ⟨h1,h2⟩
   ·exact .inl ⟨k',f,j,by omega,h2,h3,h4⟩
   ·refine .inr ⟨h1,fun k' f j hk' hi=>?_⟩
    rcases Nat.lt_or_ge k' k with h3 | h3
    ·exact h2 k' f j h3 hi
    ·have:k'=k:=by omega
     subst this;exact hno f j hi
  cases hi:it k with
  | none=>exact up (fun f j h=>by rw[hi]at h; cases h) ((T.drop k (by omega) hi).2 s x h)
  | some p=>
   obtain⟨f,j⟩:=p;obtain⟨v,_,h5⟩:=T.step k (by omega) f j hi
   by_cases hd:f.d=some s
   ·exact .inl ⟨k,f,j,by omega,hi,hd,h⟩
   ·refine up (fun f' j' h'=>by rw[hi]at h'; injection h' with h'; injection h' with h1 h2; subst h1; exact hd) ?_
    rw[h5,Zi,if_neg hd]at h;exact h
theorem Trace.back(T:Trace call fpol base ws it m E Hp){s:Nat}{x:AV}{k:Nat}(hno: ∀k' f j,k<=k'->k'<m->it k'=some (f,j)->f.d≠some s)(hx:(E m).get s=some x): ∀k',k<=k'->k'<=m->(E k').get s=some x:=by
 have go: ∀i k',k<=k'->k'+i=m->(E k').get s=some x:=by
  intro i
  induction i with
  | zero=>intro k' _ h; rw[Nat.add_zero]at h; rw[h]; exact hx
  | succ i ih=>
   intro k' h1 h2;have h3:=ih (k'+1) (by omega) (by omega)
   cases hi:it k' with
   | none=>exact(T.drop k' (by omega) hi).2 s x h3
   | some p=>
    obtain⟨f,j⟩:=p;obtain⟨v,_,h5⟩:=T.step k' (by omega) f j hi
    rw[h5,Zi,if_neg (hno k' f j h1 (by omega) hi)]at h3
    exact h3
 exact fun k' h1 h2=>go (m-k') k' h1 (by omega)
theorem Xu {x y:O}(h:O.same x y=true):x=y/\ ∃n,x= .t n:=by
 cases x<;>cases y<;>simp[O.same]at h;subst h;exact⟨rfl,_,rfl⟩
theorem Qcs (T:Trace call fpol base ws it m E Hp)(St:Stat P n ops it m pf dyn){k:Nat}{f:Op1}{j:Nat}(hk:k<m)(hi:it k=some (f,j)){x:O}(hx:x∈f.i.QY){d:Dyn}(hd:d∈dyn)(hxd:x∈d.QY){v:AV}(hv:x.val (E m)=some v):x.val (E k)=some v:=by
 cases x with
 | k u=>exact hv
 | t s=>
  refine T.back (k:=k) (fun k' f' j' h1 h2 h3=>St.stab k k' f f' j j' s h1 h2 hi h3 ?_ ?_) hv k (Nat.le_refl _) (Nat.le_of_lt hk)
  ·exact List.mem_flatMap.2 ⟨_,hx,by simp[O.Qba]⟩
  ·exact List.mem_flatMap.2 ⟨d,hd,List.mem_flatMap.2 ⟨_,hxd,by simp[O.Qba]⟩⟩
theorem Qnb (T:Trace call fpol base ws it m E Hp)(St:Stat P n ops it m pf dyn)(hf:Je (E m) (Hp 0) (Hp m) dyn=true){k:Nat}{f:Op1}{j:Nat}(hk:k<m)(hi:it k=some (f,j)): ∀x∈f.i.QY,QnC dyn x=true-> ∀v,x.val (E k)=some v->v.pure=true:=by
 intro x hx hp v hv;cases x with
 | k u=>simp only[O.val]at hv; injection hv with hv; subst hv; simpa[QnC]using hp
 | t s=>
  simp only[QnC,List.any_eq_true]at hp;obtain⟨d,hd,hds⟩:=hp;cases d<;>simp at hds;rename_i y;obtain⟨rfl,_⟩:=Xu hds;have:=List.all_eq_true.1 hf _ hd;simp only[Dyn.ok]at this;split at this
  ·rename_i u hu;have h1:=Qcs T St hk hi hx hd (by simp[Dyn.QY]) hu
   rw[hv]at h1; injection h1 with h1; subst h1;exact this
  ·cases this
theorem Qhb (T:Trace call fpol base ws it m E Hp)(St:Stat P n ops it m pf dyn)(hf:Je (E m) (Hp 0) (Hp m) dyn=true)(hpu:JM call fpol)(hpf: ∀g,pf g=true->(fpol g=some .snap\/ ∃b,fpol g=some (.pur b))){k:Nat}{f:Op1}{j:Nat}(hk:k<m)(hi:it k=some (f,j))(ht: ¬Qt pf dyn f.i): ∃t,Hp (k+1)=Hp k++t/\noT t:=by
 obtain⟨v,h1,_⟩:=T.step k hk f j hi;have hpv:=Qnb T St hf hk hi;rcases h1 with⟨_,h1⟩ | ⟨_,_,h1⟩
 ·cases hkd:kindOf pf dyn f.i with
  | free=>
   have:evI base ws (E k) (Hp k) f.i=some (v,Hp (k+1)):=by
    cases hfi:f.i<;>rw[hfi]at h1 hkd<;>first | exact h1 | (simp only[kindOf]at hkd; split at hkd<;>cases hkd)
   exact⟨[],by rw[(QhT hkd this).1,List.append_nil],Yc⟩
  | read x=>
   have:evI base ws (E k) (Hp k) f.i=some (v,Hp (k+1)):=by
    cases hfi:f.i<;>rw[hfi]at h1 hkd<;>first | exact h1 | (simp only[kindOf]at hkd; split at hkd<;>cases hkd)
   exact⟨[],by rw[(Qhx hkd this).1,List.append_nil],Yc⟩
  | birth=>
   cases hfi:f.i<;>rw[hfi]at h1 hkd hpv<;>simp only[kindOf]at hkd
   case box sz y=>
    simp only[XE,evI]at h1;split at h1
    ·split at h1
     ·simp at h1; exact⟨_,h1.2.symm,Qgu _ _ _⟩
     ·cases h1
    ·cases h1
   case own0 sz=>simp[XE,evI]at h1; exact⟨_,h1.2.symm,Qgu _ _ _⟩
   case bsl sz q zero ps=>
    split at hkd
    ·rename_i hall;simp only[XE,evI]at h1;split at h1
     ·rename_i els h2 hb1;obtain⟨h3,_⟩:=QfF (fun p hp' v hv=>hpv p.2 (List.mem_map.2 ⟨p,hp',rfl⟩) (List.all_eq_true.1 hall p hp') v hv) hb1
      simp at h1;exact⟨_,by rw[←h1.2,h3],Qgu _ _ _⟩
     ·cases h1
    ·cases hkd
   all_goals first | (cases hkd; done) | (split at hkd<;>cases hkd)
  | call=>
   cases hfi:f.i<;>rw[hfi]at h1 hkd<;>simp only[kindOf]at hkd
   case call g args=>
    split at hkd
    ·rename_i hp;simp only[XE]at h1;split at h1
     ·exact hpu _ _ _ _ _ _ (hpf g hp) h1
     ·cases h1
    ·cases hkd
   case callv pu g args=>
    split at hkd
    ·rename_i hp;simp only[XE]at h1;split at h1
     ·rw[if_pos hp]at h1;split at h1
      ·rename_i hg; exact hpu _ _ _ _ _ _ (.inl hg) h1
      ·rename_i b hg; exact hpu _ _ _ _ _ _ (.inr ⟨b,hg⟩) h1
      ·cases h1
     ·cases h1
    ·cases hkd
   all_goals first | (cases hkd; done) | (split at hkd<;>cases hkd)
  | touch x=>exact absurd (by unfold Qt; rw[hkd]; trivial) ht
  | ecall=>exact absurd (by unfold Qt; rw[hkd]; trivial) ht
 ·exact⟨[],by rw[h1,List.append_nil],Yc⟩
theorem Qax (T:Trace call fpol base ws it m E Hp)(St:Stat P n ops it m pf dyn)(hf:Je (E m) (Hp 0) (Hp m) dyn=true)(hpu:JM call fpol)(hpf: ∀g,pf g=true->(fpol g=some .snap\/ ∃b,fpol g=some (.pur b))){k:Nat}: ∀k',k<=k'->k'<=m->
    (∀i f j,k<=i->i<k'->it i=some (f,j)-> ¬Qt pf dyn f.i)-> ∃t,Hp k'=Hp k++t/\noT t
 | 0,h1,_,_=>⟨[],by rw[Nat.le_zero.1 h1,List.append_nil],Yc⟩
 | k'+1,h1,h2,hno=>by
  rcases Nat.lt_or_ge k (k'+1)with h3 | h3
  ·obtain⟨t,ht,hnt⟩:=Qax T St hf hpu hpf k' (by omega) (by omega) fun i f j a b=>hno i f j a (by omega)
   cases hi:it k' with
   | none=>exact⟨t,by rw[(T.drop k' (by omega) hi).1,ht],hnt⟩
   | some p=>
    obtain⟨f,j⟩:=p;obtain⟨t2,ht2,hnt2⟩:=Qhb T St hf hpu hpf (by omega) hi (hno k' f j (by omega) (by omega) hi)
    exact⟨t++t2,by rw[ht2,ht,List.append_assoc],Qpy hnt hnt2⟩
  ·have:k=k'+1:=Nat.le_antisymm h1 h3;exact⟨[],by rw[this,List.append_nil],Yc⟩
end
end Go.Avm
namespace Go.Avm
open Go.RowKit
theorem QbG {β0 β1 β2:Beta}{h0 h1 h2:H}(F:Fresh β0 h0 β1 h1)(hb: ∀b,b<h0.length-> ∀v,β2 b v=β1 b v)(hh: ∀b,b<h0.length->h2[b]? =h1[b]?):Fresh β0 h0 β2 h2:=
 ⟨fun b hl hn v=>by rw[hb b hl]; exact F.fresh b hl hn v,fun b v hl hc=>F.ver b v hl (by unfold cur at hc ⊢; rwa[←hh b hl]),fun b v hl hv hn=>by rw[hb b hl]; exact F.freshv b v hl hv hn,fun b hl hn=>(hh b hl).trans (F.keep b hl hn)⟩
theorem Qko {w0 w:World}{wr:Nat}{β:Beta}{h:H}(S:Sim w0 wr β h w)(t:H):Ext0 wr β h w β (h++t) w:=
 ⟨rfl,rfl,rfl,Nat.le_refl _,by simp,Beta.Le.refl _,fun c _ hl=>⟨rfl,fun h2=>hl ((Qsu S t c).1 h2)⟩,fun _ _ _ _ h=>⟨_,_,h,rfl⟩⟩
def Dn (listed:Array Bool)(j:Nat):Prop:=listed.getD j false=true
theorem Qzp {listed:Array Bool}{j i:Nat}(hj:j<listed.size):Dn (listed.setIfInBounds j true) i↔Dn listed i\/i=j:=by
 unfold Dn;by_cases h:j=i
 ·subst h; simp[hj]
 ·rw[getD_set_ne false h];constructor
  ·exact fun h1=>.inl h1
  ·rintro(h1 | h1)
   ·exact h1
   ·exact absurd h1.symm h
section
variable (P : Program) (n : Nat) (ops : Array Oper) (it : Nat -> Option (Op1 × Nat)) (m : Nat) (pf : FuncId -> Bool) (dyn : List Dyn) (E : Nat -> Env) (Hp : Nat -> H) (w0 wst : World) (wr : Nat) (β0 : Beta) (a0 : Act)
structure Inv (listed:Array Bool) (a:Act) (w:World) (c:Nat) (β:Beta):Prop where
 cm:c<=m
 c1: ∀k f j,k<c->it k=some (f,j)->Qt pf dyn f.i->Dn listed j
 c2:c=m\/(c<m/\ ∃f j,it c=some (f,j)/\Qt pf dyn f.i/\ ¬Dn listed j)
 closed: ∀j o,Dn listed j->ops[j]? =some o-> ∀e∈o.after,Region.binds .any e=true->Dn listed e.on
 size:listed.size=ops.size
 sim:Sim w0 wr β (Hp c) w
 ext:Ext wr β0 (Hp 0) wst β (Hp c) w
 unborn: ∀k f j,k<m->it k=some (f,j)-> ¬Dn listed j-> ∀b,(Hp k).length<=b->b<(Hp (k+1)).length-> ∀v,β b v=none
 pend: ∀k f j,k<c->it k=some (f,j)-> ¬Dn listed j-> ∀b,(Hp k).length<=b->b<(Hp (k+1)).length->(Hp c)[b]? =(Hp (k+1))[b]?
 slots1: ∀k f j,k<m->it k=some (f,j)->Dn listed j-> ∀d x,f.d=some d->(E (k+1)).get d=some x-> ∃u,a.tmps[d]? =some u/\Rel (view wr β (Hp c) w) β x u
 slots0: ∀d x,(E 0).get d=some x->(∀k f j,k<m->it k=some (f,j)->Dn listed j->f.d≠some d)-> ∃u,a.tmps[d]? =some u/\Rel (view wr β (Hp c) w) β x u
 defers:a.defers=a0.defers
 tsize:a.tmps.size=a0.tmps.size
end
section
variable {P : Program} {n : Nat} {ops : Array Oper} {it : Nat -> Option (Op1 × Nat)} {m : Nat} {pf : FuncId -> Bool} {dyn : List Dyn} {E : Nat -> Env} {Hp : Nat -> H} {w0 wst : World} {wr : Nat} {β0 : Beta} {a0 : Act}
 {call:Xt} {fpol:FuncId->Option Pol} {base ws:Nat} {Q:Exit->Act->World->Prop}
theorem QnF {listed:Array Bool}{a:Act}{w w':World}{c c' k j:Nat}{β β':Beta}{f:Op1}{v':Value}(St:Stat P n ops it m pf dyn)(hn:n<=a0.tmps.size)(I:Inv ops it m pf dyn E Hp w0 wst wr β0 a0 listed a w c β)(hk:k<m)(hi:it k=some (f,j)){o:Oper}(ho:ops[j]? =some o)
    (hop:QhH P n ops o f=true) (hready: ∀e∈o.after,Region.binds .any e=true->Dn listed e.on)
    (cm:c'<=m) (c1: ∀k1 f1 j1,k1<c'->it k1=some (f1,j1)->Qt pf dyn f1.i->Dn listed j1\/j1=j) (c2:c'=m\/(c'<m/\ ∃f1 j1,it c'=some (f1,j1)/\Qt pf dyn f1.i/\ ¬Dn listed j1/\j1≠j))
    (sim:Sim w0 wr β' (Hp c') w') (e0:Ext0 wr β (Hp c) w β' (Hp c') w') (ext:Ext wr β0 (Hp 0) wst β' (Hp c') w')
    (unborn: ∀k1 f1 j1,k1<m->k1≠k->it k1=some (f1,j1)-> ¬Dn listed j1-> ∀b,(Hp k1).length<=b->b<(Hp (k1+1)).length-> ∀v,β' b v=none)
    (pend: ∀k1 f1 j1,k1<c'->k1≠k->it k1=some (f1,j1)-> ¬Dn listed j1-> ∀b,(Hp k1).length<=b->b<(Hp (k1+1)).length->(Hp c')[b]? =(Hp (k1+1))[b]?)
    (rel: ∀d x,f.d=some d->(E (k+1)).get d=some x->Rel (view wr β' (Hp c') w') β' x v'):
    Inv ops it m pf dyn E Hp w0 wst wr β0 a0 (listed.setIfInBounds j true) (a.put o.dst v') w' c' β':=by
 have hjl:j<listed.size:=by rw[I.size]; exact(Array.getElem?_eq_some_iff.1 ho).1
 have dn: ∀i,Dn (listed.setIfInBounds j true) i↔Dn listed i\/i=j:=fun i=>Qzp hjl
 unfold QhH at hop;obtain⟨hop,_⟩:=QK hop;obtain⟨hop,_⟩:=QK hop;obtain⟨hd,hin⟩:=QK hop;have hd:o.dst=f.d:=by simpa using hd
 have ne_of: ∀{k1 f1 j1},it k1=some (f1,j1)-> ¬Dn (listed.setIfInBounds j true) j1->k1≠k/\ ¬Dn listed j1:=fun{k1 f1 j1} h1 h2=>by
  rw[dn]at h2;refine⟨?_,fun h=>h2 (.inl h)⟩
  rintro rfl
  rw[hi]at h1;injection h1 with h1; injection h1 with h1 h3;exact h2 (.inr h3.symm)
 have put_ne: ∀{d:Nat} {u:Value},f.d≠some d->a.tmps[d]? =some u->(a.put o.dst v').tmps[d]? =some u:=fun{d u} h1 h2=>by
  rw[hd];cases hfd:f.d with
  | none=>exact h2
  | some q=>
   have:q≠d:=fun e=>h1 (by rw[hfd,e])
   simp[Act.put,Array.getElem?_setIfInBounds_ne this,h2]
 refine⟨cm,fun k1 f1 j1 h1 h2 h3=>(dn j1).2 (c1 k1 f1 j1 h1 h2 h3),?_,?_,by simp[I.size],sim,ext,fun k1 f1 j1 h1 h2 h3=>?_,fun k1 f1 j1 h1 h2 h3=>?_,?_,?_,by rw[put_defers]; exact I.defers,by rw[Qbu]; exact I.tsize⟩
 ·rcases c2 with h1 | ⟨h0,f1,j1,h1,h2,h3,h4⟩
  ·exact .inl h1
  ·exact .inr ⟨h0,f1,j1,h1,h2,fun h=>by rcases(dn j1).1 h with h | h; exact h3 h; exact h4 h⟩
 ·intro i o' h1 h2 e he hb;rw[dn];rcases(dn i).1 h1 with h1 | rfl
  ·exact .inl (I.closed i o' h1 h2 e he hb)
  ·rw[ho]at h2; injection h2 with h2; subst h2;exact .inl (hready e he hb)
 ·obtain⟨h4,h5⟩:=ne_of h2 h3;exact unborn k1 f1 j1 h1 h4 h2 h5
 ·obtain⟨h4,h5⟩:=ne_of h2 h3;exact pend k1 f1 j1 h1 h4 h2 h5
 ·intro k1 f1 j1 h1 h2 h3 d x h4 h5;by_cases hkk:k1=k
  ·subst hkk;rw[hi]at h2;injection h2 with h2; injection h2 with h2 _;subst h2;refine⟨v',?_,rel d x h4 h5⟩
   have hdn:d<a.tmps.size:=by rw[h4]at hin; simp[QpI]at hin; rw[I.tsize]; omega
   rw[hd,h4];simp[Act.put,hdn]
  ·have h6:Dn listed j1:=by
     rcases(dn j1).1 h3 with h6 | h6
     ·exact h6
     ·subst h6; exact absurd (St.inj k1 k f1 f j1 h1 hk h2 hi) hkk
   obtain⟨u,h7,h8⟩:=I.slots1 k1 f1 j1 h1 h2 h6 d x h4 h5;refine⟨u,put_ne (fun h9=>?_) h7,h8.to e0.view e0.beta⟩
   rcases Nat.lt_or_ge k1 k with h10 | h10
   ·exact St.dst k1 k f1 f j1 j d h10 hk h2 hi h4 h9
   ·exact St.dst k k1 f f1 j j1 d (by omega) h1 hi h2 h9 h4
 ·intro d x h1 h2;obtain⟨u,h7,h8⟩:=I.slots0 d x h1 fun k1 f1 j1 h3 h4 h5=>h2 k1 f1 j1 h3 h4 ((dn j1).2 (.inl h5))
  exact⟨u,put_ne (h2 k f j hk hi ((dn j).2 (.inr rfl))) h7,h8.to e0.view e0.beta⟩
theorem QdC (T:Trace call fpol base ws it m E Hp)(hc:Xj call)(hb:base<=(Hp 0).length){k k' b:Nat}(hk:k<m)(hk':k'<m)(h1:(Hp k).length<=b)(h2:b<(Hp (k+1)).length)(h3:(Hp k').length<=b)(h4:b<(Hp (k'+1)).length):k=k':=by
 rcases Nat.lt_trichotomy k k' with h | h | h
 ·have:=T.mono hc hb (k:=k+1) (k':=k') h (by omega); omega
 ·exact h
 ·have:=T.mono hc hb (k:=k'+1) (k':=k) h (by omega); omega
theorem Qrq (T:Trace call fpol base ws it m E Hp)(hc:Xj call)(hb:base<=(Hp 0).length){k b:Nat}: ∀c,k<=c->c<=m->(Hp k).length<=b->b<(Hp c).length-> ∃i f j,k<=i/\i<c/\it i=some (f,j)/\(Hp i).length<=b/\b<(Hp (i+1)).length
 | 0,h1,_,h3,h4=>by rw[Nat.le_zero.1 h1]at h3; omega
 | c+1,h1,h2,h3,h4=>by
  rcases Nat.lt_or_ge b (Hp c).length with h5 | h5
  ·have hkc:k<=c:=by
     rcases Nat.lt_or_ge k (c+1)with h | h
     ·omega
     ·have:k=c+1:=by omega
      subst this; omega
   obtain⟨i,f,j,a1,a2,a3⟩:=Qrq T hc hb c hkc (by omega) h3 h5
   exact⟨i,f,j,a1,by omega,a3⟩
  ·cases hi:it c with
   | none=>rw[(T.drop c (by omega) hi).1]at h4; omega
   | some p=>
    have hkc:k<=c:=by
     rcases Nat.lt_or_ge k (c+1)with h | h
     ·omega
     ·have:k=c+1:=by omega
      subst this; omega
    exact⟨c,p.1,p.2,hkc,by omega,hi,h5,h4⟩
theorem QhI (S:Nat->Prop)(c:Nat)(hcm:c<=m): ∃c',c<=c'/\c'<=m/\(∀k f j,c<=k->k<c'->it k=some (f,j)->Qt pf dyn f.i->S j)/\(c'=m\/(c'<m/\ ∃f j,it c'=some (f,j)/\Qt pf dyn f.i/\ ¬S j)):=by
 have go: ∀i c,c+i=m-> ∃c',c<=c'/\c'<=m/\(∀k f j,c<=k->k<c'->it k=some (f,j)->Qt pf dyn f.i->S j)/\(c'=m\/(c'<m/\ ∃f j,it c'=some (f,j)/\Qt pf dyn f.i/\ ¬S j)):=by
  intro i
  induction i with
  | zero=>intro c h; exact⟨c,Nat.le_refl _,by omega,fun k f j h1 h2=>by omega,.inl (by omega)⟩
  | succ i ih=>
   intro c h;by_cases hx: ∃f j,it c=some (f,j)/\Qt pf dyn f.i/\ ¬S j
   ·exact⟨c,Nat.le_refl _,by omega,fun k f j h1 h2=>by omega,.inr ⟨by omega,hx⟩⟩
   ·obtain⟨c',h1,h2,h3,h4⟩:=ih (c+1) (by omega)
    refine⟨c',by omega,h2,fun k f j h5 h6 h7 h8=>?_,h4⟩
    rcases Nat.lt_or_ge c k with h9 | h9
    ·exact h3 k f j h9 h6 h7 h8
    ·have:k=c:=by omega
     subst this;exact Classical.byContradiction fun h10=>hx ⟨f,j,h7,h8,h10⟩
 exact go (m-c) c (by omega)
end
end Go.Avm
