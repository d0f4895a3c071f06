/- '&&' and '||' laid flat: what is reckoned with says the same as the operations one behind the other. -/
import Derived.Test.YtflbneepngjglaaGreatDoorO13
set_option linter.all false
namespace Go.Avm
open Go.RowKit
section
variable {P : Program} {w0 : World} {wr base ws : Nat} {β : Beta} {h h' : H} {w : World} {e : Env} {a : Act} {u : AV} {o : Oper}
theorem QcY {xs:List Operand}{y:O}(h:XJ xs [y]=true): ∃x,xs=[x]/\Qn x y=true:=by
 cases xs with
 | nil=>simp[XJ]at h
 | cons x r=>
  simp[XJ]at h;cases r with
  | nil=>exact⟨x,rfl,h.1⟩
  | cons _ _=>simp[XJ]at h
theorem YR {xs:List Operand}{y z:O}(h:XJ xs [y,z]=true): ∃x q,xs=[x,q]/\Qn x y=true/\Qn q z=true:=by
 cases xs with
 | nil=>simp[XJ]at h
 | cons x r=>
  rw[XJ]at h;obtain⟨h1,h2⟩:=QK h;obtain⟨q,rfl,h3⟩:=QcY h2;exact⟨x,q,rfl,h1,h3⟩
theorem QsU {i:I}(hop:Zg P o.op o.type i=true)(hE:Qo (view wr β h w) β e a.tmps)(S:Sim w0 wr β h w)(hws:wr<=ws)(hwb:wr<=base)(hbh:base<=h.length)
    (hev:evI base ws e h i=some (u,h')):Xo P w0 wr β h w (execOp a.eval o) u h':=by
 have hwr:wr<=h.length:=Nat.le_trans hwb hbh;cases i with
 | mv y=>
  simp only[Zg]at hop;split at hop
  ·rename_i x ho; exact Qyf (.inl ho) hop hE S hev
  ·rename_i x ho; exact Qyf (.inr ho) hop hE S hev
  ·cases hop
 | own0 sz=>
  simp only[Zg]at hop;split at hop
  ·rename_i v ho; exact QqM (.inl ho) hop S hev
  ·rename_i v ho; exact QqM (.inr ho) hop S hev
  ·cases hop
 | pick c x y=>
  simp only[Zg]at hop;split at hop
  ·rename_i ho;obtain⟨h1,h3⟩:=QK hop;obtain⟨h1,h2⟩:=QK h1;exact Qxc ho h1 h2 h3 hE S hev
  ·cases hop
 | box sz y=>
  simp only[Zg]at hop;split at hop
  ·rename_i t x ho; exact QuQ (.inl ⟨_,_,ho,hop⟩) hE S hwr hev
  ·rename_i t ho;split at hop
   ·exact QuQ (.inr ⟨_,_,ho,rfl,hop⟩) hE S hwr hev
   ·cases hop
  ·cases hop
 | build zero ps=>
  simp only[Zg]at hop;split at hop
  ·rename_i ho;obtain⟨h1,h3⟩:=QK hop;obtain⟨h1,h2⟩:=QK h1;exact QuP ho h1 h2 h3 hE S hev
  ·cases hop
 | bsl sz n zero ps=>
  simp only[Zg]at hop;split at hop
  ·rename_i ho;split at hop
   ·rename_i el hel;simp only[Bool.and_eq_true,decide_eq_true_eq,beq_iff_eq]at hop;obtain⟨⟨⟨⟨⟨⟨⟨hn,h1⟩,h2⟩,h3⟩,h4⟩,h5⟩,h6⟩,h7⟩:=hop;subst hn;exact QyP ho (XH hel) h1 h2 h3 h4 h5 h6 h7 hE S hwb hwr hev
   ·cases hop
  ·cases hop
 | ld sz ag y=>
  simp only[Zg]at hop;split at hop
  ·rename_i ho;obtain⟨h1,h3⟩:=QK hop;obtain⟨h1,h2⟩:=QK h1;exact QBE ho h1 h2 h3 hE S hev
  ·cases hop
 | st sz y v=>
  simp only[Zg]at hop;split at hop
  ·rename_i ho;obtain⟨h1,h3⟩:=QK hop;obtain⟨h1,h2⟩:=QK h1;exact QBD ho h1 h2 h3 hE S hws hwb hev
  ·cases hop
 | nilc y=>
  simp only[Zg]at hop;split at hop
  ·rename_i ho; exact Qxd ho hop hE S hev
  ·cases hop
 | bin bop x y=>
  simp only[Zg]at hop;split at hop
  ·rename_i ho;obtain⟨h1,h3⟩:=QK hop;obtain⟨h1,h2⟩:=QK h1;have h1:=of_decide_eq_true h1;subst h1;exact QyQ ho h2 h3 hE S hev
  ·cases hop
 | eqk k neg x y=>
  simp only[Zg]at hop;split at hop
  ·rename_i ho;obtain⟨h1,h5⟩:=QK hop;obtain⟨h1,h4⟩:=QK h1;obtain⟨h1,h3⟩:=QK h1;obtain⟨h1,h2⟩:=QK h1;refine QyO ho (of_decide_eq_true h1) h2 (fun hk=>?_) h3 h4 hE S hev
   subst hk;simp only at h5;split at h5
   ·exact .inl ⟨_,rfl⟩
   ·split at h5
    ·exact .inr ⟨_,rfl⟩
    ·cases h5
  ·cases hop
 | un uop x=>
  simp only[Zg]at hop;split at hop
  ·rename_i ho;obtain⟨h1,h2⟩:=QK hop;have h1:=of_decide_eq_true h1;subst h1;exact QBC ho h2 hE S hev
  ·cases hop
 | conv c x=>
  simp only[Zg]at hop;split at hop
  ·rename_i ho;obtain⟨h1,h2⟩:=QK hop;exact Qxj ho h1 h2 hE S hwr hev
  ·cases hop
 | mkfn f k cap=>
  simp only[Zg]at hop;split at hop
  ·rename_i ho;split at hop
   ·obtain⟨h1,h3⟩:=QK hop;obtain⟨h1,h2⟩:=QK h1;simp at h1 h2;subst h1;exact Qxe ho h2 h3 hE S hev
   ·cases hop
  ·cases hop
 | mks sz lim zero l c=>
  simp only[Zg]at hop;split at hop
  ·rename_i ho;split at hop
   ·rename_i el hel;simp only[Bool.and_eq_true,decide_eq_true_eq,beq_iff_eq]at hop;obtain⟨⟨⟨⟨⟨⟨⟨h1,h2⟩,h3⟩,h4⟩,h5⟩,h6⟩,h7⟩,h8⟩:=hop;exact QyK ho (XH hel) h1 h2 h3 h4 h5 h6 h7 h8 hE S hwr hev
   ·cases hop
  ·cases hop
 | slc k x lo hi mx=>
  simp only[Zg]at hop;split at hop
  ·rename_i ho;obtain⟨h1,h5⟩:=QK hop;obtain⟨h1,h4⟩:=QK h1;obtain⟨h1,h3⟩:=QK h1;obtain⟨h1,h2⟩:=QK h1;refine QyH ho h1 h2 h3 h4 ?_ hE S hev
   cases k with
   | str=>exact YL h5
   | sl sz=>
    simp only at h5;split at h5
    ·rename_i el hel; exact⟨el,XH hel,h5⟩
    ·cases h5
  ·cases hop
 | fadr off x=>
  simp only[Zg]at hop;split at hop
  ·rename_i ho;obtain⟨h1,h2⟩:=QK hop;split at h2
   ·rename_i fs hs;split at h2
    ·rename_i z hz;obtain⟨h3,h4⟩:=QK h2;split at h4
     ·rename_i i hi;simp at h3 h4;exact Qxi ho h1 hs hz h3 hi h4 hE S hev
     ·cases h4
    ·cases h2
   ·cases h2
  ·cases hop
 | fld off sz ag x=>
  simp only[Zg]at hop;split at hop
  ·rename_i ho;obtain⟨h1,h3⟩:=QK hop;obtain⟨h1,h2⟩:=QK h1;unfold QgH at h2;split at h2
   ·rename_i fs hs;split at h2
    ·rename_i z hz;obtain⟨h4,h5⟩:=QK h2;simp at h4;simp only[fieldType,hs,hz]at h3;exact QyN ho h1 hs hz h4 rfl h5 h3 hE S hev
    ·cases h2
   ·cases h2
  ·cases hop
 | idxa sz x j=>
  simp only[Zg]at hop;split at hop
  ·rename_i ho;obtain⟨h1,h3⟩:=QK hop;obtain⟨h1,h2⟩:=QK h1;split at h3
   ·rename_i el hel;exact Qxh ho h1 h2 (XH hel) (QK h3).1 hE S hev
   ·cases h3
  ·cases hop
 | idxp n sz x j=>
  simp only[Zg]at hop;split at hop
  ·rename_i ho;obtain⟨h1,h3⟩:=QK hop;obtain⟨h1,h2⟩:=QK h1;split at h3
   ·rename_i m el hel;obtain⟨h3,_⟩:=QK h3;obtain⟨h3,h4⟩:=QK h3;obtain rfl:n=m:=by simpa using h3
    exact Qxg ho h1 h2 (Qgk hel) h4 hE S hev
   ·cases h3
  ·cases hop
 | idxv n sz ag x j=>
  simp only[Zg]at hop;split at hop
  ·rename_i ho;obtain⟨h1,h3⟩:=QK hop;obtain⟨h1,h2⟩:=QK h1;split at h3
   ·rename_i m el hel;obtain⟨h3,h5⟩:=QK h3;obtain⟨h3,h4⟩:=QK h3;obtain rfl:n=m:=by simpa using h3
    exact Qxf ho h1 h2 (Qgk hel) h4 h5 hE S hev
   ·cases h3
  ·cases hop
 | idx x j=>
  simp only[Zg]at hop;split at hop
  ·rename_i ho;obtain⟨h1,h3⟩:=QK hop;obtain⟨h1,h2⟩:=QK h1;exact QyM ho h1 h2 (YL h3) hE S hev
  ·cases hop
 | tupx x i=>
  simp only[Zg]at hop;split at hop
  ·rename_i ho;obtain⟨h1,h2⟩:=QK hop;simp at h2; subst h2;exact Qxa ho h1 hE S hev
  ·cases hop
 | rng x=>
  simp only[Zg]at hop;split at hop
  ·rename_i ho;obtain⟨h1,h2⟩:=QK hop;exact QyI ho h1 (YL h2) hE S hev
  ·cases hop
 | nxt x=>
  simp only[Zg]at hop;split at hop
  ·rename_i y s ho;obtain⟨h1,h2⟩:=QK hop;have h2:s=true:=h2;subst h2;exact QyJ ho h1 hE S hwb hev
  ·cases hop
 | len s x=>
  simp only[Zg]at hop;split at hop
  ·rename_i c ho;split at hop
   ·rename_i hc;obtain⟨h1,h2⟩:=QK hop;obtain⟨y,h3,h4⟩:=QcY h1;split at h2
    ·rename_i t r ht;refine QyL ho hc h3 ⟨r,ht⟩ h4 ?_ hE S hev
     cases s
     ·simp at h2 ⊢;obtain⟨el,hel⟩:=Option.isSome_iff_exists.1 h2;exact⟨el,XH hel⟩
     ·simp at h2 ⊢;exact YL h2
    ·cases h2
   ·cases hop
  ·cases hop
 | app s sz lim x y=>
  simp only[Zg]at hop;split at hop
  ·rename_i c ho;split at hop
   ·rename_i hc;obtain⟨h1,h2⟩:=QK hop;obtain⟨p,q,h3,h4,h5⟩:=YR h1;split at h2
    ·rename_i t u' ht;split at h2
     ·rename_i el hel;obtain⟨h2,h10⟩:=QK h2;obtain⟨h2,h9⟩:=QK h2;obtain⟨h2,h8⟩:=QK h2;obtain⟨h2,h7⟩:=QK h2;obtain⟨h2,h6⟩:=QK h2;obtain⟨i,hi,hsz⟩:=WS h2;rw[hi]at h7 h10;simp only at h7 h10;unfold Wj at h8;rw[hi]at h8;simp at h8;split at h10
      ·rename_i z hz;have h0:0<sz:=by simpa using h6
       split at h9
       ·rename_i hu;obtain⟨hs,hs1⟩:=QK h9;exact QuR ho hc h3 ht ⟨XH hel,.inl hu,hi,hsz,hz,h0,h8.1,h8.2⟩ (by simpa using h10) (fun _=>by simpa using hs1) h4 h5 hE S hws hwb hbh hev
       ·rename_i d hu;exact QuR ho hc h3 ht ⟨XH hel,.inr ⟨d,hu⟩,hi,hsz,hz,h0,h8.1,h8.2⟩ (by simpa using h10) (fun h=>by rw[h]at h9; cases h9) h4 h5 hE S hws hwb hbh hev
       ·cases h9
      ·cases h10
     ·cases h2
    ·cases h2
   ·cases hop
  ·cases hop
 | mnx mx x y=>
  simp only[Zg]at hop;split at hop
  ·rename_i c ho;split at hop
   ·rename_i hc;obtain⟨h1,h2⟩:=QK hop;have h1:mx=true:=h1;subst h1;obtain⟨p,q,h3,h4,h5⟩:=YR h2;exact QuO (mx:=true) ho (by simpa using hc) h3 h4 h5 hE S hev
   ·rename_i hc;obtain⟨h1,h2⟩:=QK hop;simp at h1;subst h1;obtain⟨p,q,h3,h4,h5⟩:=YR h2;exact QuO (mx:=false) ho (by simpa using hc) h3 h4 h5 hE S hev
   ·cases hop
  ·cases hop
 | boxt T t8 sz off y=>
  simp only[Zg]at hop;split at hop
  ·rename_i t x ho;obtain⟨h1,h2⟩:=QK hop;obtain rfl:t=T:=by simpa using h1
   exact QqN (.inl ⟨_,ho,h2⟩) hE S hwr hev
  ·rename_i t ho;obtain⟨h1,h2⟩:=QK hop;obtain rfl:t=T:=by simpa using h1
   split at h2
   ·exact QqN (.inr ⟨_,ho,rfl,h2⟩) hE S hwr hev
   ·cases h2
  ·cases hop
 | uns ok x=>
  simp only[Zg]at hop;split at hop
  ·rename_i ho;obtain⟨h1,h2⟩:=QK hop;exact QyG ho h1 h2 hE S hev
  ·cases hop
 | sdat x=>
  simp only[Zg]at hop;split at hop
  ·rename_i c ho;split at hop
   ·rename_i hc;obtain⟨y,h3,h4⟩:=QcY hop;exact Qxb ho hc h3 h4 hE S hev
   ·cases hop
  ·cases hop
 | ustr T p n=>
  simp only[Zg]at hop;split at hop
  ·rename_i c ho;split at hop
   ·rename_i hc;obtain⟨h1,h2⟩:=QK hop;obtain⟨x,y,h3,h4,h5⟩:=YR h1;split at h2
    ·rename_i t it ht;split at h2
     ·rename_i el hel;obtain⟨h6,h7⟩:=QK h2;obtain rfl:el=T:=by simpa using h6
      exact QwZ ho hc h3 ht hel (by simpa using h7) h4 h5 hE S hws hev
     ·cases h2
    ·cases h2
   ·cases hop
  ·cases hop
 | appb T lim x y=>
  simp only[Zg]at hop;split at hop
  ·rename_i c ho;split at hop
   ·rename_i hc;obtain⟨h1,h2⟩:=QK hop;obtain⟨p,q,h3,h4,h5⟩:=YR h1;split at h2
    ·rename_i t u' ht;split at h2
     ·rename_i el hel;obtain⟨h2,h11⟩:=QK h2;obtain⟨h2,h10⟩:=QK h2;obtain⟨h2,h9⟩:=QK h2;obtain⟨h2,h8⟩:=QK h2;obtain⟨h2,h7⟩:=QK h2;obtain rfl:el=T:=by simpa using h2
      obtain⟨i,hi,hsz⟩:=WS h7;rw[hi]at h10;simp only at h10;unfold Wj at h8;rw[hi]at h8;simp at h8;split at h10
      ·rename_i z hz;refine Qxk ho hc h3 ht (i:=i) (z:=z) ⟨XH hel,?_,hi,hsz,hz,by omega,h8.1,h8.2⟩ (by simpa using h10) h4 h5 hE S hws hev
       split at h9
       ·rename_i hu; exact .inl hu
       ·rename_i d hu; exact .inr ⟨d,hu⟩
       ·cases h9
      ·cases h10
     ·cases h2
    ·cases h2
   ·cases hop
  ·cases hop
 | call f args=>simp[evI]at hev
 | callv pu f args=>simp[evI]at hev
end
end Go.Avm
namespace Go.Avm
inductive Fl where
 | op (o:Op1)
 | drop (l:List Nat)
mutual
def S1.flat(g:Option (Nat×Bool)):S1->List Fl
 | .op d i=>[.op ⟨d,g,i⟩]
 | .sc s want body d r o=>Xh (some (s,want)) body++ [.op ⟨some d,g,.pick (.t s) (if want then r else o) (if want then o else r)⟩,.drop ((XZ body).filter (· != d))]
def Xh (g:Option (Nat×Bool)):List S1->List Fl
 | []=>[]
 | x::l=>x.flat g++Xh g l
end
def O.slot:O->Option Nat
 | .t n=>some n
 | .k _=>none
mutual
def S1.ok(inner:Bool)(seen:List Nat):S1->Bool
 | .op _ _=>true
 | .sc s _ body d _ o=>(!inner||seen.contains s)&& !(XZ body).contains s&& !(d == s)&&(match o.slot with | some n=>!(XZ body).contains n | none=>true)&&(XZ body).all (fun n=>!seen.contains n)&&okL true [] body
def okL (inner:Bool)(seen:List Nat):List S1->Bool
 | []=>true
 | .op d i::l=>okL inner (d.toList++seen) l
 | .sc s w body d r o::l=>(S1.sc s w body d r o).ok inner seen&&okL inner (d::seen) l
end
section
variable (call : Xt) (fpol : FuncId -> Option Pol) (base ws : Nat)
def Xv :List Fl->Env->H->Option (Env×H)
 | [],e,h=>some (e,h)
 | .drop l::r,e,h=>Xv r (e.drop l) h
 | .op o::r,e,h=>match o.g with
  | none=>(match XE call fpol base ws e h o.i with
   | some (v,h')=>Xv r (Jc e o.d v) h'
   | none=>none)
  | some (g,want)=>match e.get g with
   | some (.bool b)=>if b=want then(match XE call fpol base ws e h o.i with
       | some (v,h')=>Xv r (Jc e o.d v) h'
       | none=>none)
    else Xv r (Jc e o.d (.tup [])) h
   | some (.tup [])=>Xv r (Jc e o.d (.tup [])) h
   | _=>none
def EqE (e e':Env):Prop:=∀n,e.get n=e'.get n
end
theorem EqE.refl(e:Env):EqE e e:=fun _=>rfl
theorem EqE.symm{e e':Env}(h:EqE e e'):EqE e' e:=fun n=>(h n).symm
theorem EqE.trans{a b c:Env}(h:EqE a b)(k:EqE b c):EqE a c:=fun n=>(h n).trans (k n)
theorem EqE.val{e e':Env}(h:EqE e e')(x:O):x.val e=x.val e':=by cases x with | t n=>exact h n | k v=>rfl
theorem EqE.Qbd{e e':Env}(h:EqE e e'): ∀l,Qbd e l=Qbd e' l
 | []=>rfl
 | x::l=>by simp only[Avm.Qbd,h.val,h.Qbd l]
theorem EqE.put{e e':Env}(h:EqE e e')(n:Nat)(v:AV):EqE (e.put n v) (e'.put n v):=fun m=>by rw[QaL,QaL,h m]
theorem EqE.Jc{e e':Env}(h:EqE e e')(d:Option Nat)(v:AV):EqE (Avm.Jc e d v) (Avm.Jc e' d v):=by cases d with | none=>exact h | some n=>exact h.put n v
theorem Zu (e:Env)(l:List Nat)(n:Nat):(e.drop l).get n=if l.contains n then none else e.get n:=by
 unfold Env.drop;by_cases hc:l.contains n=true
 ·rw[if_pos hc];cases hx:Env.get (e.filter fun p=>!l.contains p.1) n with
  | none=>rfl
  | some x=>
   obtain⟨y,_,h2⟩:=get_filter e (fun k=>!l.contains k) n x hx
   rw[hc]at h2; cases h2
 ·rw[if_neg hc];exact Yd e (fun k=>!l.contains k) n (by simpa using hc)
theorem EqE.drop{e e':Env}(h:EqE e e')(l:List Nat):EqE (e.drop l) (e'.drop l):=fun m=>by rw[Zu,Zu,h m]
theorem EqE.partsOf{e e':Env}(h:EqE e e'): ∀l,partsOf e l=partsOf e' l
 | []=>rfl
 | (_,_,x)::l=>by simp only[Avm.partsOf,h.val,h.partsOf l]
theorem EqE.QS{e e':Env}(h:EqE e e')(base sz:Nat): ∀l els hh,QS base e sz l els hh=QS base e' sz l els hh
 | [],_,_=>rfl
 | (i,x)::l,els,hh=>by
  simp only[Avm.QS,h.val,h.QS base sz l]
theorem EqE.Jp{e e':Env}(h:EqE e e')(x:Option O):Jp e x=Jp e' x:=by cases x with | none=>rfl | some x=>simp only[Avm.Jp,h.val]
theorem EqE.evI{e e':Env}(h:EqE e e')(base ws:Nat)(hh:H)(i:I):evI base ws e hh i=evI base ws e' hh i:=by
 cases i<;>simp only[Avm.evI,h.val,h.Qbd,h.partsOf,h.QS,h.Jp]
theorem EqE.XE{e e':Env}(h:EqE e e')(call:Xt)(fpol:FuncId->Option Pol)(base ws:Nat)(hh:H)(i:I):XE call fpol base ws e hh i=XE call fpol base ws e' hh i:=by
 cases i<;>simp only[Avm.XE,h.val,h.Qbd,h.evI base ws hh]
section
variable {call : Xt} {fpol : FuncId -> Option Pol} {base ws : Nat}
theorem EqE.Xv: ∀{l:List Fl} {e e' e1:Env} {h h1:H},EqE e e'->Xv call fpol base ws l e h=some (e1,h1)-> ∃e2,Xv call fpol base ws l e' h=some (e2,h1)/\EqE e1 e2
 | [],e,e',e1,h,h1,he,ev=>by
  simp[Avm.Xv]at ev;obtain⟨rfl,rfl⟩:=ev;exact⟨e',rfl,he⟩
 | .drop l::r,e,e',e1,h,h1,he,ev=>by
  unfold Avm.Xv at*;exact EqE.Xv (he.drop l) ev
 | .op o::r,e,e',e1,h,h1,he,ev=>by
  unfold Avm.Xv at*;cases hg:o.g with
  | none=>
   rw[hg]at ev;dsimp only at*;rw[←he.XE];cases hd:Avm.XE call fpol base ws e h o.i with
   | none=>rw[hd]at ev; cases ev
   | some p=>rw[hd]at ev; exact EqE.Xv (he.Jc o.d p.1) ev
  | some gw=>
   obtain⟨g,want⟩:=gw;rw[hg]at ev;dsimp only at*;rw[←he g,←he.XE];split at ev
   ·split at ev
    ·rename_i hb;rw[if_pos hb];cases hd:Avm.XE call fpol base ws e h o.i with
     | none=>rw[hd]at ev; cases ev
     | some p=>rw[hd]at ev; exact EqE.Xv (he.Jc o.d p.1) ev
    ·rename_i hb;rw[if_neg hb];exact EqE.Xv (he.Jc o.d _) ev
   ·exact EqE.Xv (he.Jc o.d _) ev
   ·cases ev
theorem Xi : ∀{l r:List Fl} {e:Env} {h:H},Xv call fpol base ws (l++r) e h=(match Xv call fpol base ws l e h with | some (e',h')=>Xv call fpol base ws r e' h' | none=>none)
 | [],r,e,h=>by simp[Avm.Xv]
 | .drop d::l,r,e,h=>by simp only[List.cons_append,Avm.Xv]; exact Xi
 | .op o::l,r,e,h=>by
  simp only[List.cons_append,Avm.Xv];cases o.g with
  | none=>
   dsimp only;cases XE call fpol base ws e h o.i with
   | none=>rfl
   | some p=>exact Xi
  | some gw=>
   obtain⟨g,want⟩:=gw;dsimp only;split
   ·split
    ·cases XE call fpol base ws e h o.i with
     | none=>rfl
     | some p=>exact Xi
    ·exact Xi
   ·exact Xi
   ·rfl
def Off (g:Nat×Bool)(e:Env):Prop:=e.get g.1=some (.bool (!g.2))\/e.get g.1=some (.tup [])
theorem Zi (e:Env)(d:Option Nat)(v:AV)(n:Nat):(Jc e d v).get n=if d=some n then some v else e.get n:=by
 cases d with
 | none=>simp[Jc]
 | some m=>simp only[Jc,QaL,Option.some.injEq]
theorem QuT {g:Nat×Bool}{o:Op1}{r:List Fl}{e:Env}{h:H}(hg:o.g=some g)(ho:Off g e):Xv call fpol base ws (.op o::r) e h=Xv call fpol base ws r (Jc e o.d (.tup [])) h:=by
 simp only[Avm.Xv,hg];rcases ho with ho | ho
 ·rw[ho]; dsimp only; rw[if_neg (by cases g.2<;>simp)]
 ·rw[ho]
theorem Ya (x:S1)(l:List S1):XZ (x::l)=x.QcH++XZ l:=by rw[XZ]
mutual
theorem QuU (g:Nat×Bool): ∀(x:S1) (seen:List Nat) (e:Env) (h:H),x.ok true seen=true->g.1∉x.QcH->Off g e->(∀n∈seen,e.get n=some (.tup []))->
    ∃e',Xv call fpol base ws (x.flat (some g)) e h=some (e',h)/\Off g e'/\(∀n,n∉x.QcH->e'.get n=e.get n)/\
     (match x with | .op d _=>∀n,d=some n->e'.get n=some (.tup []) | .sc _ _ _ d _ _=>e'.get d=some (.tup []))/\(∀n∈seen,e'.get n=some (.tup []))
 | .op d i,seen,e,h,_,hd,ho,hs=>by
  refine⟨Jc e d (.tup []),by rw[S1.flat,QuT rfl ho]; rfl,?_,fun n hn=>?_,fun n hn=>?_,fun n hn=>?_⟩
  ·have:(Jc e d (.tup [])).get g.1=e.get g.1:=by
     rw[Zi,if_neg];intro e1; rw[e1]at hd; simp[S1.QcH]at hd
   unfold Off; rw[this]; exact ho
  ·rw[Zi,if_neg];intro e1; rw[e1]at hn; simp[S1.QcH]at hn
  ·rw[Zi,if_pos hn]
  ·rw[Zi]; split
   ·rfl
   ·exact hs n hn
 | .sc s want body d r o,seen,e,h,hok,hd,ho,hs=>by
  simp only[S1.ok,Bool.and_eq_true,Bool.not_true,Bool.false_or]at hok;obtain⟨⟨⟨⟨⟨h1,h2⟩,h3⟩,h4⟩,h5⟩,h6⟩:=hok;have hsd:s∉XZ body:=by simpa using h2
  have hso:Off (s,want) e:=.inr (hs s (by simpa using h1))
  simp only[S1.QcH,List.mem_append,not_or]at hd;obtain⟨e1,h7,h8,h9,_⟩:=QqO (s,want) body [] e h h6 hsd hso (fun n hn=>by simp at hn)
  have hog:Off g e1:=by unfold Off; rw[h9 g.1 hd.1]; exact ho
  refine⟨(Jc e1 (some d) (.tup [])).drop ((XZ body).filter (· != d)),?_,?_,fun n hn=>?_,?_,fun n hn=>?_⟩
  ·rw[S1.flat,Xi,h7];dsimp only;rw[QuT rfl hog]; rfl
  ·have:((Jc e1 (some d) (.tup [])).drop ((XZ body).filter (· != d))).get g.1=e1.get g.1:=by
     rw[Zu,if_neg (by simp; intro h; exact absurd h hd.1),Zi,if_neg]
     intro e2; injection e2 with e2; exact hd.2 (by simp[e2])
   unfold Off; rw[this]; exact hog
  ·simp only[S1.QcH,List.mem_append,not_or]at hn;rw[Zu,if_neg (by simp; intro h; exact absurd h hn.1),Zi,if_neg (by intro e2; injection e2 with e2; exact hn.2 (by simp[e2])),h9 n hn.1]
  ·show _=_;rw[Zu,if_neg (by simp),Zi,if_pos rfl]
  ·have hnb:n∉XZ body:=fun hb=>by
     have:=List.all_eq_true.1 h5 n hb;simp[hn]at this
   rw[Zu,if_neg (by simp; intro h; exact absurd h hnb),Zi]
   split
   ·rfl
   ·rw[h9 n hnb]; exact hs n hn
theorem QqO (g:Nat×Bool): ∀(l:List S1) (seen:List Nat) (e:Env) (h:H),okL true seen l=true->g.1∉XZ l->Off g e->(∀n∈seen,e.get n=some (.tup []))->
    ∃e',Xv call fpol base ws (Xh (some g) l) e h=some (e',h)/\Off g e'/\(∀n,n∉XZ l->e'.get n=e.get n)/\True
 | [],seen,e,h,_,_,ho,_=>⟨e,by simp[Xh,Avm.Xv],ho,fun _ _=>rfl,trivial⟩
 | .op d i::l,seen,e,h,hok,hd,ho,hs=>by
  rw[Ya]at hd;simp only[List.mem_append,not_or]at hd;obtain⟨e1,h1,h2,h3,h4,h5⟩:=QuU g (.op d i) seen e h rfl hd.1 ho hs
  obtain⟨e2,h6,h7,h8,_⟩:=QqO g l (d.toList++seen) e1 h (by simpa[okL]using hok) hd.2 h2 (fun n hn=>by
   simp only[List.mem_append]at hn;rcases hn with hn | hn
   ·exact h4 n (by simpa using hn)
   ·exact h5 n hn)
  refine⟨e2,by rw[Xh,Xi,h1]; exact h6,h7,fun n hn=>?_,trivial⟩
  rw[Ya]at hn;simp only[List.mem_append,not_or]at hn;rw[h8 n hn.2,h3 n hn.1]
 | .sc s w body d r o::l,seen,e,h,hok,hd,ho,hs=>by
  rw[Ya]at hd;simp only[List.mem_append,not_or]at hd;rw[okL,Bool.and_eq_true]at hok;obtain⟨e1,h1,h2,h3,h4,h5⟩:=QuU g (.sc s w body d r o) seen e h hok.1 hd.1 ho hs
  obtain⟨e2,h6,h7,h8,_⟩:=QqO g l (d::seen) e1 h hok.2 hd.2 h2 (fun n hn=>by
   simp only[List.mem_cons]at hn;rcases hn with rfl | hn
   ·exact h4
   ·exact h5 n hn)
  refine⟨e2,by rw[Xh,Xi,h1]; exact h6,h7,fun n hn=>?_,trivial⟩
  rw[Ya]at hn;simp only[List.mem_append,not_or]at hn;rw[h8 n hn.2,h3 n hn.1]
end
def On (g:Option (Nat×Bool))(e:Env):Prop:=∀s w,g=some (s,w)->e.get s=some (.bool w)
theorem QuN {g:Option (Nat×Bool)}{o:Op1}{r:List Fl}{e:Env}{h:H}(hg:o.g=g)(ho:On g e):Xv call fpol base ws (.op o::r) e h=(match XE call fpol base ws e h o.i with | some (v,h')=>Xv call fpol base ws r (Jc e o.d v) h' | none=>none):=by
 simp only[Avm.Xv,hg];cases g with
 | none=>rfl
 | some gw=>
  obtain⟨s,w⟩:=gw;dsimp only;rw[ho s w rfl];dsimp only;rw[if_pos rfl]
def Qnm (g:Option (Nat×Bool))(l:List Nat):Prop:=∀s w,g=some (s,w)->s∉l
mutual
theorem QBB (g:Option (Nat×Bool)): ∀(x:S1) (inner:Bool) (seen:List Nat) (e e1:Env) (h h1:H),x.ok inner seen=true->Qnm g x.QcH->On g e->Wf call fpol base ws x e h=some (e1,h1)->
    ∃e2,Xv call fpol base ws (x.flat g) e h=some (e2,h1)/\EqE e1 e2/\ ∀n,n∉x.QcH->e1.get n=e.get n
 | .op d i,inner,seen,e,e1,h,h1,_,hd,ho,ev=>by
  rw[S1.flat,QuN rfl ho];unfold Wf at ev;cases hx:XE call fpol base ws e h i with
  | none=>rw[hx]at ev; simp[WJ]at ev
  | some p=>
   rw[hx]at ev;simp[WJ]at ev;obtain⟨rfl,rfl⟩:=ev;refine⟨Jc e d p.1,by simp[Avm.Xv],EqE.refl _,fun n hn=>?_⟩
   rw[Zi,if_neg];intro e1; rw[e1]at hn; simp[S1.QcH]at hn
 | .sc s want body d r o,inner,seen,e,e1,h,h1,hok,hd,ho,ev=>by
  simp only[S1.ok,Bool.and_eq_true]at hok;obtain⟨⟨⟨⟨⟨_,h2⟩,h3⟩,h4⟩,h5⟩,h6⟩:=hok;have hsd:s∉XZ body:=by simpa using h2
  have hsn:d≠s:=by simpa using h3
  unfold Wf at ev;split at ev
  ·rename_i b hb;have hgb:Qnm g (XZ body):=fun s' w e1=>by have:=hd s' w e1; simp only[S1.QcH,List.mem_append,not_or]at this; exact this.1
   have hfin: ∀(e':Env) (v:AV),(∀n,n∉XZ body->e'.get n=e.get n)->EqE ((e.drop (XZ body)).put d v) ((Jc e' (some d) v).drop ((XZ body).filter (· != d))):=by
    intro e' v he' n;rw[QaL,Zu,Zu,Zi];by_cases hn:d=n
    ·subst hn; simp
    ·rw[if_neg hn];by_cases hm:n∈XZ body
     ·rw[if_pos (by simpa using hm),if_pos (by simp; exact⟨hm,fun e=>hn e.symm⟩)]
     ·rw[if_neg (by simpa using hm),if_neg (by simp; intro h; exact absurd h hm),if_neg (by intro e; injection e with e; exact hn e),he' n hm]
   by_cases hbw:b=want
   ·rw[if_pos hbw]at ev;subst hbw;cases hbody:evS call fpol base ws body e h with
    | none=>rw[hbody]at ev; simp[QfO,WJ]at ev
    | some p=>
     obtain⟨e3,h3'⟩:=p;rw[hbody]at ev;simp only[QfO]at ev;cases hv:r.val e3 with
     | none=>rw[hv]at ev; simp[WJ]at ev
     | some v=>
      rw[hv]at ev;simp[WJ]at ev;obtain⟨rfl,rfl⟩:=ev;obtain⟨e4,h7,h8,h9⟩:=QwX (some (s,b)) body true [] e e3 h h3' h6 (fun s' w e1=>by injection e1 with e1; injection e1 with e1; subst e1; exact hsd) (fun s' w e1=>by injection e1 with e1; injection e1 with e1 e2; subst e1 e2; exact hb) hbody
      have hg4:On g e4:=fun s' w e1=>by rw[←h8 s',h9 s' (hgb s' w e1)]; exact ho s' w e1
      have hs4:e4.get s=some (.bool b):=by rw[←h8 s,h9 s hsd]; exact hb
      refine⟨(Jc e4 (some d) v).drop ((XZ body).filter (· != d)),?_,hfin e4 v (fun n hn=>by rw[←h8 n,h9 n hn]),fun n hn=>?_⟩
      ·rw[S1.flat,Xi,h7];dsimp only;rw[QuN rfl hg4];have hv4:r.val e4=some v:=by rw[←h8.val r]; exact hv
       have hs5:(O.t s).val e4=some (.bool b):=hs4;cases b<;>simp only[XE,evI,hs5,Bool.false_eq_true,if_true,if_false,Bool.not_false,reduceIte]<;>rw[hv4]<;>simp[Avm.Xv]
      ·simp only[S1.QcH,List.mem_append,not_or]at hn;rw[QaL,if_neg (fun e=>hn.2 (by simp[e])),Zu,if_neg (by simpa using hn.1)]
   ·rw[if_neg hbw]at ev;simp only[Qqp]at ev;cases hv:o.val e with
    | none=>rw[hv]at ev; simp[WJ]at ev
    | some v=>
     rw[hv]at ev;simp[WJ]at ev;obtain⟨rfl,rfl⟩:=ev;have hbn:b= !want:=by cases b<;>cases want<;>simp_all
     obtain⟨e4,h7,h8,h9,_⟩:=QqO (call:=call) (fpol:=fpol) (base:=base) (ws:=ws) (s,want) body [] e h h6 hsd (.inl (by rw[hb,hbn])) (fun n hn=>by simp at hn)
     have hg4:On g e4:=fun s' w e1=>by rw[h9 s' (hgb s' w e1)]; exact ho s' w e1
     have hs4:e4.get s=some (.bool b):=by rw[h9 s hsd]; exact hb
     have hv4:o.val e4=some v:=by
      rw[←hv];cases o with
      | k _=>rfl
      | t n=>exact h9 n (by simpa[O.slot]using h4)
     refine⟨(Jc e4 (some d) v).drop ((XZ body).filter (· != d)),?_,hfin e4 v h9,fun n hn=>?_⟩
     ·rw[S1.flat,Xi,h7];dsimp only;rw[QuN rfl hg4];subst hbn;have hs5:(O.t s).val e4=some (.bool (!want)):=hs4;cases want<;>simp only[XE,evI,hs5,Bool.false_eq_true,if_true,if_false,Bool.not_false,Bool.not_true,reduceIte]<;>rw[hv4]<;>simp[Avm.Xv]
     ·simp only[S1.QcH,List.mem_append,not_or]at hn;rw[QaL,if_neg (fun e=>hn.2 (by simp[e])),Zu,if_neg (by simpa using hn.1)]
  ·cases ev
theorem QwX (g:Option (Nat×Bool)): ∀(l:List S1) (inner:Bool) (seen:List Nat) (e e1:Env) (h h1:H),okL inner seen l=true->Qnm g (XZ l)->On g e->evS call fpol base ws l e h=some (e1,h1)->
    ∃e2,Xv call fpol base ws (Xh g l) e h=some (e2,h1)/\EqE e1 e2/\ ∀n,n∉XZ l->e1.get n=e.get n
 | [],inner,seen,e,e1,h,h1,_,_,_,ev=>by
  simp[evS]at ev;obtain⟨rfl,rfl⟩:=ev;exact⟨e,by simp[Xh,Avm.Xv],EqE.refl _,fun _ _=>rfl⟩
 | x::l,inner,seen,e,e1,h,h1,hok,hd,ho,ev=>by
  rw[Ya]at hd;have hdx:Qnm g x.QcH:=fun s w e1=>by have:=hd s w e1; simp only[List.mem_append,not_or]at this; exact this.1
  have hdl:Qnm g (XZ l):=fun s w e1=>by have:=hd s w e1; simp only[List.mem_append,not_or]at this; exact this.2
  have hokx:x.ok inner seen=true:=by
   cases x with
   | op d i=>rfl
   | sc s w body d r o=>rw[okL,Bool.and_eq_true]at hok; exact hok.1
  have hokl: ∃seen',okL inner seen' l=true:=by
   cases x with
   | op d i=>exact⟨_,by simpa[okL]using hok⟩
   | sc s w body d r o=>rw[okL,Bool.and_eq_true]at hok; exact⟨_,hok.2⟩
  obtain⟨seen',hokl⟩:=hokl;unfold evS at ev;cases hx:Wf call fpol base ws x e h with
  | none=>rw[hx]at ev; cases ev
  | some p=>
   obtain⟨e2,h2⟩:=p;rw[hx]at ev;dsimp only at ev;obtain⟨e3,h3,h4,h5⟩:=QBB g x inner seen e e2 h h2 hokx hdx ho hx;have ho2:On g e2:=fun s w e1=>by rw[h5 s (hdx s w e1)]; exact ho s w e1
   obtain⟨e4,h6,h7,h8⟩:=QwX g l inner seen' e2 e1 h2 h1 hokl hdl ho2 ev;obtain⟨e5,h9,h10⟩:=EqE.Xv h4 h6;refine⟨e5,by rw[Xh,Xi,h3]; exact h9,h7.trans h10,fun n hn=>?_⟩
   rw[Ya]at hn;simp only[List.mem_append,not_or]at hn;rw[h8 n hn.2,h5 n hn.1]
end
end
end Go.Avm
