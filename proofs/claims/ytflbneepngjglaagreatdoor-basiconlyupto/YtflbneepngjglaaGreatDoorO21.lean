/- The check of a function, and of a program's functions. -/
import Derived.Test.YtflbneepngjglaaGreatDoorO20
import Derived.KernelRfl
set_option linter.all false
namespace Go.Avm
open Go.RowKit
def Qh :List Fl->List Nat->List (Option (Op1×Nat))
 | .op f::l,j::r=>some (f,j)::Qh l r
 | .drop _::l,_::r=>none::Qh l r
 | _,_=>[]
abbrev Its :=List (Option (Op1×Nat))
def QcE (its:Its)(k:Nat):Option (Op1×Nat):=(its[k]?).bind id
def QuM (P:Program)(n:Nat)(ops:Array Oper)(ds:List Nat):Option (Op1×Nat)->Bool
 | none=>true
 | some (f,j)=>(match ops[j]? with | some o=>QhH P n ops o f | none=>false)&&f.i.Qba.all (fun s=>!(ds.contains s&&f.d == some s))
def Qdc (cl:List Nat)(pf:FuncId->Bool)(dyn:List Dyn)(ds:List Nat):Option (Op1×Nat)->Option (Op1×Nat)->Bool
 | some (f,j),some (f',j')=>j != j'&&
  (match f.d with | some d=>f'.d != some d&&(!(reads f').contains d||ahead cl j j') | none=>true)&&
  (match f'.d with | some d=>!(reads f).contains d||ahead cl j j' | none=>true)&&
  (ahead cl j j'||Jl dyn (kindOf pf dyn f.i) (kindOf pf dyn f'.i))&&
  f.i.Qba.all (fun s=>!(ds.contains s&&f'.d == some s))
 | _,_=>true
def Qeb (q:Option (Op1×Nat)->Option (Op1×Nat)->Bool):Its->Bool
 | []=>true
 | x::r=>r.all (q x)&&Qeb q r
def QjY (ops:Array Oper):List Nat->Its->Bool
 | _,[]=>true
 | seen,none::r=>QjY ops seen r
 | seen,some (_,j)::r=>(match ops[j]? with | some o=>o.after.toList.all (fun e=>!Region.binds .any e||seen.contains e.on) | none=>false)&&QjY ops (j::seen) r
def QyW (pf:FuncId->Bool)(dyn:List Dyn):Option (Op1×Nat)->Bool
 | some (f,_)=>match kindOf pf dyn f.i with | .ecall=>true | _=>false
 | none=>false
def QpH (pf:FuncId->Bool)(dyn:List Dyn)(its:Its):Bool:=
 if dyn.any (fun d=>match d with | .kept _=>true | _=>false)then
  Qeb (fun a b=>!(QyW pf dyn a&&QyW pf dyn b)) its&&dyn.all fun d=>match d with
   | .kept x=>its.all fun a=>match a with
    | some (f,_)=>(match kindOf pf dyn f.i with | .touch (some y)=>Qia dyn x y | _=>true)
    | none=>true
   | _=>true
 else true
def QbI (P:Program)(pf:FuncId->Bool)(n:Nat):QiQ:=fun ops ord dyn l=>
 let fl:=Xh none l
 let its:=Qh fl ord
 let ds:=Qob dyn
 okL false [] l&&fl.length == ord.length&&its.all (QuM P n ops ds)&&Qeb (Qdc (QI ops) pf dyn ds) its&&QpH pf dyn its&&QjY ops [] its&&
  (List.range ops.size).all (fun j=>its.any fun x=>match x with | some (_,j')=>j == j' | none=>false)
theorem QeV : ∀{fl:List Fl} {ord:List Nat},fl.length=ord.length->(Qh fl ord).length=fl.length
 | [],[],_=>rfl
 | .op f::l,j::r,h=>by simp only[Qh,List.length_cons]at*; rw[QeV (by omega)]
 | .drop _::l,j::r,h=>by simp only[Qh,List.length_cons]at*; rw[QeV (by omega)]
 | [],_::_,h=>by simp at h
 | _::_,[],h=>by simp at h
theorem Qcm : ∀{fl:List Fl} {ord:List Nat} {k:Nat},fl.length=ord.length->k<fl.length->(∃f j,fl[k]? =some (.op f)/\QcE (Qh fl ord) k=some (f,j))\/(∃d,fl[k]? =some (.drop d)/\QcE (Qh fl ord) k=none)
 | [],[],k,_,h=>by simp at h
 | .op f::l,j::r,0,_,_=>.inl ⟨f,j,rfl,rfl⟩
 | .drop d::l,j::r,0,_,_=>.inr ⟨d,rfl,rfl⟩
 | .op f::l,j::r,k+1,h,hk=>by
  have:=Qcm (fl:=l) (ord:=r) (k:=k) (by simpa using h) (by simpa using hk)
  simpa[Qh,QcE]using this
 | .drop _::l,j::r,k+1,h,hk=>by
  have:=Qcm (fl:=l) (ord:=r) (k:=k) (by simpa using h) (by simpa using hk)
  simpa[Qh,QcE]using this
 | [],_::_,_,h,_=>by simp at h
 | _::_,[],_,h,_=>by simp at h
theorem Xf {its:Its}{k:Nat}{p:Op1×Nat}(h:QcE its k=some p):its[k]? =some (some p):=by
 unfold QcE at h;cases hx:its[k]? with
 | none=>rw[hx]at h; simp at h
 | some x=>rw[hx]at h; simp at h; rw[h]
theorem Jx {q:Option (Op1×Nat)->Option (Op1×Nat)->Bool}: ∀{its:Its},Qeb q its=true-> ∀(k k':Nat) x y,k<k'->its[k]? =some x->its[k']? =some y->q x y=true
 | [],_,k,_,_,_,_,h,_=>by simp at h
 | z::r,h,k,k',x,y,hk,h1,h2=>by
  unfold Qeb at h;obtain⟨h3,h4⟩:=QK h;cases k' with
  | zero=>omega
  | succ k'=>
   cases k with
   | zero=>
    simp at h1; subst h1;exact List.all_eq_true.1 h3 y (List.mem_of_getElem? (by simpa using h2))
   | succ k=>exact Jx h4 k k' x y (by omega) (by simpa using h1) (by simpa using h2)
theorem QlA {ops:Array Oper}: ∀{its:Its} {seen:List Nat},QjY ops seen its=true-> ∀(k:Nat) f j o,its[k]? =some (some (f,j))->ops[j]? =some o-> ∀e∈o.after,Region.binds .any e=true->e.on∈seen\/ ∃k',k'<k/\ ∃f',its[k']? =some (some (f',e.on))
 | [],_,_,k,_,_,_,h,_,_,_,_=>by simp at h
 | none::r,seen,h,k,f,j,o,h1,ho,e,he,hb=>by
  cases k with
  | zero=>simp at h1
  | succ k=>
   rcases QlA (by simpa[QjY]using h) k f j o (by simpa using h1) ho e he hb with h2 | ⟨k',h2,f',h3⟩
   ·exact .inl h2
   ·exact .inr ⟨k'+1,by omega,f',by simpa using h3⟩
 | some (f0,j0)::r,seen,h,k,f,j,o,h1,ho,e,he,hb=>by
  unfold QjY at h;obtain⟨h3,h4⟩:=QK h;cases k with
  | zero=>
   simp at h1;obtain⟨rfl,rfl⟩:=h1;rw[ho]at h3;have:=List.all_eq_true.1 h3 e (by simpa using he)
   rw[hb]at this;exact .inl (by simpa using this)
  | succ k=>
   rcases QlA h4 k f j o (by simpa using h1) ho e he hb with h2 | ⟨k',h2,f',h5⟩
   ·rcases List.mem_cons.1 h2 with h2 | h2
    ·exact .inr ⟨0,by omega,f0,by simp[h2]⟩
    ·exact .inl h2
   ·exact .inr ⟨k'+1,by omega,f',by simpa using h5⟩
theorem Qwr {P:Program}{pf:FuncId->Bool}{n:Nat}{ops:Array Oper}{ord:List Nat}{dyn:List Dyn}{l:List S1}(h:QbI P pf n ops ord dyn l=true):
    okL false [] l=true/\(Xh none l).length=ord.length/\Stat P n ops (QcE (Qh (Xh none l) ord)) (Xh none l).length pf dyn:=by
 unfold QbI at h;simp only[Bool.and_eq_true]at h;obtain⟨⟨⟨⟨⟨⟨h1,h2⟩,h3⟩,h4⟩,hkp⟩,h5⟩,h6⟩:=h;have h2:(Xh none l).length=ord.length:=by simpa using h2
 have hlen:=QeV h2;refine⟨h1,h2,⟨fun k hk f j hi=>?_,fun j hj=>?_,fun k k' f f' j hk hk' hi hi'=>?_,fun k f j o hk hi ho e he hb=>?_,fun k k' f f' j j' d hk hk' hi hi' hd=>?_,fun k k' f f' j j' d hk hk' hi hi' hd hr=>?_,fun k k' f f' j j' d hk hk' hi hi' hd hr=>?_,fun k k' f f' j j' hk hk' hi hi'=>?_,fun hx k k' f f' j j' hk hk' hi hi' e1 e2=>?_,fun x hx k f j y hk hi he=>?_,fun k k' f f' j j' s hk hk' hi hi' hs hds=>?_⟩⟩
 ·have:=List.all_eq_true.1 h3 _ (List.mem_of_getElem? (Xf hi));simp only[QuM,Bool.and_eq_true]at this;obtain⟨this,_⟩:=this;split at this
  ·rename_i o ho; exact⟨o,ho,this⟩
  ·cases this
 ·have:=List.all_eq_true.1 h6 j (by simpa using hj)
  simp only[List.any_eq_true]at this;obtain⟨x,hx,hxj⟩:=this;obtain⟨k,hk,rfl⟩:=List.mem_iff_getElem.1 hx;split at hxj
  ·rename_i f j' hxe;simp at hxj; subst hxj;exact⟨k,by omega,f,by unfold QcE; rw[List.getElem?_eq_getElem hk,hxe]; rfl⟩
  ·cases hxj
 ·have ne: ∀(k k':Nat) (f f':Op1),k<k'->QcE (Qh (Xh none l) ord) k=some (f,j)->QcE (Qh (Xh none l) ord) k'=some (f',j)->False:=fun k k' f f' hkk h7 h8=>by
    have:=Jx h4 k k' _ _ hkk (Xf h7) (Xf h8);simp[Qdc]at this
  rcases Nat.lt_trichotomy k k' with h7 | h7 | h7
  ·exact(ne k k' f f' h7 hi hi').elim
  ·exact h7
  ·exact(ne k' k f' f h7 hi' hi).elim
 ·rcases QlA h5 k f j o (Xf hi) ho e he hb with h7 | ⟨k',h7,f',h8⟩
  ·cases h7
  ·exact⟨k',h7,f',by unfold QcE; rw[h8]; rfl⟩
 ·have:=Jx h4 k k' _ _ hk (Xf hi) (Xf hi');simp only[Qdc,Bool.and_eq_true]at this;have h7:=this.1.1.1.2;rw[hd]at h7;simp at h7;exact h7.1
 ·have:=Jx h4 k k' _ _ hk (Xf hi) (Xf hi');simp only[Qdc,Bool.and_eq_true]at this;have h7:=this.1.1.1.2;rw[hd]at h7;simp only[Bool.and_eq_true,Bool.or_eq_true]at h7;rcases h7.2 with h8 | h8
  ·simp[hr]at h8
  ·exact h8
 ·have:=Jx h4 k k' _ _ hk (Xf hi) (Xf hi');simp only[Qdc,Bool.and_eq_true]at this;have h7:=this.1.1.2;rw[hd]at h7;simp only[Bool.or_eq_true]at h7;rcases h7 with h8 | h8
  ·simp[hr]at h8
  ·exact h8
 ·have:=Jx h4 k k' _ _ hk (Xf hi) (Xf hi');simp only[Qdc,Bool.and_eq_true]at this;have h7:=this.1.2;simpa[Bool.or_eq_true]using h7
 ·have ha:dyn.any (fun d=>match d with | .kept _=>true | _=>false)=true:=by
    obtain⟨x,hx⟩:=hx;simp only[Wy,List.any_eq_true]at hx ⊢;obtain⟨d,hd,h7⟩:=hx;refine⟨d,hd,?_⟩
    cases d<;>simp at h7 ⊢
  unfold QpH at hkp;rw[if_pos ha]at hkp;obtain⟨h7,_⟩:=QK hkp
  have ne: ∀(k k':Nat) (f f':Op1) (j j':Nat),k<k'->QcE (Qh (Xh none l) ord) k=some (f,j)->QcE (Qh (Xh none l) ord) k'=some (f',j')->kindOf pf dyn f.i= .ecall->kindOf pf dyn f'.i= .ecall->False:=fun k k' f f' j j' hkk h8 h9 e1 e2=>by
   have:=Jx h7 k k' _ _ hkk (Xf h8) (Xf h9);simp[QyW,e1,e2]at this
  rcases Nat.lt_trichotomy k k' with h8 | h8 | h8
  ·exact(ne k k' f f' j j' h8 hi hi' e1 e2).elim
  ·exact h8
  ·exact(ne k' k f' f j' j h8 hi' hi e2 e1).elim
 ·simp only[Wy,List.any_eq_true]at hx;obtain⟨d,hd,h7⟩:=hx
  have ha:dyn.any (fun d=>match d with | .kept _=>true | _=>false)=true:=by
   simp only[List.any_eq_true];refine⟨d,hd,?_⟩
   cases d<;>simp at h7 ⊢
  unfold QpH at hkp;rw[if_pos ha]at hkp;obtain⟨_,h8⟩:=QK hkp;have h9:=List.all_eq_true.1 h8 d hd;cases d<;>simp at h7;obtain⟨rfl,_⟩:=Xu h7;have h10:=List.all_eq_true.1 h9 _ (List.mem_of_getElem? (Xf hi));simp only[he]at h10;exact h10
 ·intro hd;rcases Nat.lt_or_ge k k' with h7 | h7
  ·have:=Jx h4 k k' _ _ h7 (Xf hi) (Xf hi');simp only[Qdc,Bool.and_eq_true]at this;have h8:=List.all_eq_true.1 this.2 s hs;simp[hds,hd]at h8
  ·have:k=k':=Nat.le_antisymm hk h7;subst this;rw[hi]at hi'; injection hi' with hi'; injection hi' with hi' _;subst hi';have:=List.all_eq_true.1 h3 _ (List.mem_of_getElem? (Xf hi));simp only[QuM,Bool.and_eq_true]at this;have h8:=List.all_eq_true.1 this.2 s hs;simp[hds,hd]at h8
section
variable {P : Program} {n : Nat} {ops : Array Oper} {it : Nat -> Option (Op1 × Nat)} {m : Nat} {pf : FuncId -> Bool} {dyn : List Dyn} {E : Nat -> Env} {Hp : Nat -> H} {w0 wst : World} {wr : Nat} {β0 : Beta} {a0 : Act}
 {call:Xt} {fpol:FuncId->Option Pol} {base ws:Nat} {Q:Exit->Act->World->Prop}
theorem Qwh (St:Stat P n ops it m pf dyn){listed:Array Bool}(hsz:listed.size=ops.size)(hr:Region.ready .any ops listed=[]): ∀k f j,k<m->it k=some (f,j)->Dn listed j:=by
 intro k
 induction k using Nat.strongRecOn with
 | _ k ih=>
  intro f j hk hi;refine Classical.byContradiction fun hnd=>?_
  obtain⟨o,ho,_⟩:=St.op k hk f j hi;have hjs:j<ops.size:=(Array.getElem?_eq_some_iff.1 ho).1
  have:j∈Region.ready .any ops listed:=mem_ready.2 ⟨by
   unfold Dn at hnd;have hjl:j<listed.size:=by omega
   simp[hjl]at hnd ⊢
   exact hnd,o,ho,fun e he hb=>by
    obtain⟨k',h1,f',h2⟩:=St.lin k f j o hk hi ho e he hb;exact ih k' h1 f' e.on (by omega) h2⟩
  rw[hr]at this; cases this
theorem QvG (T:Trace call fpol base ws it m E Hp)(St:Stat P n ops it m pf dyn)(hf:Je (E m) (Hp 0) (Hp m) dyn=true)(hcall:WK P w0 call)(hkeep:Xj call)(hpu:JM call fpol)(hpf: ∀g,pf g=true->(fpol g=some .snap\/ ∃b,fpol g=some (.pur b)))
    (hws:wr<=ws) (hwb:wr<=base) (hb:base<=(Hp 0).length) (hwl:ws<=(Hp 0).length) (hn:n<=a0.tmps.size) (hq: ∀a' w',Qat w0 wr β0 (Hp 0) wst a0 (E m) (Hp m) a' w'->Q .normal a' w'):
    ∀(fuel:Nat) (listed:Array Bool) (a:Act) (w:World) (c:Nat) (β:Beta),Inv ops it m pf dyn E Hp w0 wst wr β0 a0 listed a w c β->listed.toList.count false<=fuel->wpAny P .any ops Q fuel listed a w:=by
 have fin: ∀(listed:Array Bool) (a:Act) (w:World) (c:Nat) (β:Beta),Inv ops it m pf dyn E Hp w0 wst wr β0 a0 listed a w c β->Region.ready .any ops listed=[]->Q .normal a w:=by
  intro listed a w c β I hr;have hall:=Qwh St I.size hr
  have hcm:c=m:=by
   rcases I.c2 with h1 | ⟨h0,f,j,h1,_,h2⟩
   ·exact h1
   ·exact absurd (hall c f j h0 h1) h2
  subst hcm;refine hq a w ⟨⟨β,I.sim,I.ext,fun s x hx=>?_⟩,I.defers,I.tsize⟩
  rcases T.src c (Nat.le_refl _) hx with⟨k',f,j,h1,h2,h3,h4⟩ | ⟨h1,h2⟩
  ·exact I.slots1 k' f j h1 h2 (hall k' f j h1 h2) s x h3 h4
  ·exact I.slots0 s x h1 fun k' f j h3 h4 _=>h2 k' f j h3 h4
 intro fuel
 induction fuel with
 | zero=>
  intro listed a w c β I hcount
  have hr:Region.ready .any ops listed=[]:=by
   rw[List.eq_nil_iff_forall_not_mem];intro j hj;obtain⟨hun,o,ho,_⟩:=mem_ready.1 hj;have hjl:j<listed.size:=by rw[I.size]; exact(Array.getElem?_eq_some_iff.1 ho).1
   have hm:false∈listed.toList:=by
    simp[hjl]at hun;rw[←hun]; simp
   have:=List.count_pos_iff.2 hm;omega
  exact⟨hr,fin listed a w c β I hr⟩
 | succ fuel ih=>
  intro listed a w c β I hcount;refine⟨fin listed a w c β I,fun j hj=>?_⟩
  refine wpOp_mono (fun a' w' h=>?_) (Qvj (Q:=Q) T St hf hcall hkeep hpu hpf hws hwb hb hwl hn I hj)
  obtain⟨c',β',I'⟩:=h;refine ih _ a' w' c' β' I' ?_
  obtain⟨hun,o,ho,_⟩:=mem_ready.1 hj;have hjl:j<listed.size:=by rw[I.size]; exact(Array.getElem?_eq_some_iff.1 ho).1
  simp[hjl]at hun;have hm:false∈listed.toList:=by rw[←hun]; simp
  have hpos:=List.count_pos_iff.2 hm;have hget:listed.toList[j]'(by simpa using hjl)=false:=by simpa using hun
  have hset:(listed.setIfInBounds j true).toList.count false=listed.toList.count false-1:=by
   rw[Array.toList_setIfInBounds,List.count_set (by simpa using hjl),hget]
   rfl
  omega
end
end Go.Avm
namespace Go.Avm
open Go.RowKit
section
variable {call : Xt} {fpol : FuncId -> Option Pol} {base ws : Nat}
def stP (call:Xt)(fpol:FuncId->Option Pol)(base ws:Nat)(fl:List Fl)(e:Env)(h:H)(k:Nat):Env×H:=(Xv call fpol base ws (fl.take k) e h).getD (e,h)
theorem QmN {fl:List Fl}{e e1:Env}{h h1:H}(ev:Xv call fpol base ws fl e h=some (e1,h1))(k:Nat):Xv call fpol base ws (fl.take k) e h=some (stP call fpol base ws fl e h k):=by
 rw[←List.take_append_drop k fl,Xi]at ev;unfold stP;cases hx:Xv call fpol base ws (fl.take k) e h with
 | none=>rw[hx]at ev; cases ev
 | some p=>rfl
theorem QmO {fl:List Fl}{e e1:Env}{h h1:H}(ev:Xv call fpol base ws fl e h=some (e1,h1)){k:Nat}{x:Fl}(hx:fl[k]? =some x):
    Xv call fpol base ws [x] (stP call fpol base ws fl e h k).1 (stP call fpol base ws fl e h k).2=some (stP call fpol base ws fl e h (k+1)):=by
 have h1:=QmN ev (k+1);have h2:=QmN ev k;rw[List.take_add_one,hx,Xi,h2]at h1;exact h1
theorem QtG {fl:List Fl}{ord:List Nat}{e e1:Env}{h h1:H}(hl:fl.length=ord.length)(ev:Xv call fpol base ws fl e h=some (e1,h1)):
    Trace call fpol base ws (QcE (Qh fl ord)) fl.length (fun k=>(stP call fpol base ws fl e h k).1) (fun k=>(stP call fpol base ws fl e h k).2):=by
 constructor
 ·intro k hk hi;rcases Qcm hl hk with⟨f,j,_,h3⟩ | ⟨d,h2,_⟩
  ·rw[hi]at h3; cases h3
  ·have h4:=QmO ev h2;simp only[Xv,Option.some.injEq]at h4;try dsimp only
   rw[←h4];refine⟨rfl,fun s x hx=>?_⟩
   rw[Zu]at hx;split at hx
   ·cases hx
   ·exact hx
 ·intro k hk f j hi;rcases Qcm hl hk with⟨f',j',h2,h3⟩ | ⟨d,_,h3⟩
  ·rw[hi]at h3;injection h3 with h3; injection h3 with h3 _;subst h3;have h4:=QmO ev h2;try dsimp only
   simp only[Xv]at h4;split at h4
   ·rename_i hg;split at h4
    ·rename_i v h' hdo;simp only[Option.some.injEq]at h4;rw[←h4];exact⟨v,.inl ⟨fun s w hs=>(by rw[hg]at hs; cases hs),hdo⟩,rfl⟩
    ·cases h4
   ·rename_i g want hg;split at h4
    ·rename_i b hb;split at h4
     ·rename_i hbw;split at h4
      ·rename_i v h' hdo;simp only[Option.some.injEq]at h4;rw[←h4];refine⟨v,.inl ⟨fun s w hs=>?_,hdo⟩,rfl⟩
       rw[hg]at hs; injection hs with hs; injection hs with hs1 hs2;subst hs1 hs2;rw[hb,hbw]
      ·cases h4
     ·rename_i hbw;simp only[Option.some.injEq]at h4;rw[←h4];refine⟨.tup [],.inr ⟨⟨g,want,hg,.inl ?_⟩,rfl,rfl⟩,rfl⟩
      rw[hb];cases b<;>cases want<;>simp_all
    ·rename_i hb;simp only[Option.some.injEq]at h4;rw[←h4];exact⟨.tup [],.inr ⟨⟨g,want,hg,.inr hb⟩,rfl,rfl⟩,rfl⟩
    ·cases h4
  ·rw[hi]at h3; cases h3
end
theorem QvE {e e':Env}(he:EqE e e')(h0 h:H)(dyn:List Dyn):Je e h0 h dyn=Je e' h0 h dyn:=by
 unfold Je
 congr 1
 funext d
 cases d with
 | far x y=>simp only[Dyn.ok,he.val]
 | pur x=>simp only[Dyn.ok,he.val]
 | alive x=>simp only[Dyn.ok,he.val]
 | kept x=>simp only[Dyn.ok,he.val]
theorem Qzo {P:Program}{w0:World}{call:Xt}{fpol:FuncId->Option Pol}{pf:FuncId->Bool}(hm:P.follows .mixedOrders=true)(hcall:WK P w0 call)(hkeep:Xj call)(hpu:JM call fpol)
    (hpf: ∀g,pf g=true->(fpol g=some .snap\/ ∃b,fpol g=some (.pur b))) (n:Nat):QmF P w0 call fpol n (QbI P pf n):=by
 intro ops ord dyn l hchk wr base ws id β h h1 w e e1 a Q hws hwb hb hwl hn hE S hev hfar hq;obtain⟨hok,hl,St⟩:=Qwr hchk;obtain⟨e2,hfl,heq,_⟩:=QwX none l false [] e e1 h h1 hok (fun _ _ h=>by cases h) (fun _ _ h=>by cases h) hev
 have T:=QtG hl hfl;have h0:stP call fpol base ws (Xh none l) e h 0=(e,h):=by simp[stP,Xv]
 have hend:stP call fpol base ws (Xh none l) e h (Xh none l).length=(e2,h1):=by simp[stP,hfl]
 obtain⟨S1,E1⟩:=Qhi S;refine wp_region_any hm ?_
 have hfar':Je (stP call fpol base ws (Xh none l) e h (Xh none l).length).1 (stP call fpol base ws (Xh none l) e h 0).2 (stP call fpol base ws (Xh none l) e h (Xh none l).length).2 dyn=true:=by
  rw[hend,h0]; rw[←QvE heq]; exact hfar
 have hq': ∀a' w',Qat w0 wr β (stP call fpol base ws (Xh none l) e h 0).2 w.drew a (stP call fpol base ws (Xh none l) e h (Xh none l).length).1 (stP call fpol base ws (Xh none l) e h (Xh none l).length).2 a' w'->Q .normal a' w':=by
  intro a' w' p;rw[h0,hend]at p;refine hq a' w' ?_
  obtain⟨⟨β2,g1,g2,g3⟩,g4,g5⟩:=p;exact⟨⟨β2,g1,E1.trans g2,fun s x hx=>g3 s x (by rw[←heq s]; exact hx)⟩,g4,g5⟩
 have hb':base<=(stP call fpol base ws (Xh none l) e h 0).2.length:=by rw[h0]; exact hb
 have hwl':ws<=(stP call fpol base ws (Xh none l) e h 0).2.length:=by rw[h0]; exact hwl
 have hnone: ∀j,¬Dn (Array.replicate ops.size false) j:=fun j hj=>by
  unfold Dn at hj;rw[Array.getD_eq_getD_getElem?]at hj;by_cases hjl:j<ops.size
  ·simp[hjl]at hj
  ·simp[Array.getElem?_eq_none,hjl]at hj
 obtain⟨c,_,hc2,hc3,hc4⟩:=QhI (it:=QcE (Qh (Xh none l) ord)) (pf:=pf) (dyn:=dyn) (m:=(Xh none l).length) (fun _=>False) 0 (Nat.zero_le _)
 have hno: ∀i f1 j1,i<c->QcE (Qh (Xh none l) ord) i=some (f1,j1)-> ¬Qt pf dyn f1.i:=fun i f1 j1 h2 h3 h4=>hc3 i f1 j1 (Nat.zero_le _) h2 h3 h4
 obtain⟨t,ht,hnt⟩:=Qax T St hfar' hpu hpf (k:=0) c (Nat.zero_le _) hc2 fun i f1 j1 _ h2 h3=>hno i f1 j1 h2 h3
 try dsimp only at ht
 have S0:Sim w0 wr β (stP call fpol base ws (Xh none l) e h 0).2 w.drew:=by rw[h0]; exact S1
 have Sc:Sim w0 wr β (stP call fpol base ws (Xh none l) e h c).2 w.drew:=by rw[ht]; exact(QdM S0 t hnt).1
 have Ec:Ext0 wr β (stP call fpol base ws (Xh none l) e h 0).2 w.drew β (stP call fpol base ws (Xh none l) e h c).2 w.drew:=by rw[ht]; exact Qko S0 t
 refine QvG T St hfar' hcall hkeep hpu hpf hws hwb hb' hwl' hn hq' ops.size (Array.replicate ops.size false) a w.drew c β
  ⟨hc2,fun k f j h2 h3 h4=>absurd h4 (hno k f j h2 h3),?_,fun j o hj=>absurd hj (hnone j),by simp,Sc,⟨Ec,?_⟩,?_,?_,fun k f j _ _ hj=>absurd hj (hnone j),?_,rfl,rfl⟩ ?_
 ·rcases hc4 with h2 | ⟨h2,f,j,h3,h4,h5⟩
  ·exact .inl h2
  ·exact .inr ⟨h2,f,j,h3,h4,hnone j⟩
 ·exact QbG (Fresh.refl _ _) (fun _ _ _=>rfl) fun b hbl=>by rw[ht]; exact List.getElem?_append_left hbl
 ·intro k f j hk hi _ b h2 h3 v;cases hx:β b v with
  | none=>rfl
  | some x=>
   have h4:=WG S0 hx;have h5:=(T.len hkeep hb' k (Nat.le_of_lt hk)).2;try dsimp only at h5 h2
   omega
 ·intro k f j hk hi _ b h2 h3;obtain⟨t2,ht2,_⟩:=Qax T St hfar' hpu hpf (k:=k+1) c hk hc2 fun i f1 j1 _ h2 h3=>hno i f1 j1 h2 h3
  try dsimp only at ht2
  rw[ht2]; exact List.getElem?_append_left h3
 ·intro d x hx _;rw[h0]at hx;obtain⟨u,g1,g2⟩:=hE d x hx;exact⟨u,g1,(g2.to E1.view E1.beta).to (by rw[h0]at Ec; exact Ec.view) (Beta.Le.refl _)⟩
 ·have:=List.count_le_length (a:=false) (l:=(Array.replicate ops.size false).toList);simpa using this
theorem QxB {P:Program}{w0:World}{fpol:FuncId->Option Pol}{pf:FuncId->Bool}(hm:P.follows .mixedOrders=true)(hpf: ∀g,pf g=true->(fpol g=some .snap\/ ∃b,fpol g=some (.pur b))):Qru P w0 fpol (QbI P pf):=
 fun _ h1 h2 h3 n=>Qzo hm h1 h2 h3 hpf n
end Go.Avm
namespace Go.Avm
def Qzj (P:Program)(pf:FuncId->Bool)(f:FuncId)(F:F):Bool:=match P.funcs[f]? with
 | some fn=>(match fn.body with | some k=>Qaj P fn.ntmps (QbI P pf fn.ntmps) F.code k | none=>false)&&QdU P F.res fn.results.toList&&fn.name != "runtime.NumGoroutine"
 | none=>false
theorem Qzi {P:Program}{pf:FuncId->Bool}{f:FuncId}{F:F}(h:Qzj P pf f F=true):FOk P (QbI P pf) f F:=by
 unfold Qzj at h;split at h
 ·rename_i fn hf;obtain⟨h,h3⟩:=QK h;obtain⟨h1,h2⟩:=QK h;split at h1
  ·rename_i k hk;exact⟨fn,k,hf,by simpa using h3,hk,h1,h2⟩
  ·cases h1
 ·cases h
end Go.Avm
