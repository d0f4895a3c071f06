/- Into old blocks nothing goes but pure values. -/
import Derived.Test.YtflbneepngjglaaGreatDoorO05
set_option linter.all false
namespace Go.Avm
def Za (n:Nat)(h h':H):Prop:=h.length<=h'.length/\ ∀(b:Nat),b<n-> ∀(ver sz:Nat) (els':List AV),h'[b]? =some (.arr ver sz els')->
 (∃els,h[b]? =some (.arr ver sz els)/\els'.length=els.length/\ ∀m,b<m->Qj m els=true->Qj m els'=true)\/
 ((∀m,b<m->Qj m els'=true)/\ ∃ver0 els,h[b]? =some (.arr ver0 sz els)/\ver0<ver)
theorem Za.refl(n:Nat)(h:H):Za n h h:=⟨Nat.le_refl _,fun _ _ _ _ els hb=>.inl ⟨els,hb,rfl,fun _ _ h=>h⟩⟩
theorem Za.trans{n:Nat}{h h1 h2:H}(a:Za n h h1)(b:Za n h1 h2):Za n h h2:=⟨Nat.le_trans a.1 b.1,fun k hk ver sz els hb=>by
 rcases b.2 k hk ver sz els hb with⟨els1,h1,l1,u1⟩ | ⟨u1,ver1,els1,h1,v1⟩
 ·rcases a.2 k hk ver sz els1 h1 with⟨els0,h0,l0,u0⟩ | ⟨u0,ver0,els0,h0,v0⟩
  ·exact .inl ⟨els0,h0,l1.trans l0,fun m hm hu=>u1 m hm (u0 m hm hu)⟩
  ·exact .inr ⟨fun m hm=>u1 m hm (u0 m hm),ver0,els0,h0,v0⟩
 ·rcases a.2 k hk ver1 sz els1 h1 with⟨els0,h0,_,_⟩ | ⟨_,ver0,els0,h0,v0⟩
  ·exact .inr ⟨u1,ver1,els0,h0,v1⟩
  ·exact .inr ⟨u1,ver0,els0,h0,Nat.lt_trans v0 v1⟩⟩
theorem Za.le{n m:Nat}{h h':H}(a:Za n h h')(hm:m<=n):Za m h h':=⟨a.1,fun k hk=>a.2 k (Nat.lt_of_lt_of_le hk hm)⟩
theorem Za.same{n:Nat}{h h':H}(hl:h.length<=h'.length)(hs: ∀k,k<n->h'[k]? =h[k]?):Za n h h':=⟨hl,fun k hk ver sz els hb=>.inl ⟨els,by rw[←hs k hk]; exact hb,rfl,fun _ _ h=>h⟩⟩
theorem Za.append{n:Nat}{h:H}(t:H)(hn:n<=h.length):Za n h (h++t):=.same (by simp) fun k hk=>List.getElem?_append_left (by omega)
theorem Za.set{n b:Nat}{h:H}{blk:Qq}(hb:n<=b):Za n h (h.set b blk):=.same (by simp) fun k hk=>List.getElem?_set_ne (by omega)
theorem Za.grow{n b ver ver' sz:Nat}{els els':List AV}{h:H}(hb:h[b]? =some (.arr ver sz els))(hv:ver<ver')(hu: ∀m,b<m->Qj m els'=true):Za n h (h.set b (.arr ver' sz els')):=⟨by simp,fun k _ ver2 sz2 els2 h2=>by
 by_cases hkb:k=b
 ·subst hkb;rw[List.getElem?_set_self (List.getElem?_eq_some_iff.1 hb).1]at h2
  simp at h2;obtain⟨rfl,rfl,rfl⟩:=h2;exact .inr ⟨hu,ver,els,hb,hv⟩
 ·rw[List.getElem?_set_ne (fun e=>hkb e.symm)]at h2
  exact .inl ⟨els2,h2,rfl,fun _ _ h=>h⟩⟩
theorem Za.Qyh{n b:Nat}{h:H}{blk:Qq}(hx: ∀v z l,blk≠ .arr v z l):Za n h (h.set b blk):=⟨by simp,fun k _ ver2 sz2 els2 h2=>by
 by_cases hkb:k=b
 ·subst hkb;rw[List.getElem?_set]at h2
  simp only[if_true]at h2;split at h2
  ·injection h2 with h2; exact absurd h2 (hx _ _ _)
  ·cases h2
 ·rw[List.getElem?_set_ne (fun e=>hkb e.symm)]at h2
  exact .inl ⟨els2,h2,rfl,fun _ _ h=>h⟩⟩
theorem Xc {n:Nat}: ∀{l:List AV},Qj n l=true↔ ∀x∈l,x.under n=true
 | []=>by simp[Qj]
 | x::l=>by simp[Qj,Xc (l:=l)]
theorem Yi {n:Nat}(x:AV):Qj n x.cells=x.under n:=by
 cases x<;>simp[AV.cells,Qj,AV.under]
theorem JX {base:Nat}{f:AV->H->Option (AV×H)}(hf: ∀v h v' h',f v h=some (v',h')->h'.length=h.length/\ ∀k,k<base->h'[k]? =h[k]?): ∀{l l':List AV} {h h':H},XW f l h=some (l',h')->h'.length=h.length/\ ∀k,k<base->h'[k]? =h[k]?
 | [],l',h,h',e=>by
  simp[XW]at e;obtain⟨rfl,rfl⟩:=e;exact⟨rfl,fun _ _=>rfl⟩
 | v::l,l',h,h',e=>by
  unfold XW at e;split at e
  ·rename_i v1 h1 e1;split at e
   ·rename_i l2 h2 e2;simp at e;obtain⟨rfl,rfl⟩:=e;obtain⟨a1,b1⟩:=hf _ _ _ _ e1;obtain⟨a2,b2⟩:=JX hf e2;exact⟨a2.trans a1,fun k hk=>(b2 k hk).trans (b1 k hk)⟩
   ·cases e
  ·cases e
theorem JV (base:Nat): ∀n v h v' h',frz base n v h=some (v',h')->h'.length=h.length/\ ∀k,k<base->h'[k]? =h[k]?:=by
 intro n
 induction n with
 | zero=>
  intro v h v' h' e;unfold frz at e;split at e
  ·simp at e; obtain⟨rfl,rfl⟩:=e; exact⟨rfl,fun _ _=>rfl⟩
  ·cases e
 | succ n ih=>
  intro v h v' h' e;unfold frz at e;split at e
  ·simp at e; obtain⟨rfl,rfl⟩:=e; exact⟨rfl,fun _ _=>rfl⟩
  ·split at e
   ·split at e
    ·rename_i h1; simp at e; obtain⟨rfl,rfl⟩:=e; exact JX ih h1
    ·cases e
   ·split at e
    ·rename_i h1; simp at e; obtain⟨rfl,rfl⟩:=e; exact JX ih h1
    ·cases e
   ·split at e
    ·rename_i h1; simp at e; obtain⟨rfl,rfl⟩:=e; exact JX ih h1
    ·cases e
   ·simp at e; obtain⟨rfl,rfl⟩:=e; exact⟨rfl,fun _ _=>rfl⟩
   ·split at e
    ·simp at e; obtain⟨rfl,rfl⟩:=e; exact⟨rfl,fun _ _=>rfl⟩
    ·rename_i hb;split at e
     ·split at e
      ·rename_i h1;simp at e; obtain⟨rfl,rfl⟩:=e;obtain⟨a1,b1⟩:=JX ih h1;exact⟨a1.trans (Wc _ _ _),fun k hk=>(b1 k hk).trans (Yl (by omega))⟩
      ·cases e
     ·cases e
   ·split at e
    ·simp at e; obtain⟨rfl,rfl⟩:=e; exact⟨rfl,fun _ _=>rfl⟩
    ·cases e
   ·split at e
    ·simp at e; obtain⟨rfl,rfl⟩:=e; exact⟨rfl,fun _ _=>rfl⟩
    ·cases e
   ·split at e
    ·simp at e; obtain⟨rfl,rfl⟩:=e; exact⟨rfl,fun _ _=>rfl⟩
    ·cases e
   ·cases e
theorem QaW {base:Nat}{e:Env}{sz:Nat}: ∀{ps:List (Nat×O)} {els els':List AV} {h h':H},QS base e sz ps els h=some (els',h')->h'.length=h.length/\ ∀k,k<base->h'[k]? =h[k]?
 | [],els,els',h,h',ev=>by
  simp[QS]at ev;obtain⟨_,rfl⟩:=ev;exact⟨rfl,fun _ _=>rfl⟩
 | (i,x)::r,els,els',h,h',ev=>by
  unfold QS at ev;split at ev
  ·split at ev
   ·rename_i e1;split at ev
    ·obtain⟨a1,b1⟩:=JV _ _ _ _ _ _ e1;obtain⟨a2,b2⟩:=QaW ev;exact⟨a2.trans a1,fun k hk=>(b2 k hk).trans (b1 k hk)⟩
    ·cases ev
   ·cases ev
  ·cases ev
theorem QmQ {n o:Nat}{e e':AV}{vs:List AV}(hs:setAt e o vs=some e')(he:e.under n=true)(hv:Qj n vs=true):e'.under n=true:=by
 unfold setAt at hs;split at hs
 ·rename_i l;split at hs
  ·injection hs with hs; subst hs;simp only[AV.under]at he ⊢;rw[Xc]at*;intro x hx;simp only[List.mem_append]at hx;rcases hx with(hx | hx) | hx
   ·exact he x (List.mem_of_mem_take hx)
   ·exact hv x hx
   ·exact he x (List.mem_of_mem_drop hx)
  ·cases hs
 ·split at hs
  ·split at hs
   ·split at hs
    ·cases hs
    ·injection hs with hs; subst hs;simpa[Qj]using hv
   ·cases hs
  ·cases hs
theorem QvA {base ws:Nat}{e:Env}{h h':H}{i:I}{u:AV}(ev:evI base ws e h i=some (u,h'))(hb:base<=h.length):Za base h h':=by
 cases i with
 | st sz x v=>
  dsimp only[evI]at ev;split at ev
  ·rename_i b ver bz j o r hx hv;split at ev
   ·split at ev
    ·rename_i u' h1 hu;split at ev
     ·rename_i v' z els hbk;split at ev
      ·rename_i hvz;split at ev
       ·rename_i el hel;split at ev
        ·rename_i el' hset;split at ev
         ·rename_i hcond;simp at ev; obtain⟨_,rfl⟩:=ev;by_cases hlt:b<base
          ·rw[if_pos hlt]at hu;obtain⟨a1,b1⟩:=JV _ _ _ _ _ _ hu;refine⟨by simp[a1],fun k hk ver2 sz2 els2 h2=>?_⟩
           by_cases hkb:k=b
           ·subst hkb;have hkl:k<h1.length:=(List.getElem?_eq_some_iff.1 hbk).1
            rw[List.getElem?_set_self hkl]at h2
            simp at h2;obtain⟨rfl,rfl,rfl⟩:=h2;refine .inl ⟨els,?_,by simp,fun m hkm hm=>?_⟩
            ·rw[←b1 k hk,hbk];rw[hvz.1]
            ·rw[Xc]at hm ⊢;intro y hy;rcases List.mem_or_eq_of_mem_set hy with hy | rfl
             ·exact hm y hy
             ·have hem:=hm _ (List.mem_of_getElem? hel)
              refine QmQ hset hem (by
               rw[Yi,WO];rw[WO]at hem;rcases hcond with hc | hc | hc
               ·omega
               ·rw[QuF hc]; omega
               ·omega)
           ·rw[List.getElem?_set_ne (fun e=>hkb e.symm),b1 k hk]at h2
            exact .inl ⟨els2,h2,rfl,fun _ _ h=>h⟩
          ·rw[if_neg hlt]at hu;simp at hu;obtain⟨rfl,rfl⟩:=hu;exact .set (Nat.le_of_not_lt hlt)
         ·cases ev
        ·cases ev
       ·cases ev
      ·cases ev
     ·cases ev
    ·cases ev
   ·cases ev
  ·cases ev
 | app s sz lim x y=>
  simp only[evI]at ev;split at ev
  ·split at ev
   ·unfold Ju at ev;split at ev
    ·split at ev
     ·simp at ev; obtain⟨_,rfl⟩:=ev; exact .append _ hb
     ·cases ev
    ·rename_i b ver sz' off len;split at ev
     ·rename_i v z els hbk;split at ev
      ·rename_i hc;simp at ev; obtain⟨_,rfl⟩:=ev;obtain⟨rfl,rfl,_,_,_,hbw,_⟩:=hc;rcases hbw with hbw | ⟨_,h1,h2⟩
       ·exact .set hbw
       ·refine .grow hbk (Nat.lt_succ_self _) fun m _=>?_
        rw[Xc];intro y hy;rcases List.mem_append.1 hy with hy | hy
        ·exact Xc.1 ((Qav m _).2 (by omega)) y hy
        ·exact Xc.1 ((Qav m _).2 (by omega)) y hy
      ·cases ev
     ·cases ev
    ·cases ev
   ·cases ev
  ·cases ev
 | ustr T p n=>
  simp only[evI]at ev
  repeat' split at ev
  all_goals first
   | (cases ev; done)
   | (simp at ev; obtain⟨_,rfl⟩:=ev; exact .refl _ _)
   | (simp at ev; obtain⟨_,rfl⟩:=ev; exact .Qyh (fun _ _ _ h=>by cases h))
 | appb T lim x y=>
  simp only[evI]at ev
  repeat' split at ev
  all_goals first
   | (cases ev; done)
   | (simp at ev; obtain⟨_,rfl⟩:=ev; exact .Qyh (fun _ _ _ h=>by cases h))
 | bsl sz n zero ps=>
  simp only[evI]at ev;split at ev
  ·rename_i h1 e1;simp at ev; obtain⟨_,rfl⟩:=ev;obtain⟨a1,b1⟩:=QaW e1;exact .same (by simp[a1]) fun k hk=>by rw[List.getElem?_append_left (by omega)]; exact b1 k hk
  ·cases ev
 | nxt x=>
  simp only[evI]at ev;split at ev
  ·split at ev
   ·split at ev
    ·split at ev
     ·simp at ev; obtain⟨_,rfl⟩:=ev;rename_i hc _ _ _ _;exact .set (by assumption)
     ·simp at ev; obtain⟨_,rfl⟩:=ev; exact .refl _ _
    ·cases ev
   ·cases ev
  ·cases ev
 | call f args=>simp[evI]at ev
 | callv pu f args=>simp[evI]at ev
 | own0 sz=>simp[evI]at ev; obtain⟨_,rfl⟩:=ev; exact .append _ hb
 | _=>
  simp only[evI]at ev
  repeat' split at ev
  all_goals first
   | (cases ev; done)
   | (simp at ev; obtain⟨_,rfl⟩:=ev; exact .refl _ _)
   | (simp at ev; obtain⟨_,rfl⟩:=ev; exact .append _ hb)
def Qbi (n ws:Nat)(h h':H):Prop:=Za n h h'/\ ∀k,k<n->k<ws->h'[k]? =h[k]?
theorem Qbi.refl(n ws:Nat)(h:H):Qbi n ws h h:=⟨Za.refl _ _,fun _ _ _=>rfl⟩
theorem Qbi.trans{n ws:Nat}{h h1 h2:H}(a:Qbi n ws h h1)(b:Qbi n ws h1 h2):Qbi n ws h h2:=⟨a.1.trans b.1,fun k h1 h2=>(b.2 k h1 h2).trans (a.2 k h1 h2)⟩
theorem Qbi.le{n m ws:Nat}{h h':H}(a:Qbi n ws h h')(hm:m<=n):Qbi m ws h h':=⟨a.1.le hm,fun k hk=>a.2 k (Nat.lt_of_lt_of_le hk hm)⟩
theorem Qvz {base ws:Nat}{e:Env}{h h':H}{i:I}{u:AV}(ev:evI base ws e h i=some (u,h'))(hb:base<=h.length): ∀k,k<base->k<ws->h'[k]? =h[k]?:=by
 have app: ∀t:H,∀k,k<base->k<ws->(h++t)[k]? =h[k]?:=fun t k hk _=>List.getElem?_append_left (by omega)
 cases i with
 | st sz x v=>
  dsimp only[evI]at ev;split at ev
  ·rename_i b ver bz j o r hx hv;split at ev
   ·rename_i hws;split at ev
    ·rename_i u' h1 hu
     have hu1: ∀k,k<base->h1[k]? =h[k]?:=by
      split at hu
      ·exact(JV _ _ _ _ _ _ hu).2
      ·simp at hu;obtain⟨_,rfl⟩:=hu;exact fun _ _=>rfl
     split at ev
     ·split at ev
      ·split at ev
       ·split at ev
        ·split at ev
         ·simp at ev; obtain⟨_,rfl⟩:=ev;intro k hk hkw;rw[List.getElem?_set_ne (by omega)]
          exact hu1 k hk
         ·cases ev
        ·cases ev
       ·cases ev
      ·cases ev
     ·cases ev
    ·cases ev
   ·cases ev
  ·cases ev
 | app s sz lim x y=>
  simp only[evI]at ev;split at ev
  ·split at ev
   ·unfold Ju at ev;split at ev
    ·split at ev
     ·simp at ev; obtain⟨_,rfl⟩:=ev; exact app _
     ·cases ev
    ·split at ev
     ·split at ev
      ·rename_i hc;simp at ev; obtain⟨_,rfl⟩:=ev;have:=hc.2.2.2.2.2.1;exact fun k hk _=>List.getElem?_set_ne (by omega)
      ·cases ev
     ·cases ev
    ·cases ev
   ·cases ev
  ·cases ev
 | ustr T p n=>
  simp only[evI]at ev
  repeat' split at ev
  all_goals first
   | (cases ev; done)
   | (simp at ev; obtain⟨_,rfl⟩:=ev; exact fun _ _ _=>rfl)
   | (rename_i hc; simp at ev; obtain⟨_,rfl⟩:=ev; exact fun k hk _=>List.getElem?_set_ne (by omega))
 | appb T lim x y=>
  simp only[evI]at ev
  repeat' split at ev
  all_goals first
   | (cases ev; done)
   | (rename_i hc; simp at ev; obtain⟨_,rfl⟩:=ev; exact fun k hk _=>List.getElem?_set_ne (by omega))
 | bsl sz n zero ps=>
  simp only[evI]at ev;split at ev
  ·rename_i h1 e1;simp at ev; obtain⟨_,rfl⟩:=ev;obtain⟨a1,b1⟩:=QaW e1;exact fun k hk _=>by rw[List.getElem?_append_left (by omega)]; exact b1 k hk
  ·cases ev
 | nxt x=>
  simp only[evI]at ev;split at ev
  ·split at ev
   ·rename_i hc;split at ev
    ·split at ev
     ·simp at ev; obtain⟨_,rfl⟩:=ev;exact fun k hk _=>List.getElem?_set_ne (by omega)
     ·simp at ev; obtain⟨_,rfl⟩:=ev; exact fun _ _ _=>rfl
    ·cases ev
   ·cases ev
  ·cases ev
 | call f args=>simp[evI]at ev
 | callv pu f args=>simp[evI]at ev
 | own0 sz=>simp[evI]at ev; obtain⟨_,rfl⟩:=ev; exact app _
 | _=>
  simp only[evI]at ev
  repeat' split at ev
  all_goals first
   | (cases ev; done)
   | (simp at ev; obtain⟨_,rfl⟩:=ev; exact fun _ _ _=>rfl)
   | (simp at ev; obtain⟨_,rfl⟩:=ev; exact app _)
def Xj (call:Xt):Prop:=∀ws f args h r h',call ws f args h=some (r,h')->Qbi h.length ws h h'
section
variable {call : Xt} {fpol : FuncId -> Option Pol} {base ws : Nat}
theorem QeY (hc:Xj call){e:Env}{h h':H}{i:I}{u:AV}(ev:XE call fpol base ws e h i=some (u,h'))(hb:base<=h.length):Qbi base ws h h':=by
 by_cases h1: ∃f args,i= .call f args
 ·obtain⟨f,args,rfl⟩:=h1;simp only[XE]at ev;split at ev
  ·exact(hc _ _ _ _ _ _ ev).le hb
  ·cases ev
 ·by_cases h2: ∃pu f args,i= .callv pu f args
  ·obtain⟨pu,f,args,rfl⟩:=h2;simp only[XE]at ev;split at ev
   ·split at ev
    ·split at ev
     ·exact(hc _ _ _ _ _ _ ev).le hb
     ·exact(hc _ _ _ _ _ _ ev).le hb
     ·cases ev
    ·exact(hc _ _ _ _ _ _ ev).le hb
   ·cases ev
  ·have ev':evI base ws e h i=some (u,h'):=by
     cases i<;>first | exact ev | exact absurd ⟨_,_,rfl⟩ h1 | exact absurd ⟨_,_,_,rfl⟩ h2
   exact⟨QvA ev' hb,Qvz ev' hb⟩
mutual
theorem QsT (hc:Xj call): ∀(x:S1) (e e1:Env) (h h1:H),Wf call fpol base ws x e h=some (e1,h1)->base<=h.length->Qbi base ws h h1
 | .op d i,e,e1,h,h1,ev,hb=>by
  unfold Wf at ev;cases hx:XE call fpol base ws e h i with
  | none=>rw[hx]at ev; simp[WJ]at ev
  | some p=>
   rw[hx]at ev;simp[WJ]at ev;obtain⟨_,rfl⟩:=ev;exact QeY hc hx hb
 | .sc s want body d r o,e,e1,h,h1,ev,hb=>by
  unfold Wf at ev;split at ev
  ·split at ev
   ·cases hbody:evS call fpol base ws body e h with
    | none=>rw[hbody]at ev; simp[QfO,WJ]at ev
    | some p=>
     obtain⟨e3,h3⟩:=p;rw[hbody]at ev;simp only[QfO]at ev;cases hv:r.val e3 with
     | none=>rw[hv]at ev; simp[WJ]at ev
     | some v=>
      rw[hv]at ev;simp[WJ]at ev;obtain⟨_,rfl⟩:=ev;exact Qeg hc body e e3 h h3 hbody hb
   ·simp only[Qqp]at ev;cases hv:o.val e with
    | none=>rw[hv]at ev; simp[WJ]at ev
    | some v=>
     rw[hv]at ev;simp[WJ]at ev;obtain⟨_,rfl⟩:=ev;exact .refl _ _ _
  ·cases ev
theorem Qeg (hc:Xj call): ∀(l:List S1) (e e1:Env) (h h1:H),evS call fpol base ws l e h=some (e1,h1)->base<=h.length->Qbi base ws h h1
 | [],e,e1,h,h1,ev,_=>by
  simp[evS]at ev;obtain⟨_,rfl⟩:=ev;exact .refl _ _ _
 | x::l,e,e1,h,h1,ev,hb=>by
  unfold evS at ev;cases hx:Wf call fpol base ws x e h with
  | none=>rw[hx]at ev; cases ev
  | some p=>
   obtain⟨e2,h2⟩:=p;rw[hx]at ev;have k1:=QsT hc x e e2 h h2 hx hb;exact k1.trans (Qeg hc l e2 e1 h2 h1 ev (Nat.le_trans hb k1.1.1))
end
theorem QhV (hc:Xj call){lp:QcS}(hlp: ∀f keep e h r,lp f keep e h=some r-> ∃n,rounds n f keep e h=some r): ∀(c:C) (x:Ex) (e e1:Env) (h h1:H),evC call lp fpol base ws c e h=some (x,e1,h1)->base<=h.length->Qbi base ws h h1:=by
 intro c
 induction c with
 | skip=>intro x e e1 h h1 ev hb; simp[evC]at ev; obtain⟨_,_,rfl⟩:=ev; exact .refl _ _ _
 | stuck=>intro x e e1 h h1 ev hb; simp[evC]at ev
 | ops l=>
  intro x e e1 h h1 ev hb;simp only[evC]at ev;cases hs:evS call fpol base ws l e h with
  | none=>rw[hs]at ev; simp[done]at ev
  | some p=>
   rw[hs]at ev; simp[done]at ev; obtain⟨_,_,rfl⟩:=ev;exact Qeg hc l e p.1 h p.2 hs hb
 | dops ord far l=>
  intro x e e1 h h1 ev hb;simp only[evC]at ev;cases hs:evS call fpol base ws l e h with
  | none=>rw[hs]at ev; simp[Qgb,done]at ev
  | some p=>
   obtain⟨e2,h2⟩:=p;rw[hs]at ev;simp only[Qgb]at ev;by_cases hf:Je e2 h h2 far=true
   ·rw[if_pos hf]at ev;simp[done]at ev; obtain⟨_,_,rfl⟩:=ev;exact Qeg hc l e e2 h h2 hs hb
   ·rw[if_neg hf]at ev; simp[done]at ev
 | seq c d ihc ihd=>
  intro x e e1 h h1 ev hb;simp only[evC]at ev;cases h3:evC call lp fpol base ws c e h with
  | none=>rw[h3]at ev; simp[andThen]at ev
  | some p=>
   obtain⟨y,e2,h2⟩:=p;rw[h3]at ev;have k1:=ihc y e e2 h h2 h3 hb;cases y with
   | normal=>exact k1.trans (ihd x e2 e1 h2 h1 ev (Nat.le_trans hb k1.1.1))
   | exit id=>simp[andThen]at ev; obtain⟨_,_,rfl⟩:=ev; exact k1
   | ret=>simp[andThen]at ev; obtain⟨_,_,rfl⟩:=ev; exact k1
 | cond v c d ihc ihd=>
  intro x e e1 h h1 ev hb;simp only[evC,ifB]at ev;split at ev
  ·split at ev
   ·exact ihc x e e1 h h1 ev hb
   ·exact ihd x e e1 h h1 ev hb
  ·cases ev
 | block id c ihc=>
  intro x e e1 h h1 ev hb;simp only[evC]at ev;cases h3:evC call lp fpol base ws c e h with
  | none=>rw[h3]at ev; simp[inBlock]at ev
  | some p=>
   obtain⟨y,e2,h2⟩:=p;rw[h3]at ev;have k1:=ihc y e e2 h h2 h3 hb;cases y with
   | normal=>simp[inBlock]at ev; obtain⟨_,_,rfl⟩:=ev; exact k1
   | ret=>simp[inBlock]at ev; obtain⟨_,_,rfl⟩:=ev; exact k1
   | exit j=>
    simp only[inBlock]at ev;split at ev<;>(simp at ev; obtain⟨_,_,rfl⟩:=ev; exact k1)
 | loop keep c ihc=>
  intro x e e1 h h1 ev hb;simp only[evC]at ev;obtain⟨m,hm⟩:=hlp _ _ _ _ _ ev;clear ev
  induction m generalizing e h with
  | zero=>simp[rounds]at hm
  | succ m ih=>
   simp only[rounds]at hm;cases h3:evC call lp fpol base ws c (e.keep keep) h with
   | none=>rw[h3]at hm; simp[andThen]at hm
   | some p=>
    obtain⟨y,e2,h2⟩:=p;rw[h3]at hm;have k1:=ihc y _ e2 h h2 h3 hb;cases y with
    | normal=>exact k1.trans (ih e2 h2 (Nat.le_trans hb k1.1.1) hm)
    | exit id=>simp[andThen]at hm; obtain⟨_,_,rfl⟩:=hm; exact k1
    | ret=>simp[andThen]at hm; obtain⟨_,_,rfl⟩:=hm; exact k1
 | exit id=>intro x e e1 h h1 ev hb; simp[evC]at ev; obtain⟨_,_,rfl⟩:=ev; exact .refl _ _ _
 | ret=>intro x e e1 h h1 ev hb; simp[evC]at ev; obtain⟨_,_,rfl⟩:=ev; exact .refl _ _ _
 | forget keep c ihc=>
  intro x e e1 h h1 ev hb;simp only[evC]at ev;cases h3:evC call lp fpol base ws c e h with
  | none=>rw[h3]at ev; simp[Wv]at ev
  | some p=>
   obtain⟨y,e2,h2⟩:=p;rw[h3]at ev;simp[Wv]at ev; obtain⟨_,_,rfl⟩:=ev;exact ihc y e e2 h h2 h3 hb
end
def QmD (base:Nat)(f:AV->List (Nat×Nat)->H->Option (AV×List (Nat×Nat)×H)):Prop:=∀v acc h v' acc' h',f v acc h=some (v',acc',h')->h'.length=h.length/\ ∀k,k<base->h'[k]? =h[k]?
theorem QhF {base:Nat}{f:AV->List (Nat×Nat)->H->Option (AV×List (Nat×Nat)×H)}(hf:QmD base f): ∀{l acc h l' acc' h'},QiW f l acc h=some (l',acc',h')->h'.length=h.length/\ ∀k,k<base->h'[k]? =h[k]?
 | [],acc,h,l',acc',h',e=>by
  simp[QiW]at e;obtain⟨_,_,rfl⟩:=e;exact⟨rfl,fun _ _=>rfl⟩
 | v::l,acc,h,l',acc',h',e=>by
  unfold QiW at e;split at e
  ·rename_i e1;split at e
   ·rename_i e2;simp at e;obtain⟨_,_,rfl⟩:=e;obtain⟨a1,b1⟩:=hf _ _ _ _ _ _ e1;obtain⟨a2,b2⟩:=QhF hf e2;exact⟨a2.trans a1,fun k hk=>(b2 k hk).trans (b1 k hk)⟩
   ·cases e
  ·cases e
theorem Qnf (base:Nat):QmD base (Qpx base):=by
 intro v acc h v' acc' h' e;unfold Qpx at e;split at e
 ·split at e
  ·simp at e; obtain⟨_,_,rfl⟩:=e; exact⟨rfl,fun _ _=>rfl⟩
  ·split at e
   ·split at e
    ·split at e
     ·rename_i e1;split at e
      ·simp at e; obtain⟨_,_,rfl⟩:=e;obtain⟨a1,b1⟩:=JX (JV _ _) e1;exact⟨by simp[a1],fun k hk=>by rw[List.getElem?_set_ne (by omega)]; exact b1 k hk⟩
      ·cases e
     ·cases e
    ·cases e
   ·cases e
 ·split at e
  ·rename_i e1;simp at e; obtain⟨_,_,rfl⟩:=e;exact JV _ _ _ _ _ _ e1
  ·cases e
theorem Qne (base:Nat):QmD base (Qpw base):=by
 intro v acc h v' acc' h' e;unfold Qpw at e;split at e
 ·split at e
  ·rename_i e1;simp at e; obtain⟨_,_,rfl⟩:=e;exact QhF (Qnf base) e1
  ·cases e
 ·exact Qnf base _ _ _ _ _ _ e
theorem QhG (base:Nat):QmD base (Qpv base):=by
 intro v acc h v' acc' h' e;unfold Qpv at e;split at e
 ·split at e
  ·rename_i e1;simp at e; obtain⟨_,_,rfl⟩:=e;exact QhF (Qne base) e1
  ·cases e
 ·exact Qne base _ _ _ _ _ _ e
theorem Qsw {p:Pol}{h0 h h':H}{v r:AV}{ws:Nat}(e:leave p h0 v h=some (r,h'))(m:Qbi h0.length ws h0 h):Qbi h0.length ws h0 h':=by
 have cut: ∀(h1 bs:H),h1.length=h.length->(∀k,k<h0.length->h1[k]? =h[k]?)->Qbi h0.length ws h0 (h1.take h0.length++bs):=by
  intro h1 bs hl hs;have hl0:=m.1.1
  have hget: ∀k,k<h0.length->(h1.take h0.length++bs)[k]? =h[k]?:=fun k hk=>by
   rw[List.getElem?_append_left (by simp; omega),List.getElem?_take,if_pos hk]
   exact hs k hk
  exact⟨⟨by simp; omega,fun k hk ver sz els hb=>m.1.2 k hk ver sz els (by rw[←hget k hk]; exact hb)⟩,fun k hk hw=>(hget k hk).trans (m.2 k hk hw)⟩
 unfold leave at e;split at e
 ·split at e
  ·simp at e; obtain⟨_,rfl⟩:=e; exact .refl _ _ _
  ·cases e
 case' h_6=>simp at e; obtain⟨_,rfl⟩:=e; exact m
 all_goals
  split at e
  ·rename_i e1
   first
    | (simp at e; obtain⟨_,rfl⟩:=e
       obtain⟨a1,b1⟩:=JV _ _ _ _ _ _ e1;have:=cut _ [] a1 b1
       rwa[List.append_nil]at this)
    | (split at e
       ·simp at e; obtain⟨_,rfl⟩:=e;obtain⟨a1,b1⟩:=QhG _ _ _ _ _ _ _ e1;exact cut _ _ a1 b1
       ·cases e)
  ·cases e
end Go.Avm
