/- Operations that only read. -/
import Derived.Test.YtflbneepngjglaaGreatDoorO07
import Derived.Laws.BytesString
set_option linter.all false
namespace Go.Avm
open Go.RowKit
section
variable {P : Program} {w0 : World} {wr base ws : Nat} {β : Beta} {h h' : H} {w : World} {e : Env} {a : Act} {u : AV} {o : Oper}
theorem QmX {c p:Nat}{v:Value}(hv:(view wr β h w).M c p=some v):rdw w c p=some v:=(QoL hv).1
theorem BC.drop{rd:Nat->Nat->Option Value}{V:View}{c p:Nat}{l:List AV}(hb:BC rd V β c p l)(k:Nat):BC rd V β c (p+k) (l.drop k):=fun j x hj=>by
 rw[List.getElem?_drop]at hj
 rw[Nat.add_assoc];exact hb (k+j) x hj
theorem Qgf {x:AV}{l:List AV}{v:Value}(S:Sim w0 wr β h w)(hc:Yg h x=some l)(hr:Rel (view wr β h w) β x v):
    ∃c p,v= .pointer (some ⟨c,p,none⟩)/\BC (rdw w) (view wr β h w) β c p l:=by
 unfold Yg at hc;split at hc
 ·injection hc with hc; subst hc;unfold Rel at hr;obtain⟨c,p,rfl,hr⟩:=hr;exact⟨c,p,rfl,(ZQ.1 hr).mono (fun _ _ _ h=>QmX h) (View.Le.refl _) (Beta.Le.refl _)⟩
 ·rename_i b ver sz i o;split at hc
  ·rename_i v' z els hb;split at hc
   ·rename_i hv;obtain⟨rfl,rfl⟩:=hv;split at hc
    ·rename_i el hel;split at hc
     ·injection hc with hc; subst hc;unfold Rel at hr;obtain⟨c,h1,rfl⟩:=hr;obtain⟨_,_,hbe⟩:=S.arr b _ _ els c hb h1;have:=(hbe i el hel).2.drop o;rw[Nat.zero_add]at this;exact⟨c,_,rfl,this⟩
     ·cases hc
    ·cases hc
   ·cases hc
  ·cases hc
 ·cases hc
theorem QqV {t:TypeId}{sz:Nat}{ag:Bool}{c p:Nat}{l:List AV}{x:AV}(ha:QbU P t ag=true)(hz:JC P t sz=true)(hb:BC (rdw w) (view wr β h w) β c p l)(hl:ldc sz ag 0 l=some x):
    ∃v,(loadVar t ⟨c,p,none⟩).run P w= .ok v w/\Rel (view wr β h w) β x v:=by
 unfold ldc at hl;cases ag with
 | true=>
  simp only[if_true,Nat.zero_add,List.drop_zero]at hl;split at hl
  ·rename_i hle;injection hl with hl; subst hl
   have hrun:=run_loadCells (P:=P) w ⟨c,p,none⟩ sz (fun j=>(rdw w c (p+j)).getD undef) (fun j hj=>by
    obtain⟨v,h1,_⟩:=hb j (l[j]'(by omega)) (by simp)
    rw[Addr.add_lit,h1];exact h1)
   refine⟨_,by simp[loadVar,YO ha,JE hz,hrun]; rfl,?_⟩
   unfold Rel;refine⟨_,rfl,Qp.2 ⟨by simp; omega,fun j y hj=>?_⟩⟩
   rw[List.getElem?_take]at hj
   split at hj
   ·rename_i hj';obtain⟨v,h1,h2⟩:=hb j y hj;exact⟨v,by simp[hj',h1],h2⟩
   ·cases hj
  ·cases hl
 | false=>
  simp only[Bool.false_eq_true,if_false]at hl;obtain⟨v,h1,h2⟩:=hb 0 x hl;rw[Nat.add_zero]at h1;exact⟨v,by simp only[loadVar,Sem.run_bind,YO ha,Result.andThen_ok]; simp; unfold rdw at h1; simp[h1],h2⟩
theorem QBE {sz:Nat}{ag:Bool}{y:O}{x:Operand}{t:TypeId}(ho:o.op= .load t x)(hs:Qn x y=true)(ha:QbU P t ag=true)(hz:JC P t sz=true)(hE:Qo (view wr β h w) β e a.tmps)(S:Sim w0 wr β h w)
    (hev:evI base ws e h (.ld sz ag y)=some (u,h')):Xo P w0 wr β h w (execOp a.eval o) u h':=by
 dsimp only[evI]at hev;split at hev
 ·rename_i v hv;split at hev
  ·rename_i l hl;split at hev
   ·rename_i x' hx;simp at hev; obtain⟨rfl,rfl⟩:=hev;obtain⟨c,p,hp,hb⟩:=Qgf S hl (Qf hE hs hv);obtain⟨r,hrun,hr⟩:=QqV ha hz hb hx;refine .val (v:=r) ?_ S hr
    simp[execOp,ho,Instr.loadAt,hp,Instr.sureAddr,hrun]
   ·cases hev
  ·cases hev
 ·cases hev
theorem Qxd {y:O}{x:Operand}(ho:o.op= .nilCheck x)(hs:Qn x y=true)(hE:Qo (view wr β h w) β e a.tmps)(S:Sim w0 wr β h w)
    (hev:evI base ws e h (.nilc y)=some (u,h')):Xo P w0 wr β h w (execOp a.eval o) u h':=by
 dsimp only[evI]at hev;split at hev
 ·rename_i v hv;have hr:=Qf hE hs hv;split at hev
  ·simp at hev; obtain⟨rfl,rfl⟩:=hev;refine .val (v:=a.eval x) ?_ S hr
   unfold Rel at hr;obtain⟨c,_,hr⟩:=hr;simp[execOp,ho,hr]
  ·simp at hev; obtain⟨rfl,rfl⟩:=hev;refine .val (v:=a.eval x) ?_ S hr
   unfold Rel at hr;obtain⟨c,p,hr,_⟩:=hr;simp[execOp,ho,hr]
  ·simp at hev; obtain⟨rfl,rfl⟩:=hev;refine .val (v:=a.eval x) ?_ S hr
   unfold Rel at hr;obtain⟨vs,hr,_⟩:=hr;simp[execOp,ho,hr]
  ·cases hev
 ·cases hev
theorem XX (op:BinOp)(t:TypeId)(x y:Operand){v u:Value}(h1: ∀w:World,¬(v= .nilIface/\u= .nilIface))(h2: ∀cs ds,¬(v= .agg cs/\u= .agg ds))(w:World):(eqGuard op t x y v u).run P w= .ok () w:=by
 unfold eqGuard
 cases v<;>cases u<;>first
  | exact absurd ⟨rfl,rfl⟩ (h1 w)
  | exact absurd ⟨rfl,rfl⟩ (h2 _ _)
  | (cases op<;>rfl)
theorem Qwa {op:BinOp}{t:TypeId}{x y r:AV}{v1 v2:Value}(hb:QxP op x y=some r)(h1:Rel (view wr β h w) β x v1)(h2:Rel (view wr β h w) β y v2)(p q:Operand):
    ∃v,((do eqGuard op t p q v1 v2; binOp op t v1 v2:Sem Value)).run P w= .ok v w/\Rel (view wr β h w) β r v:=by
 unfold QxP at hb;split at hb
 ·rename_i k n k' m;unfold Rel at h1 h2;subst h1 h2;have hg:=XX (P:=P) op t p q (v:=.int k n) (u:=.int k' m) (fun _ h=>by cases h.1) (fun _ _ h=>by cases h.1) w
  simp only[Sem.run_bind,hg,Result.andThen_ok];cases op<;>simp only at hb<;>(try (split at hb; · cases hb))<;>(try (split at hb; · cases hb))<;>(try cases hb)
  all_goals try (injection hb with hb; subst hb)
  all_goals first
   | (rename_i hk hm; simp only[ne_eq,Decidable.not_not]at hk; subst hk; refine⟨_,?_,by unfold Rel; rfl⟩; simp[binOp,Op.intDiv,hm]; done)
   | (rename_i hk; simp only[ne_eq,Decidable.not_not]at hk; subst hk; refine⟨_,?_,by unfold Rel; rfl⟩; simp[binOp,Op.intArith,Op.intCmp,Op.intBits]; done)
   | (rename_i hm; refine⟨_,?_,by unfold Rel; rfl⟩; simp[binOp,Op.shift,hm]; done)
 ·rename_i s1 s2;unfold Rel at h1 h2;subst h1 h2;have hg:=XX (P:=P) op t p q (v:=.string s1) (u:=.string s2) (fun _ h=>by cases h.1) (fun _ _ h=>by cases h.1) w
  simp only[Sem.run_bind,hg,Result.andThen_ok];cases op<;>simp only at hb<;>(try (split at hb; rotate_left; · cases hb))<;>(try cases hb)
  all_goals try (injection hb with hb; subst hb)
  all_goals first
   | (rename_i hm; refine⟨_,?_,by unfold Rel; rfl⟩; have hm2: ¬((s1.size+s2.size:Nat):Int)>9223372036854775807:=by omega
      simp only[binOp,Op.stringOp,IntKind.max_i64]; rw[if_neg hm2]; rfl)
   | (refine⟨_,?_,by unfold Rel; rfl⟩; simp[binOp,Op.stringOp]; done)
 ·cases hb
theorem QyQ {op:BinOp}{t t':TypeId}{x y:Operand}{x' y':O}(ho:o.op= .binOp op t x y t')(hx:Qn x x'=true)(hy:Qn y y'=true)(hE:Qo (view wr β h w) β e a.tmps)(S:Sim w0 wr β h w)
    (hev:evI base ws e h (.bin op x' y')=some (u,h')):Xo P w0 wr β h w (execOp a.eval o) u h':=by
 dsimp only[evI]at hev;split at hev
 ·rename_i v1 v2 hv1 hv2;split at hev
  ·rename_i r hr;simp at hev; obtain⟨rfl,rfl⟩:=hev;obtain⟨v,hrun,hrel⟩:=Qwa (P:=P) (t:=t) hr (Qf hE hx hv1) (Qf hE hy hv2) x y;refine .val (v:=v) ?_ S hrel
   simp only[execOp,ho];simp only[Sem.run_bind]at hrun ⊢;rw[hrun]; rfl
  ·cases hev
 ·cases hev
theorem Qkd {V:View}{x:AV}{b:Bool}{v:Value}(hx:QcL x=some b)(hr:Rel V β x v): ∃q,v= .pointer q/\q.isNone=b:=by
 cases x<;>simp[QcL]at hx<;>subst hx<;>unfold Rel at hr
 ·exact⟨none,hr,rfl⟩
 ·obtain⟨c,_,hr⟩:=hr; exact⟨_,hr,rfl⟩
 ·obtain⟨c,_,hr,_⟩:=hr; exact⟨_,hr,rfl⟩
theorem QnD {V:View}{x:AV}{b:Bool}{v:Value}(hx:QnE x=some b)(hr:Rel V β x v):(b=true/\v= .nilFunc)\/(b=false/\ ∃f g c,v= .func f g c):=by
 cases x<;>simp[QnE]at hx<;>subst hx<;>unfold Rel at hr
 ·obtain⟨c,hr,_⟩:=hr; exact .inr ⟨rfl,_,_,_,hr⟩
 ·exact .inl ⟨rfl,hr⟩
theorem Qco {V:View}{x:AV}{b:Bool}{v:Value}(hx:QfZ x=some b)(hr:Rel V β x v):(b=true/\v= .nilIface)\/(b=false/\ ∃t y,v= .iface t y):=by
 cases x<;>simp[QfZ]at hx<;>subst hx<;>unfold Rel at hr
 ·exact .inl ⟨rfl,hr⟩
 ·obtain⟨y,hr,_⟩:=hr; exact .inr ⟨rfl,_,_,hr⟩
theorem Qag {t:TypeId}{x y:Value}{s:Bool}(hs: ∀d,(Op.equalIn (d+1) t x y).run P w= .ok s w):(Op.equal t x y).run P w= .ok s w:=hs 9999
theorem Qxz {k:EqK}{op:BinOp}{neg:Bool}{t:TypeId}{x y:AV}{r:Bool}{v1 v2:Value}{p q:Operand}(hop:op=if neg then .neq else .eql)(hk:QhW P t k=true)
    (hc:k= .ifc->(∃c,p= .const c)\/ ∃c,q= .const c) (hb:eqI k x y=some r) (h1:Rel (view wr β h w) β x v1) (h2:Rel (view wr β h w) β y v2):
    ((do eqGuard op t p q v1 v2; binOp op t v1 v2:Sem Value)).run P w= .ok (.bool (if neg then !r else r)) w:=by
 have fin: ∀(s:Bool),(Op.equal t v1 v2).run P w= .ok s w->(∀k n,v1≠ .int k n)->(∀k n,v1≠ .float k n)->(∀k m n,v1≠ .complex k m n)->(∀b,v1≠ .string b)->
      (eqGuard op t p q v1 v2).run P w= .ok () w->s=r->
      ((do eqGuard op t p q v1 v2; binOp op t v1 v2:Sem Value)).run P w= .ok (.bool (if neg then !r else r)) w:=by
  intro s hs hi hf hcx hst hg e;subst e;simp only[Sem.run_bind,hg,Result.andThen_ok];subst hop;cases neg
  ·have:binOp .eql t v1 v2=(do pure (.bool (←Op.equal t v1 v2))):=by
     cases v1<;>first | rfl | exact absurd rfl (hi _ _) | exact absurd rfl (hf _ _) | exact absurd rfl (hcx _ _ _) | exact absurd rfl (hst _)
   simp[this,hs]
  ·have:binOp .neq t v1 v2=(do pure (.bool (!(←Op.equal t v1 v2)))):=by
     cases v1<;>first | rfl | exact absurd rfl (hi _ _) | exact absurd rfl (hf _ _) | exact absurd rfl (hcx _ _ _) | exact absurd rfl (hst _)
   simp[this,hs]
 cases k with
 | bool=>
  simp only[eqI]at hb;split at hb
  ·rename_i b1 b2;injection hb with hb;unfold Rel at h1 h2;subst h1 h2
   have hu:P.underlying t=some .bool:=by
    simp only[QhW]at hk;split at hk
    ·assumption
    ·cases hk
   exact fin (b1 == b2) (Qag fun d=>by simp[Op.equalIn,run_underlying hu]) (fun _ _ h=>by cases h) (fun _ _ h=>by cases h) (fun _ _ _ h=>by cases h) (fun _ h=>by cases h)
    (XX _ _ _ _ (fun _ h=>by cases h.1) (fun _ _ h=>by cases h.1) w) hb
  ·cases hb
 | ptr=>
  have hu: ∃el i,P.underlying t=some (.pointer el)/\P.info? el=some i:=by
   simp only[QhW]at hk;split at hk
   ·rename_i el hu;obtain⟨i,hi⟩:=Option.isSome_iff_exists.1 hk;exact⟨_,i,hu,hi⟩
   ·cases hk
  obtain⟨el,inf,hu,hinf⟩:=hu;simp only[eqI]at hb;cases hx:QcL x with
  | none=>
   rw[hx]at hb;exfalso;cases x<;>simp[QcL]at hx<;>(cases hy:QcL y<;>rw[hy]at hb<;>simp at hb)
  | some bx=>
   cases hy:QcL y with
   | none=>
    rw[hx,hy]at hb;exfalso;cases y<;>simp[QcL]at hy<;>cases bx<;>simp at hb
   | some by_=>
    have same:(∃b v s i o,x= .ptr b v s i o/\y= .ptr b v s i o)\/bx=true\/by_=true:=by
     cases bx with
     | true=>exact .inr (.inl rfl)
     | false=>
      cases by_ with
      | true=>exact .inr (.inr rfl)
      | false=>
       rw[hx,hy]at hb;simp only at hb;split at hb
       ·split at hb
        ·rename_i hc;obtain⟨rfl,rfl,rfl,rfl,rfl⟩:=hc;exact .inl ⟨_,_,_,_,_,rfl,rfl⟩
        ·cases hb
       ·cases hb
    have eqv:bx=false->by_=false->v1=v2/\r=true:=fun hbx hby=>by
     rcases same with⟨b,v,s,i,o,rfl,rfl⟩ | h | h
     ·rw[hx]at hb;subst hbx;simp at hb;unfold Rel at h1 h2;obtain⟨c,hc,h1,_⟩:=h1;obtain⟨c',hc',h2,_⟩:=h2;rw[hc]at hc'; injection hc' with hc'; injection hc' with hc'; subst hc'
      first | exact⟨h1.trans h2.symm,hb.symm⟩ | exact⟨h1.trans h2.symm,hb⟩ | exact⟨rfl,hb⟩
     ·rw[h]at hbx; cases hbx
     ·rw[h]at hby; cases hby
    obtain⟨q1,rfl,e1⟩:=Qkd hx h1;obtain⟨q2,rfl,e2⟩:=Qkd hy h2;rw[hx,hy]at hb;have hg:=XX (P:=P) op t p q (v:=.pointer q1) (u:=.pointer q2) (fun _ h=>by cases h.1) (fun _ _ h=>by cases h.1) w
    have hr:(Op.equal t (.pointer q1) (.pointer q2)).run P w= .ok r w:=by
     cases q1 with
     | none=>
      simp at e1; subst e1;simp at hb; subst hb;exact Qag fun d=>by simp[Op.equalIn,run_underlying hu,e2]
     | some a1=>
      simp at e1; subst e1;cases q2 with
      | none=>
       simp at e2; subst e2;simp at hb; subst hb;exact Qag fun d=>by simp[Op.equalIn,run_underlying hu]
      | some a2=>
       simp at e2; subst e2;obtain⟨ev,er⟩:=eqv rfl rfl;injection ev with ev; injection ev with ev; subst ev; subst er;have hsz:(sizeOf el).run P w= .ok inf.size w:=by simp[sizeOf,typeInfo,hinf]
       exact Qag fun d=>by
        simp[Op.equalIn,run_underlying hu,hsz];intro _;simp[sameAddr]
    exact fin r hr (fun _ _ h=>by cases h) (fun _ _ h=>by cases h) (fun _ _ _ h=>by cases h) (fun _ h=>by cases h) hg rfl
 | fn=>
  have hu: ∃a b c,P.underlying t=some (.func a b c):=by
   simp only[QhW]at hk;split at hk
   ·exact⟨_,_,_,by assumption⟩
   ·cases hk
  obtain⟨_,_,_,hu⟩:=hu;simp only[eqI]at hb;cases hx:QnE x with
  | none=>rw[hx]at hb; cases hy:QnE y<;>rw[hy]at hb<;>simp at hb
  | some bx=>
   cases hy:QnE y with
   | none=>rw[hx,hy]at hb; cases bx<;>simp at hb
   | some by_=>
    rw[hx,hy]at hb;rcases QnD hx h1 with⟨rfl,rfl⟩ | ⟨rfl,f1,g1,c1,rfl⟩<;>rcases QnD hy h2 with⟨rfl,rfl⟩ | ⟨rfl,f2,g2,c2,rfl⟩<;>simp at hb<;>subst hb
    all_goals refine fin _ (Qag fun d=>by simp only[Op.equalIn,Sem.run_bind,run_underlying hu,Result.andThen_ok]; rfl) (fun _ _ h=>by cases h) (fun _ _ h=>by cases h) (fun _ _ _ h=>by cases h) (fun _ h=>by cases h) ?_ rfl
    all_goals exact XX _ _ _ _ (fun _ h=>by cases h.1) (fun _ _ h=>by cases h.1) w
 | ifc=>
  have hu: ∃a,P.underlying t=some (.interface a):=by
   simp only[QhW]at hk;split at hk
   ·exact⟨_,by assumption⟩
   ·cases hk
  obtain⟨_,hu⟩:=hu;simp only[eqI]at hb;cases hx:QfZ x with
  | none=>rw[hx]at hb; cases hy:QfZ y<;>rw[hy]at hb<;>simp at hb
  | some bx=>
   cases hy:QfZ y with
   | none=>rw[hx,hy]at hb; cases bx<;>simp at hb
   | some by_=>
    rw[hx,hy]at hb
    have hg:(eqGuard op t p q v1 v2).run P w= .ok () w:=by
     rcases Qco hx h1 with⟨_,rfl⟩ | ⟨_,t1,y1,rfl⟩
     ·rcases Qco hy h2 with⟨_,rfl⟩ | ⟨_,t2,y2,rfl⟩
      ·rcases hc rfl with⟨c,rfl⟩ | ⟨c,rfl⟩
       ·cases op<;>rfl
       ·cases op<;>cases p<;>rfl
      ·exact XX _ _ _ _ (fun _ h=>by cases h.2) (fun _ _ h=>by cases h.1) w
     ·exact XX _ _ _ _ (fun _ h=>by cases h.1) (fun _ _ h=>by cases h.1) w
    rcases Qco hx h1 with⟨rfl,rfl⟩ | ⟨rfl,t1,y1,rfl⟩<;>rcases Qco hy h2 with⟨rfl,rfl⟩ | ⟨rfl,t2,y2,rfl⟩<;>simp at hb<;>subst hb
    all_goals exact fin _ (Qag fun d=>by simp only[Op.equalIn,Sem.run_bind,run_underlying hu,Result.andThen_ok]; rfl) (fun _ _ h=>by cases h) (fun _ _ h=>by cases h) (fun _ _ _ h=>by cases h) (fun _ h=>by cases h) hg rfl
theorem QyO {k:EqK}{neg:Bool}{op:BinOp}{t t':TypeId}{x y:Operand}{x' y':O}(ho:o.op= .binOp op t x y t')(hop:op=if neg then .neq else .eql)(hk:QhW P t k=true)
    (hc:k= .ifc->(∃c,x= .const c)\/ ∃c,y= .const c) (hx:Qn x x'=true) (hy:Qn y y'=true) (hE:Qo (view wr β h w) β e a.tmps) (S:Sim w0 wr β h w)
    (hev:evI base ws e h (.eqk k neg x' y')=some (u,h')):Xo P w0 wr β h w (execOp a.eval o) u h':=by
 dsimp only[evI]at hev;split at hev
 ·rename_i v1 v2 hv1 hv2;split at hev
  ·rename_i r hr;simp at hev; obtain⟨rfl,rfl⟩:=hev;have hrun:=Qxz (P:=P) hop hk hc hr (Qf hE hx hv1) (Qf hE hy hv2);refine .val (v:=.bool (if neg then !r else r)) ?_ S (by unfold Rel; cases neg<;>simp)
   simp only[execOp,ho];simp only[Sem.run_bind]at hrun ⊢;rw[hrun]; rfl
  ·cases hev
 ·cases hev
theorem QBC {op:UnOp}{t:TypeId}{x:Operand}{x':O}(ho:o.op= .unOp op t x)(hx:Qn x x'=true)(hE:Qo (view wr β h w) β e a.tmps)(S:Sim w0 wr β h w)
    (hev:evI base ws e h (.un op x')=some (u,h')):Xo P w0 wr β h w (execOp a.eval o) u h':=by
 dsimp only[evI]at hev;split at hev
 ·rename_i v hv;split at hev
  ·rename_i r hr;simp at hev; obtain⟨rfl,rfl⟩:=hev;have hrel:=Qf hE hx hv;unfold unI at hr;split at hr
   ·injection hr with hr; subst hr;unfold Rel at hrel;refine .val (v:=.bool _) (by simp only[execOp,ho,hrel,Op.unary]; rfl) S (by unfold Rel; rfl)
   ·injection hr with hr; subst hr;unfold Rel at hrel;refine .val (v:=.int _ _) (by simp only[execOp,ho,hrel,Op.unary,Op.intArith]; rfl) S (by unfold Rel; rfl)
   ·cases hr
  ·cases hev
 ·cases hev
theorem Qxe {f:FuncId}{cap:List O}{first cap':Array Operand}(ho:o.op= .makeFunc (.func f) first cap'){k:Nat}(hf:first.size=k)(hc:XJ (first.toList++cap'.toList) cap=true)(hE:Qo (view wr β h w) β e a.tmps)(S:Sim w0 wr β h w)
    (hev:evI base ws e h (.mkfn f k cap)=some (u,h')):Xo P w0 wr β h w (execOp a.eval o) u h':=by
 dsimp only[evI]at hev;split at hev
 ·rename_i l hl;simp at hev; obtain⟨rfl,rfl⟩:=hev;have hr:=Qay hE hc hl;subst hf;refine .val (v:=.func (.func f) (first.map a.eval) (cap'.map a.eval)) (by simp[execOp,ho,Instr.makeFunc]) S ?_
  unfold Rel;refine⟨first.map a.eval++cap'.map a.eval,?_,by simpa using hr⟩
  have h1:(first.map a.eval++cap'.map a.eval).extract 0 first.size=first.map a.eval:=by apply Array.ext'; simp[List.take_of_length_le]
  have h2:(first.map a.eval++cap'.map a.eval).extract first.size (first.map a.eval++cap'.map a.eval).size=cap'.map a.eval:=by apply Array.ext'; simp[List.take_of_length_le,List.drop_of_length_le]
  rw[h1,h2]
 ·cases hev
theorem Qxi {off f:Nat}{x:Operand}{x':O}{s:TypeId}{fs:Array Field}{z:Field}{i:TypeInfo}(ho:o.op= .fieldAddr s x f)(hx:Qn x x'=true)(hs:P.underlying s=some (.struct fs))(hf:fs[f]? =some z)(hoff:z.offset=off)
    (hi:P.info? z.type=some i) (hz:i.size≠0) (hE:Qo (view wr β h w) β e a.tmps) (S:Sim w0 wr β h w)
    (hev:evI base ws e h (.fadr off x')=some (u,h')):Xo P w0 wr β h w (execOp a.eval o) u h':=by
 have run: ∀c p,(Instr.fieldAt s (.pointer (some ⟨c,p,none⟩)) f).run P w= .ok (.pointer (some ⟨c,p+off,none⟩)) w:=fun c p=>by
  simp[Instr.fieldAt,run_underlying hs,hf,Instr.sureAddr,fieldPlace,sizeOf,typeInfo,hi,hz,hoff,Addr.add_lit]
 dsimp only[evI]at hev;split at hev
 ·rename_i b ver sz i o hv;simp at hev; obtain⟨rfl,rfl⟩:=hev;have hr:=Qf hE hx hv;unfold Rel at hr;obtain⟨c,h1,h2⟩:=hr;exact .val (by simp[execOp,ho,h2,run]; rfl) S (by unfold Rel; exact⟨c,h1,by simp[Nat.add_assoc]⟩)
 ·rename_i l hv;split at hev
  ·simp at hev; obtain⟨rfl,rfl⟩:=hev;have hr:=Qf hE hx hv;unfold Rel at hr;obtain⟨c,p,h1,h2⟩:=hr;exact .val (by simp[execOp,ho,h1,run]; rfl) S (by unfold Rel; exact⟨c,p+off,rfl,ZQ.2 ((ZQ.1 h2).drop off)⟩)
  ·cases hev
 ·cases hev
theorem QyN {off sz f:Nat}{ag:Bool}{x:Operand}{x':O}{s t:TypeId}{fs:Array Field}{z:Field}(ho:o.op= .field s x f)(hx:Qn x x'=true)(hs:P.underlying s=some (.struct fs))(hf:fs[f]? =some z)(hoff:z.offset=off)
    (ht:z.type=t) (hsz:JC P t sz=true) (ha:QbU P t ag=true) (hE:Qo (view wr β h w) β e a.tmps) (S:Sim w0 wr β h w)
    (hev:evI base ws e h (.fld off sz ag x')=some (u,h')):Xo P w0 wr β h w (execOp a.eval o) u h':=by
 dsimp only[evI]at hev;split at hev
 ·rename_i l hv;split at hev
  ·rename_i r hr;simp at hev; obtain⟨rfl,rfl⟩:=hev;have hrel:=Qf hE hx hv;unfold Rel at hrel;obtain⟨vs,h1,h2⟩:=hrel;obtain⟨h3,h4⟩:=Qp.1 h2;unfold ldc at hr;cases ag with
   | true=>
    simp only[if_true]at hr;split at hr
    ·rename_i hle;injection hr with hr; subst hr;refine .val (v:=.agg (vs.extract off (off+sz))) (by simp[execOp,ho,h1,Instr.field,run_underlying hs,hf,asAgg,part,ht,YO ha,JE hsz,hoff]) S ?_
     unfold Rel;refine⟨_,rfl,Qp.2 ⟨by simp at h3 ⊢; omega,fun j y hj=>?_⟩⟩
     rw[List.getElem?_take]at hj
     split at hj
     ·rename_i hjs;rw[List.getElem?_drop]at hj
      obtain⟨v,h5,h6⟩:=h4 (off+j) y hj;refine⟨v,?_,h6⟩
      simp at h5;have hjl:off+j<vs.size:=(Array.getElem?_eq_some_iff.1 h5).1
      simp at h3;rw[Array.getElem?_toList,Array.getElem?_extract,if_pos (by omega)]
      exact h5
     ·cases hj
    ·cases hr
   | false=>
    simp only[Bool.false_eq_true,if_false]at hr;obtain⟨v,h5,h6⟩:=h4 off r hr;simp at h5;exact .val (v:=v) (by simp[execOp,ho,h1,Instr.field,run_underlying hs,hf,asAgg,part,ht,YO ha,hoff,h5]) S h6
  ·cases hev
 ·cases hev
theorem Qxg {n sz:Nat}{x i:Operand}{x' i':O}{t el:TypeId}(ho:o.op= .indexAddr t x i)(hx:Qn x x'=true)(hi:Qn i i'=true)(ht:P.underlying t=some (.array n el))(hsz:JC P el sz=true)(hE:Qo (view wr β h w) β e a.tmps)(S:Sim w0 wr β h w)
    (hev:evI base ws e h (.idxp n sz x' i')=some (u,h')):Xo P w0 wr β h w (execOp a.eval o) u h':=by
 have run: ∀c p k (m:Int),0<=m->m<n->(Instr.indexAt t (.pointer (some ⟨c,p,none⟩)) (.int k m)).run P w= .ok (.pointer (some ⟨c,p+m.toNat*sz,none⟩)) w:=fun c p k m h0 h1=>by
  simp[Instr.indexAt,run_underlying ht,asIntOf,Instr.sureAddr,h0,h1,JE hsz,Addr.add_lit]
 dsimp only[evI]at hev;split at hev
 ·rename_i v k m hv hn;have hr:=Qf hE hx hv;have hri:=Qf hE hi hn;unfold Rel at hri;split at hev
  ·rename_i hm;split at hev
   ·rename_i b ver sz' q o;simp at hev; obtain⟨rfl,rfl⟩:=hev;unfold Rel at hr;obtain⟨c,h1,h2⟩:=hr;exact .val (by simp[execOp,ho,h2,hri]; rw[run _ _ _ _ hm.1 hm.2]; rfl) S (by unfold Rel; exact⟨c,h1,by simp[Nat.add_assoc]⟩)
   ·rename_i l;split at hev
    ·simp at hev; obtain⟨rfl,rfl⟩:=hev;unfold Rel at hr;obtain⟨c,p,h1,h2⟩:=hr;exact .val (by simp[execOp,ho,h1,hri]; rw[run _ _ _ _ hm.1 hm.2]; rfl) S (by unfold Rel; exact⟨c,p+m.toNat*sz,rfl,ZQ.2 ((ZQ.1 h2).drop _)⟩)
    ·cases hev
   ·cases hev
  ·cases hev
 ·cases hev
theorem QuI {V:View}{l:List AV}{vs:Array Value}{off sz:Nat}{ag:Bool}{t:TypeId}{r:AV}(h2:Qr V β l vs.toList)(hsz:JC P t sz=true)(ha:QbU P t ag=true)(hr:ldc sz ag off l=some r):
    ∃v,(part t vs off).run P w= .ok v w/\Rel V β r v:=by
 obtain⟨h3,h4⟩:=Qp.1 h2;unfold ldc at hr;cases ag with
 | true=>
  simp only[if_true]at hr;split at hr
  ·rename_i hle;injection hr with hr; subst hr;refine⟨.agg (vs.extract off (off+sz)),by simp[part,YO ha,JE hsz],?_⟩
   unfold Rel;refine⟨_,rfl,Qp.2 ⟨by simp at h3 ⊢; omega,fun j y hj=>?_⟩⟩
   rw[List.getElem?_take]at hj
   split at hj
   ·rename_i hjs;rw[List.getElem?_drop]at hj
    obtain⟨v,h5,h6⟩:=h4 (off+j) y hj;refine⟨v,?_,h6⟩
    simp at h5;have hjl:off+j<vs.size:=(Array.getElem?_eq_some_iff.1 h5).1
    simp at h3;rw[Array.getElem?_toList,Array.getElem?_extract,if_pos (by omega)]
    exact h5
   ·cases hj
  ·cases hr
 | false=>
  simp only[Bool.false_eq_true,if_false]at hr;obtain⟨v,h5,h6⟩:=h4 off r hr;simp at h5;exact⟨v,by simp[part,YO ha,h5],h6⟩
theorem Qxf {n sz:Nat}{ag:Bool}{x i:Operand}{x' i':O}{t el:TypeId}(ho:o.op= .index t x i)(hx:Qn x x'=true)(hi:Qn i i'=true)(ht:P.underlying t=some (.array n el))(hsz:JC P el sz=true)(ha:QbU P el ag=true)(hE:Qo (view wr β h w) β e a.tmps)(S:Sim w0 wr β h w)
    (hev:evI base ws e h (.idxv n sz ag x' i')=some (u,h')):Xo P w0 wr β h w (execOp a.eval o) u h':=by
 dsimp only[evI]at hev;split at hev
 ·rename_i l k m hv hn;have hr:=Qf hE hx hv;have hri:=Qf hE hi hn;unfold Rel at hri hr;obtain⟨vs,h1,h2⟩:=hr;split at hev
  ·rename_i hm;split at hev
   ·rename_i r hr;simp at hev; obtain⟨rfl,rfl⟩:=hev;obtain⟨v,h3,h4⟩:=QuI (P:=P) (w:=w) h2 hsz ha hr;refine .val (v:=v) ?_ S h4
    have run:(Instr.index t (.agg vs) (.int k m)).run P w= .ok v w:=by
     simp[Instr.index,run_underlying ht,asIntOf,hm.1,hm.2,JE hsz,h3]
    simp[execOp,ho,h1,hri,run]
   ·cases hev
  ·cases hev
 ·cases hev
theorem Qxh {sz:Nat}{x i:Operand}{x' i':O}{t el:TypeId}(ho:o.op= .indexAddr t x i)(hx:Qn x x'=true)(hi:Qn i i'=true)(ht:P.underlying t=some (.slice el))(hsz:JC P el sz=true)(hE:Qo (view wr β h w) β e a.tmps)(S:Sim w0 wr β h w)
    (hev:evI base ws e h (.idxa sz x' i')=some (u,h')):Xo P w0 wr β h w (execOp a.eval o) u h':=by
 have run: ∀c p (n:Nat) cap k (m:Int),0<=m->m<n->(Instr.indexAt t (.slice (some ⟨c,p,none⟩) n cap) (.int k m)).run P w= .ok (.pointer (some ⟨c,p+m.toNat*sz,none⟩)) w:=fun c p n cap k m h0 h1=>by
  simp[Instr.indexAt,run_underlying ht,asIntOf,h0,h1,JE hsz,Addr.add_lit]
 dsimp only[evI]at hev;split at hev
 ·rename_i v k n hv hn;have hr:=Qf hE hx hv;have hri:=Qf hE hi hn;unfold Rel at hri;split at hev
  ·rename_i hn0;split at hev
   ·rename_i l;split at hev
    ·rename_i elx hel;split at hev
     ·rename_i hcl;simp at hev; obtain⟨rfl,rfl⟩:=hev;unfold Rel at hr;obtain⟨a1,cap,h1,h2,h3⟩:=hr;have hlt:n.toNat<l.length:=(List.getElem?_eq_some_iff.1 hel).1
      rcases h3 with rfl | ⟨c,p,z,rfl,h3⟩
      ·simp at hlt
      ·have hb:=(Zx.1 h3) _ _ hel;have hzz:z=sz:=hb.1.symm.trans hcl;subst hzz;refine .val (by simp[execOp,ho,h1,hri]; rw[run _ _ _ _ _ _ hn0 (by omega)]; rfl) S ?_
       unfold Rel;exact⟨c,_,rfl,ZQ.2 hb.2⟩
     ·cases hev
    ·cases hev
   ·rename_i b ver sz' off len;split at hev
    ·rename_i hc;obtain⟨rfl,hlt⟩:=hc;simp at hev; obtain⟨rfl,rfl⟩:=hev;unfold Rel at hr;rcases hr with⟨c,cap,h1,h2,h3,h4⟩ | ⟨_,h2,_⟩
     ·refine .val (by simp[execOp,ho,h2,hri]; rw[run _ _ _ _ _ _ hn0 (by omega)]; rfl) S ?_
      unfold Rel;exact⟨c,h1,by simp[Nat.add_mul]⟩
     ·omega
    ·cases hev
   ·cases hev
  ·cases hev
 ·cases hev
theorem QyM {x i:Operand}{x' i':O}{t:TypeId}(ho:o.op= .index t x i)(hx:Qn x x'=true)(hi:Qn i i'=true)(ht:P.underlying t=some .string)(hE:Qo (view wr β h w) β e a.tmps)(S:Sim w0 wr β h w)
    (hev:evI base ws e h (.idx x' i')=some (u,h')):Xo P w0 wr β h w (execOp a.eval o) u h':=by
 dsimp only[evI]at hev;split at hev
 ·rename_i s k n hv hn;have hr:=Qf hE hx hv;have hri:=Qf hE hi hn;unfold Rel at hr hri;split at hev
  ·rename_i hn0;split at hev
   ·rename_i b hb;simp at hev; obtain⟨rfl,rfl⟩:=hev;refine .val (v:=.int .u8 b.toNat) ?_ S (by unfold Rel; rfl)
    have hlt:n.toNat<s.size:=by have:=(List.getElem?_eq_some_iff.1 hb).1; simpa using this
    have hb2:s[n.toNat]? =some b:=by
     rw[ByteArray.getElem?_lt' s _ hlt]
     rw[List.getElem?_eq_getElem (by simpa using hlt)]at hb
     injection hb with hb;rw[←hb]; rfl
    simp[execOp,ho,hr,hri,Instr.index,asIntOf,run_underlying ht,hn0,hb2]
   ·cases hev
  ·cases hev
 ·cases hev
theorem Qxa {i:Nat}{x:Operand}{x':O}(ho:o.op= .extract x i)(hx:Qn x x'=true)(hE:Qo (view wr β h w) β e a.tmps)(S:Sim w0 wr β h w)
    (hev:evI base ws e h (.tupx x' i)=some (u,h')):Xo P w0 wr β h w (execOp a.eval o) u h':=by
 dsimp only[evI]at hev;split at hev
 ·rename_i l hv;split at hev
  ·rename_i r hr;simp at hev; obtain⟨rfl,rfl⟩:=hev;have hrel:=Qf hE hx hv;unfold Rel at hrel;obtain⟨vs,h1,h2⟩:=hrel;obtain⟨v,h3,h4⟩:=(Qp.1 h2).2 i r hr;simp at h3;exact .val (v:=v) (by simp[execOp,ho,h1,Instr.extract,h3]) S h4
  ·cases hev
 ·cases hev
theorem QyL {s:Bool}{x:Operand}{x':O}{c:Call}{t:TypeId}(ho:o.op= .call c)(hc:c.callee= .builtin .len)(ha:c.args.toList=[x])(htt: ∃r,c.argTypes.toList=t::r)(hx:Qn x x'=true)
    (ht:if s then P.underlying t=some .string else∃el,P.underlying t=some (.slice el)) (hE:Qo (view wr β h w) β e a.tmps) (S:Sim w0 wr β h w)
    (hev:evI base ws e h (.len s x')=some (u,h')):Xo P w0 wr β h w (execOp a.eval o) u h':=by
 obtain⟨r,htt⟩:=htt;have hargs:c.args= #[x]:=by apply Array.ext'; simpa using ha
 have hat:c.argTypes[0]? =some t:=by rw[←Array.getElem?_toList,htt]; rfl
 have run: ∀v n,(Builtin.len_ c.argTypes o.type #[v]).run P w= .ok (goInt n) w->a.eval x=v->(execOp a.eval o).run P w= .ok (.value (.int .i64 n)) w:=by
  intro v n h1 h2;simp[execOp,ho,resolve,hc,hargs,invoke,builtin,h2,h1,goInt]
 dsimp only[evI]at hev;split at hev
 ·rename_i str hv;split at hev
  ·rename_i hs;subst hs;simp at hev; obtain⟨rfl,rfl⟩:=hev;have hr:=Qf hE hx hv;unfold Rel at hr;simp at ht;exact .val (run _ _ (by simp[Builtin.len_,hat,run_underlying ht]; rfl) hr) S (by unfold Rel; rfl)
  ·cases hev
 ·rename_i hv;split at hev
  ·cases hev
  ·rename_i hs;simp at hs; subst hs;simp at hev; obtain⟨rfl,rfl⟩:=hev;have hr:=Qf hE hx hv;unfold Rel at hr;obtain⟨q,hr⟩:=hr;simp at ht;obtain⟨el,ht⟩:=ht;exact .val (run _ _ (by simp[Builtin.len_,hat,run_underlying ht]; rfl) hr) S (by unfold Rel; rfl)
 ·rename_i hv;split at hev
  ·cases hev
  ·rename_i hs;simp at hs; subst hs;simp at hev; obtain⟨rfl,rfl⟩:=hev;have hr:=Qf hE hx hv;unfold Rel at hr;simp at ht;obtain⟨el,ht⟩:=ht;exact .val (run _ _ (by simp[Builtin.len_,hat,run_underlying ht]; rfl) hr.2) S (by unfold Rel; rfl)
 ·rename_i l hv;split at hev
  ·cases hev
  ·rename_i hs;simp at hs; subst hs;simp at hev; obtain⟨rfl,rfl⟩:=hev;have hr:=Qf hE hx hv;unfold Rel at hr;obtain⟨q,cap,hr,_⟩:=hr;simp at ht;obtain⟨el,ht⟩:=ht;exact .val (run _ _ (by simp[Builtin.len_,hat,run_underlying ht]; rfl) hr) S (by unfold Rel; rfl)
 ·rename_i b ver sz off len hv;split at hev
  ·cases hev
  ·rename_i hs;simp at hs; subst hs;simp at hev; obtain⟨rfl,rfl⟩:=hev;have hr:=Qf hE hx hv;unfold Rel at hr;simp at ht;obtain⟨el,ht⟩:=ht
   have: ∃q cap,a.eval x= .slice q len cap:=by
    rcases hr with⟨_,cap,_,hr,_⟩ | ⟨_,rfl,_,q,hr⟩
    ·exact⟨_,cap,hr⟩
    ·exact⟨q,0,hr⟩
   obtain⟨q,cap,hr⟩:=this;exact .val (run _ _ (by simp[Builtin.len_,hat,run_underlying ht]; rfl) hr) S (by unfold Rel; rfl)
 ·cases hev
theorem QuO {mx:Bool}{x y:Operand}{x' y':O}{c:Call}(ho:o.op= .call c)(hc:c.callee= .builtin (if mx then .max else .min))(ha:c.args.toList=[x,y])(hx:Qn x x'=true)(hy:Qn y y'=true)
    (hE:Qo (view wr β h w) β e a.tmps) (S:Sim w0 wr β h w)
    (hev:evI base ws e h (.mnx mx x' y')=some (u,h')):Xo P w0 wr β h w (execOp a.eval o) u h':=by
 have hargs:c.args= #[x,y]:=by apply Array.ext'; simpa using ha
 dsimp only[evI]at hev;split at hev
 ·rename_i k n k' m hv1 hv2;simp at hev; obtain⟨rfl,rfl⟩:=hev;have h1:=Qf hE hx hv1;have h2:=Qf hE hy hv2;unfold Rel at h1 h2;cases mx
  ·refine .val (v:=.int k (if m<n then m else n)) ?_ S (by unfold Rel; simp)
   simp[execOp,ho,resolve,hc,hargs,invoke,builtin,h1,h2,Builtin.min_,Builtin.min2]
  ·refine .val (v:=.int k (if m>n then m else n)) ?_ S (by unfold Rel; simp)
   simp[execOp,ho,resolve,hc,hargs,invoke,builtin,h1,h2,Builtin.max_,Builtin.max2]
 ·cases hev
end
end Go.Avm
