/- A call: its arguments, its body, what it hands back. -/
import Derived.Test.YtflbneepngjglaaGreatDoorO06
import Derived.Test.YtflbneepngjglaaGreatDoorO15
import Derived.Laws.Sem
set_option linter.all false
namespace Go.Avm
open Go.RowKit
section
variable {P : Program} {w0 : World} {wr : Nat} {β : Beta} {w : World} {h : H}
theorem QuW {V:View}: ∀(x:AV) (v:Value),Rel V β x v->Rel V β (norm x) v:=by
 have one: ∀(x:AV) (v:Value) (y:AV),Rel V β x v->(match x with | .esl=>.isl [] | v=>v)=y->Rel V β y v:=by
  intro x v y hr hy;subst hy;split
  ·unfold Rel at*;obtain⟨a,rfl⟩:=hr;exact⟨a,0,rfl,by simp,.inl rfl⟩
  ·exact hr
 intro x v hr;unfold norm;split
 ·unfold Rel at*;obtain⟨a,rfl⟩:=hr;exact⟨a,0,rfl,by simp,.inl rfl⟩
 ·rename_i l;unfold Rel at hr ⊢;obtain⟨vs,rfl,hr⟩:=hr;refine⟨vs,rfl,?_⟩
  obtain⟨h1,h2⟩:=Qp.1 hr;refine Qp.2 ⟨by simpa using h1,fun j y hj=>?_⟩
  rw[List.getElem?_map]at hj
  cases hl:l[j]? with
  | none=>rw[hl]at hj; simp at hj
  | some z=>
   rw[hl]at hj;simp only[Option.map_some,Option.some.injEq]at hj;obtain⟨u,h3,h4⟩:=h2 j z hl;exact⟨u,h3,one z u y h4 hj⟩
 ·exact hr
theorem Qsp {V:View}{l:List AV}{vs:List Value}(hr:Qr V β l vs):Qr V β (l.map norm) vs:=by
 obtain⟨h1,h2⟩:=Qp.1 hr;refine Qp.2 ⟨by simpa using h1,fun j y hj=>?_⟩
 rw[List.getElem?_map]at hj
 cases hl:l[j]? with
 | none=>rw[hl]at hj; simp at hj
 | some z=>
  rw[hl]at hj;simp only[Option.map_some,Option.some.injEq]at hj;obtain⟨u,h3,h4⟩:=h2 j z hl;exact⟨u,h3,hj▸QuW z u h4⟩
theorem Qck {wr:Nat}(hl:h.length<=wr)(c:Nat): ¬Live wr β h c:=fun⟨b,v,h1,h2,_⟩=>by
 have:=QlM h2; omega
theorem QgT {wr':Nat}(hl:h.length<=wr'):(view wr β h w).Le (view wr' β h w):=ZV fun c hc=>absurd hc (Qck hl c)
theorem Qwt {wr':Nat}(S:Sim w0 wr β h w)(hl:h.length<=wr'):Sim w0 wr' β h w:=
 ⟨S.below,S.dom,S.domv,S.inj,fun b v sz els c h1 h2=>by
  obtain⟨h3,h4,h5⟩:=S.arr b v sz els c h1 h2;exact⟨h3,h4,h5.mono (fun _ _ h=>h) (QgT hl) (Beta.Le.refl _)⟩,fun b x v c h1 h2 h3=>(S.oth b x v c h1 h2 h3).mono rfl (QgT hl) (Beta.Le.refl _),S.tyd,S.old,S.oldd⟩
theorem QCS {wr':Nat}(hl:h.length<=wr'){c o:Nat}{v:Value}(hr:rdw w c o=some v):(view wr' β h w).M c o=some v:=WN hr (Qck hl c)
theorem Qrs {V:View}{rd:Nat->Nat->Option Value}{f:AV->Option AV}(hf: ∀x x' v,f x=some x'->Rel (view wr β h w) β x v->Rel V β x' v)(hM: ∀c o v,rd c o=some v->V.M c o=some v){c:Nat}: ∀{l l':List AV} {o:Nat},QH f l=some l'->BC rd (view wr β h w) β c o l->XR V β c o l'
 | [],l',o,e,_=>by simp[QH]at e; subst e; unfold XR; trivial
 | x::l,l',o,e,hb=>by
  unfold QH at e;split at e
  ·rename_i x' r h1 h2;injection e with e; subst e;unfold XR;obtain⟨v,h3,h4⟩:=hb 0 x rfl;refine⟨⟨v,hM _ _ _ (by simpa using h3),hf x x' v h1 h4⟩,Qrs hf hM h2 fun j y hj=>?_⟩
   have:=hb (j+1) y (by simpa using hj)
   rwa[Nat.add_assoc,Nat.add_comm 1 j]
  ·cases e
theorem Qce {V:View}{f:AV->Option AV}(hf: ∀x x' v,f x=some x'->Rel (view wr β h w) β x v->Rel V β x' v): ∀{l l':List AV} {vs:List Value},QH f l=some l'->Qr (view wr β h w) β l vs->Qr V β l' vs
 | [],l',vs,e,hr=>by simp[QH]at e; subst e; unfold Qr at*; exact hr
 | x::l,l',vs,e,hr=>by
  unfold QH at e;split at e
  ·rename_i x' r h1 h2;injection e with e; subst e;unfold Qr at*;obtain⟨v,q,h3,h4,h5⟩:=hr;exact⟨v,q,h3,hf x x' v h1 h4,Qce hf h2 h5⟩
  ·cases e
theorem QbY {f:AV->Option AV}: ∀{l l':List AV},QH f l=some l'->l'.length=l.length
 | [],l',e=>by simp[QH]at e; subst e; rfl
 | x::l,l',e=>by
  unfold QH at e;split at e
  ·rename_i h2;injection e with e; subst e;simp[QbY h2]
  ·cases e
theorem Qhd {n:Nat}{x x':AV}(e:snap h n x=some x'):Shape x x':=by
 cases n with
 | zero=>
  unfold snap at e;split at e
  ·injection e with e; subst e; exact Shape.refl _
  ·cases e
 | succ n=>
  unfold snap at e;split at e
  ·injection e with e; subst e; exact Shape.refl _
  ·split at e
   ·cases hs:QH (snap h n) ‹_› with
    | none=>rw[hs]at e; simp at e
    | some l'=>rw[hs]at e; simp at e; subst e; exact .inl ⟨_,_,rfl,rfl,(QbY hs).symm⟩
   ·cases hs:QH (snap h n) ‹_› with
    | none=>rw[hs]at e; simp at e
    | some l'=>rw[hs]at e; simp at e; subst e; exact .inr ⟨fun _ h=>(by cases h),fun _ h=>(by cases h)⟩
   ·injection e with e; subst e; exact .inr ⟨fun _ h=>(by cases h),fun _ h=>(by cases h)⟩
   ·split at e
    ·cases hs:QH (snap h n) ‹_› with
     | none=>rw[hs]at e; simp at e
     | some l'=>rw[hs]at e; simp at e; subst e; exact .inr ⟨fun _ h=>(by cases h),fun _ h=>(by cases h)⟩
    ·cases e
   ·split at e
    ·split at e
     ·split at e
      ·split at e
       ·cases hs:QH (snap h n) _ with
        | none=>rw[hs]at e; simp at e
        | some l'=>rw[hs]at e; simp at e; subst e; exact .inr ⟨fun _ h=>(by cases h),fun _ h=>(by cases h)⟩
       ·cases e
      ·cases e
     ·cases e
    ·cases e
   ·cases hs:QH (snap h n) ‹_› with
    | none=>rw[hs]at e; simp at e
    | some l'=>rw[hs]at e; simp at e; subst e; exact .inr ⟨fun _ h=>(by cases h),fun _ h=>(by cases h)⟩
   ·cases e
theorem Qml {V:View}{rd:Nat->Nat->Option Value}{f:AV->Option AV}(hf: ∀x x' v,f x=some x'->Rel (view wr β h w) β x v->Rel V β x' v)(hsh: ∀x x',f x=some x'->Shape x x')(hM: ∀c o v,rd c o=some v->V.M c o=some v){c sz:Nat}: ∀{l l':List AV} {o:Nat},QH f l=some l'->BE rd (view wr β h w) β c o sz l->Qi V β c o sz l'
 | [],l',o,e,_=>by simp[QH]at e; subst e; unfold Qi; trivial
 | x::l,l',o,e,hb=>by
  unfold QH at e;split at e
  ·rename_i x' r h1 h2;injection e with e; subst e;rw[QfJ];have hb0:=hb 0 x rfl;simp only[Nat.zero_mul,Nat.add_zero]at hb0;obtain⟨y,hy,hback⟩:=Qoa hb0.2;have hsx:=hsh x x' h1;have hr:=hf x x' y h1 hy;refine⟨hsx.len.trans hb0.1,?_,Qml hf hsh hM h2 fun i z hi=>?_⟩
   ·exact ZQ.2 ((hback _ _ x' hr hsx).mono (fun _ _ _ h=>hM _ _ _ h) (View.Le.refl _) (Beta.Le.refl _))
   ·have:=hb (i+1) z (by simpa using hi)
    refine⟨this.1,?_⟩
    have h5:=this.2
    rwa[Nat.succ_mul,Nat.add_comm (i*sz) sz,←Nat.add_assoc]at h5
  ·cases e
theorem QtL (S:Sim w0 wr β h w): ∀(n:Nat) (x x':AV) (v:Value),snap h n x=some x'->Rel (view wr β h w) β x v->Rel (view h.length β h w) β x' v:=by
 have hV:(view wr β h w).Le (view h.length β h w):=QgT (Nat.le_refl _);have hM: ∀c o v,rdw w c o=some v->(view h.length β h w).M c o=some v:=fun c o v hr=>QCS (Nat.le_refl _) hr
 have hM2: ∀c o v,(view wr β h w).M c o=some v->(view h.length β h w).M c o=some v:=hV.M;intro n
 induction n with
 | zero=>
  intro x x' v e hr;unfold snap at e;split at e
  ·injection e with e; subst e; exact hr.to hV (Beta.Le.refl _)
  ·cases e
 | succ n ih=>
  intro x x' v e hr;unfold snap at e;split at e
  ·injection e with e; subst e; exact hr.to hV (Beta.Le.refl _)
  ·split at e
   ·rename_i l _;cases hs:QH (snap h n) l with
    | none=>rw[hs]at e; simp at e
    | some l'=>
     rw[hs]at e; simp at e; subst e;unfold Rel at hr ⊢;obtain⟨vs,rfl,hr⟩:=hr;exact⟨vs,rfl,Qce ih hs hr⟩
   ·rename_i l _;cases hs:QH (snap h n) l with
    | none=>rw[hs]at e; simp at e
    | some l'=>
     rw[hs]at e; simp at e; subst e;unfold Rel at hr ⊢;obtain⟨a,cap,h1,h2,h3⟩:=hr;have hl:=QbY hs;refine⟨a,cap,by rw[hl]; exact h1,by rw[hl]; exact h2,?_⟩
     rcases h3 with rfl | ⟨c,o,sz,h3,h4⟩
     ·simp[QH]at hs; exact .inl hs
     ·exact .inr ⟨c,o,sz,h3,Qml ih (fun _ _=>Qhd) hM2 hs (Zx.1 h4)⟩
   ·injection e with e; subst e;unfold Rel at hr ⊢;obtain⟨a,rfl⟩:=hr;exact⟨a,0,rfl,by simp,.inl rfl⟩
   ·rename_i b ver sz off len _;split at e
    ·rename_i els hlook;obtain⟨els0,hb,hle,rfl⟩:=Qcj hlook;cases hs:QH (snap h n) ((els0.drop off).take len)with
     | none=>rw[hs]at e; simp at e
     | some l'=>
      rw[hs]at e; simp at e; subst e;have hl:l'.length=len:=by rw[QbY hs]; simp; omega
      unfold Rel at hr ⊢;rcases hr with⟨c,cap,h1,h2,h3,h4⟩ | ⟨h1,h2,_,q,h3⟩
      ·obtain⟨_,_,hbe⟩:=S.arr b ver sz els0 c hb h1;exact⟨_,cap,by rw[hl]; exact h2,by rw[hl]; exact h3,.inr ⟨c,off*sz,sz,rfl,Qml ih (fun _ _=>Qhd) hM hs (hbe.part off len)⟩⟩
      ·subst h2;exact⟨q,0,by rw[hl]; exact h3,by rw[hl]; exact Nat.le_refl _,.inl (List.eq_nil_of_length_eq_zero hl)⟩
    ·cases e
   ·rename_i b ver sz i o _;split at e
    ·rename_i v0 z els hb;split at e
     ·rename_i hc;obtain⟨rfl,rfl⟩:=hc;split at e
      ·rename_i el hel;split at e
       ·rename_i ho;cases hs:QH (snap h n) (el.cells.drop o)with
        | none=>rw[hs]at e; simp at e
        | some l'=>
         rw[hs]at e; simp at e; subst e;unfold Rel at hr ⊢;obtain⟨c,h1,rfl⟩:=hr;obtain⟨_,_,hbe⟩:=S.arr b v0 z els c hb h1;have h2:=(hbe i el hel).2.drop o;rw[Nat.zero_add]at h2;exact⟨c,_,rfl,Qrs ih hM hs h2⟩
       ·cases e
      ·cases e
     ·cases e
    ·cases e
   ·rename_i f l _;cases hs:QH (snap h n) l with
    | none=>rw[hs]at e; simp at e
    | some l'=>
     rw[hs]at e; simp at e; subst e;unfold Rel at hr ⊢;obtain⟨vs,rfl,hr⟩:=hr;exact⟨vs,rfl,Qce ih hs hr⟩
   ·cases e
theorem QiI : ∀(l:List AV) (k n:Nat) (x:AV),(Jt k l).get n=some x->k<=n/\l[n-k]? =some x
 | [],k,n,x,h=>by simp[Jt,Env.get]at h
 | v::l,k,n,x,h=>by
  simp only[Jt,Env.get]at h;split at h
  ·rename_i hk;subst hk;injection h with h; subst h;exact⟨Nat.le_refl _,by simp⟩
  ·rename_i hk;obtain⟨h1,h2⟩:=QiI l (k+1) n x h;refine⟨by omega,?_⟩
   rw[show n-k=(n-(k+1))+1 by omega]
   simpa using h2
theorem QiH {V:View}{l:List AV}{vs:Array Value}(hr:Qr V β l vs.toList)(rest:Array Value):Qo V β (Jt 0 l) (vs++rest):=fun n x hx=>by
 obtain⟨_,h1⟩:=QiI l 0 n x hx;obtain⟨h2,h3⟩:=Qp.1 hr;obtain⟨u,h4,h5⟩:=h3 n x (by simpa using h1)
 refine⟨u,?_,h5⟩
 have hn:n<vs.size:=by have:=(List.getElem?_eq_some_iff.1 h4).1; simpa using this
 rw[Array.getElem?_append_left hn]
 simpa using h4
def QdU (P:Program):List R1->List ResultVar->Bool
 | [],rs=>rs.isEmpty
 | .t n::l,rs=>(match rs with | .tmp m::r=>n == m&&QdU P l r | _=>false)
 | .cell n sz ag::l,rs=>(match rs with | .cell m t::r=>n == m&&JC P t sz&&QbU P t ag&&QdU P l r | _=>false)
theorem QeK {e:Env}{tmps:Array Value}(hE:Qo (view wr β h w) β e tmps)(S:Sim w0 wr β h w): ∀{l:List R1} {rs:List ResultVar} {us:List AV},QdU P l rs=true->Qbq e h l=some us->
    ∃vs,(rs.mapM (m:=Sem) fun
     | .tmp t=>pure (tmps.getD t undef)
     | .cell a t=>do loadVar t (←asAddr (tmps.getD a undef))).run P w= .ok vs w/\Qr (view wr β h w) β us vs
 | [],rs,us,hi,e1=>by
  simp[QdU]at hi; subst hi;simp[Qbq]at e1; subst e1;exact⟨[],by simp,by unfold Qr; rfl⟩
 | .t n::l,rs,us,hi,e1=>by
  simp only[QdU]at hi;split at hi
  ·rename_i m r;obtain⟨h1,h2⟩:=QK hi;have h1:n=m:=by simpa using h1
   subst h1;unfold Qbq at e1;split at e1
   ·rename_i x us' hx hus;injection e1 with e1; subst e1;obtain⟨vs,h3,h4⟩:=QeK hE S h2 hus;obtain⟨v,h5,h6⟩:=hE n x hx;refine⟨v::vs,?_,by unfold Qr; exact⟨v,vs,rfl,h6,h4⟩⟩
    rw[List.mapM_cons];simp only[Sem.run_bind,Sem.run_pure,Result.andThen_ok,h3];simp[Array.getD_eq_getD_getElem?,h5]
   ·cases e1
  ·cases hi
 | .cell n sz ag::l,rs,us,hi,e1=>by
  simp only[QdU]at hi;split at hi
  ·rename_i m t r;obtain⟨h1,h2⟩:=QK hi;obtain⟨h1,ha⟩:=QK h1;obtain⟨h1,hz⟩:=QK h1;have h1:n=m:=by simpa using h1
   subst h1;unfold Qbq at e1;split at e1
   ·rename_i p us' hx hus;split at e1
    ·rename_i cs hcs;split at e1
     ·rename_i x hl;injection e1 with e1; subst e1;obtain⟨vs,h3,h4⟩:=QeK hE S h2 hus;obtain⟨v,h5,h6⟩:=hE n p hx;obtain⟨c,q,rfl,hb⟩:=Qgf S hcs h6;obtain⟨u,h7,h8⟩:=QqV (P:=P) ha hz hb hl;refine⟨u::vs,?_,by unfold Qr; exact⟨u,vs,rfl,h8,h4⟩⟩
      rw[List.mapM_cons];have ha':(asAddr (tmps.getD n undef)).run P w= .ok ⟨c,q,none⟩ w:=by simp[Array.getD_eq_getD_getElem?,h5,asAddr]
      simp only[Sem.run_bind,ha',Result.andThen_ok,h7,h3,Sem.run_pure]
     ·cases e1
    ·cases e1
   ·cases e1
  ·cases hi
theorem QfV {e:Env}{tmps:Array Value}{fn:Func}(hE:Qo (view wr β h w) β e tmps)(S:Sim w0 wr β h w){l:List R1}{us:List AV}(hi:QdU P l fn.results.toList=true)(e1:Qbq e h l=some us):
    ∃v,(results fn tmps).run P w= .ok v w/\Rel (view wr β h w) β (QfQ us) v:=by
 obtain⟨vs,h1,h2⟩:=QeK (P:=P) hE S hi e1
 have hrun:(results fn tmps).run P w= .ok (if hs:vs.toArray.size=1 then vs.toArray[0]else .tuple vs.toArray) w:=by
  unfold results;rw[Array.mapM_eq_mapM_toList];simp only[map_eq_pure_bind,Sem.run_bind,Sem.run_pure]
  erw [h1]
  rfl
 refine⟨_,hrun,?_⟩
 have hlen:=(Qp.1 h2).1;unfold QfQ;split
 ·rename_i x;unfold Qr at h2;obtain⟨v,r,rfl,h3,h4⟩:=h2;unfold Qr at h4;subst h4;simpa using h3
 ·rename_i hn;rw[dif_neg]
  ·unfold Rel; exact⟨vs.toArray,rfl,by simpa using h2⟩
  ·simp only[List.size_toArray,hlen];intro h1
   match us,h1,hn with
   | [x],_,hn=>exact hn x rfl
end
end Go.Avm
