/- A call: its arguments, its body, what it hands back. -/
import Derived.Test.YtflbneepngjglaaGreatDoorE06
import Derived.Test.YtflbneepngjglaaGreatDoorE15
import Derived.Laws.Sem
set_option linter.all false
namespace Go.Avm
open Go.RowKit
section
variable {P : Program} {w0 : World} {wr : Nat} {β : Beta} {w : World} {h : H}
theorem Qvx {V:View}: ∀(x:AV) (v:Value),Rel V β x v->Rel V β (norm x) v:=by
 have one: ∀(x:AV) (v:Value) (y:AV),Rel V β x v->(match x with | .esl=>.isl [] | v=>v)=y->Rel V β y v:=by
  intro x v y hr hy;subst hy;split
  ·unfold Rel at*;obtain⟨a,rfl⟩:=hr;exact⟨a,0,rfl,by simp,.inl rfl⟩
  ·exact hr
 intro x v hr;unfold norm;split
 ·unfold Rel at*;obtain⟨a,rfl⟩:=hr;exact⟨a,0,rfl,by simp,.inl rfl⟩
 ·rename_i l;unfold Rel at hr ⊢;obtain⟨vs,rfl,hr⟩:=hr;refine⟨vs,rfl,?_⟩
  obtain⟨h1,h2⟩:=Qr.1 hr;refine Qr.2 ⟨by simpa using h1,fun j y hj=>?_⟩
  rw[List.getElem?_map]at hj
  cases hl:l[j]? with
  | none=>rw[hl]at hj; simp at hj
  | some z=>
   rw[hl]at hj;simp only[Option.map_some,Option.some.injEq]at hj;obtain⟨u,h3,h4⟩:=h2 j z hl;exact⟨u,h3,one z u y h4 hj⟩
 ·exact hr
theorem QsO {V:View}{l:List AV}{vs:List Value}(hr:Qs V β l vs):Qs V β (l.map norm) vs:=by
 obtain⟨h1,h2⟩:=Qr.1 hr;refine Qr.2 ⟨by simpa using h1,fun j y hj=>?_⟩
 rw[List.getElem?_map]at hj
 cases hl:l[j]? with
 | none=>rw[hl]at hj; simp at hj
 | some z=>
  rw[hl]at hj;simp only[Option.map_some,Option.some.injEq]at hj;obtain⟨u,h3,h4⟩:=h2 j z hl;exact⟨u,h3,hj▸Qvx z u h4⟩
theorem Qct {wr:Nat}(hl:h.length<=wr)(c:Nat): ¬Live wr β h c:=fun⟨b,v,h1,h2,_⟩=>by
 have:=Qmm h2; omega
theorem Qhw {wr':Nat}(hl:h.length<=wr'):(view wr β h w).Le (view wr' β h w):=ZZ fun c hc=>absurd hc (Qct hl c)
theorem Qxd {wr':Nat}(S:Sim w0 wr β h w)(hl:h.length<=wr'):Sim w0 wr' β h w:=
 ⟨S.below,S.dom,S.domv,S.inj,fun b v sz els c h1 h2=>by
  obtain⟨h3,h4,h5⟩:=S.arr b v sz els c h1 h2;exact⟨h3,h4,h5.mono (fun _ _ h=>h) (Qhw hl) (Beta.Le.refl _)⟩,fun b x v c h1 h2 h3=>(S.oth b x v c h1 h2 h3).mono rfl (Qhw hl) (Beta.Le.refl _),S.tyd,S.old,S.oldd⟩
theorem QDT {wr':Nat}(hl:h.length<=wr'){c o:Nat}{v:Value}(hr:rdw w c o=some v):(view wr' β h w).M c o=some v:=WZ hr (Qct hl c)
theorem QrK {V:View}{rd:Nat->Nat->Option Value}{f:AV->Option AV}(hf: ∀x x' v,f x=some x'->Rel (view wr β h w) β x v->Rel V β x' v)(hM: ∀c o v,rd c o=some v->V.M c o=some v){c:Nat}: ∀{l l':List AV} {o:Nat},QG f l=some l'->BC rd (view wr β h w) β c o l->XS V β c o l'
 | [],l',o,e,_=>by simp[QG]at e; subst e; unfold XS; trivial
 | x::l,l',o,e,hb=>by
  unfold QG at e;split at e
  ·rename_i x' r h1 h2;injection e with e; subst e;unfold XS;obtain⟨v,h3,h4⟩:=hb 0 x rfl;refine⟨⟨v,hM _ _ _ (by simpa using h3),hf x x' v h1 h4⟩,QrK hf hM h2 fun j y hj=>?_⟩
   have:=hb (j+1) y (by simpa using hj)
   rwa[Nat.add_assoc,Nat.add_comm 1 j]
  ·cases e
theorem Qcp {V:View}{f:AV->Option AV}(hf: ∀x x' v,f x=some x'->Rel (view wr β h w) β x v->Rel V β x' v): ∀{l l':List AV} {vs:List Value},QG f l=some l'->Qs (view wr β h w) β l vs->Qs V β l' vs
 | [],l',vs,e,hr=>by simp[QG]at e; subst e; unfold Qs at*; exact hr
 | x::l,l',vs,e,hr=>by
  unfold QG at e;split at e
  ·rename_i x' r h1 h2;injection e with e; subst e;unfold Qs at*;obtain⟨v,q,h3,h4,h5⟩:=hr;exact⟨v,q,h3,hf x x' v h1 h4,Qcp hf h2 h5⟩
  ·cases e
theorem Qcj {f:AV->Option AV}: ∀{l l':List AV},QG f l=some l'->l'.length=l.length
 | [],l',e=>by simp[QG]at e; subst e; rfl
 | x::l,l',e=>by
  unfold QG at e;split at e
  ·rename_i h2;injection e with e; subst e;simp[Qcj h2]
  ·cases e
theorem QhH {n:Nat}{x x':AV}(e:snap h n x=some x'):Shape x x':=by
 cases n with
 | zero=>
  unfold snap at e;split at e
  ·injection e with e; subst e; exact Shape.refl _
  ·cases e
 | succ n=>
  unfold snap at e;split at e
  ·injection e with e; subst e; exact Shape.refl _
  ·split at e
   ·cases hs:QG (snap h n) ‹_› with
    | none=>rw[hs]at e; simp at e
    | some l'=>rw[hs]at e; simp at e; subst e; exact .inl ⟨_,_,rfl,rfl,(Qcj hs).symm⟩
   ·cases hs:QG (snap h n) ‹_› with
    | none=>rw[hs]at e; simp at e
    | some l'=>rw[hs]at e; simp at e; subst e; exact .inr ⟨fun _ h=>(by cases h),fun _ h=>(by cases h)⟩
   ·injection e with e; subst e; exact .inr ⟨fun _ h=>(by cases h),fun _ h=>(by cases h)⟩
   ·split at e
    ·cases hs:QG (snap h n) ‹_› with
     | none=>rw[hs]at e; simp at e
     | some l'=>rw[hs]at e; simp at e; subst e; exact .inr ⟨fun _ h=>(by cases h),fun _ h=>(by cases h)⟩
    ·cases e
   ·split at e
    ·split at e
     ·split at e
      ·split at e
       ·cases hs:QG (snap h n) _ with
        | none=>rw[hs]at e; simp at e
        | some l'=>rw[hs]at e; simp at e; subst e; exact .inr ⟨fun _ h=>(by cases h),fun _ h=>(by cases h)⟩
       ·cases e
      ·cases e
     ·cases e
    ·cases e
   ·cases hs:QG (snap h n) ‹_› with
    | none=>rw[hs]at e; simp at e
    | some l'=>rw[hs]at e; simp at e; subst e; exact .inr ⟨fun _ h=>(by cases h),fun _ h=>(by cases h)⟩
   ·cases e
theorem QmO {V:View}{rd:Nat->Nat->Option Value}{f:AV->Option AV}(hf: ∀x x' v,f x=some x'->Rel (view wr β h w) β x v->Rel V β x' v)(hsh: ∀x x',f x=some x'->Shape x x')(hM: ∀c o v,rd c o=some v->V.M c o=some v){c sz:Nat}: ∀{l l':List AV} {o:Nat},QG f l=some l'->BE rd (view wr β h w) β c o sz l->Qi V β c o sz l'
 | [],l',o,e,_=>by simp[QG]at e; subst e; unfold Qi; trivial
 | x::l,l',o,e,hb=>by
  unfold QG at e;split at e
  ·rename_i x' r h1 h2;injection e with e; subst e;rw[Qgb];have hb0:=hb 0 x rfl;simp only[Nat.zero_mul,Nat.add_zero]at hb0;obtain⟨y,hy,hback⟩:=Qou hb0.2;have hsx:=hsh x x' h1;have hr:=hf x x' y h1 hy;refine⟨hsx.len.trans hb0.1,?_,QmO hf hsh hM h2 fun i z hi=>?_⟩
   ·exact ZU.2 ((hback _ _ x' hr hsx).mono (fun _ _ _ h=>hM _ _ _ h) (View.Le.refl _) (Beta.Le.refl _))
   ·have:=hb (i+1) z (by simpa using hi)
    refine⟨this.1,?_⟩
    have h5:=this.2
    rwa[Nat.succ_mul,Nat.add_comm (i*sz) sz,←Nat.add_assoc]at h5
  ·cases e
theorem Qum (S:Sim w0 wr β h w): ∀(n:Nat) (x x':AV) (v:Value),snap h n x=some x'->Rel (view wr β h w) β x v->Rel (view h.length β h w) β x' v:=by
 have hV:(view wr β h w).Le (view h.length β h w):=Qhw (Nat.le_refl _);have hM: ∀c o v,rdw w c o=some v->(view h.length β h w).M c o=some v:=fun c o v hr=>QDT (Nat.le_refl _) hr
 have hM2: ∀c o v,(view wr β h w).M c o=some v->(view h.length β h w).M c o=some v:=hV.M;intro n
 induction n with
 | zero=>
  intro x x' v e hr;unfold snap at e;split at e
  ·injection e with e; subst e; exact hr.to hV (Beta.Le.refl _)
  ·cases e
 | succ n ih=>
  intro x x' v e hr;unfold snap at e;split at e
  ·injection e with e; subst e; exact hr.to hV (Beta.Le.refl _)
  ·split at e
   ·rename_i l _;cases hs:QG (snap h n) l with
    | none=>rw[hs]at e; simp at e
    | some l'=>
     rw[hs]at e; simp at e; subst e;unfold Rel at hr ⊢;obtain⟨vs,rfl,hr⟩:=hr;exact⟨vs,rfl,Qcp ih hs hr⟩
   ·rename_i l _;cases hs:QG (snap h n) l with
    | none=>rw[hs]at e; simp at e
    | some l'=>
     rw[hs]at e; simp at e; subst e;unfold Rel at hr ⊢;obtain⟨a,cap,h1,h2,h3⟩:=hr;have hl:=Qcj hs;refine⟨a,cap,by rw[hl]; exact h1,by rw[hl]; exact h2,?_⟩
     rcases h3 with rfl | ⟨c,o,sz,h3,h4⟩
     ·simp[QG]at hs; exact .inl hs
     ·exact .inr ⟨c,o,sz,h3,QmO ih (fun _ _=>QhH) hM2 hs (Zz.1 h4)⟩
   ·injection e with e; subst e;unfold Rel at hr ⊢;obtain⟨a,rfl⟩:=hr;exact⟨a,0,rfl,by simp,.inl rfl⟩
   ·rename_i b ver sz off len _;split at e
    ·rename_i els hlook;obtain⟨els0,hb,hle,rfl⟩:=Qcs hlook;cases hs:QG (snap h n) ((els0.drop off).take len)with
     | none=>rw[hs]at e; simp at e
     | some l'=>
      rw[hs]at e; simp at e; subst e;have hl:l'.length=len:=by rw[Qcj hs]; simp; omega
      unfold Rel at hr ⊢;rcases hr with⟨c,cap,h1,h2,h3,h4⟩ | ⟨h1,h2,_,q,h3⟩
      ·obtain⟨_,_,hbe⟩:=S.arr b ver sz els0 c hb h1;exact⟨_,cap,by rw[hl]; exact h2,by rw[hl]; exact h3,.inr ⟨c,off*sz,sz,rfl,QmO ih (fun _ _=>QhH) hM hs (hbe.part off len)⟩⟩
      ·subst h2;exact⟨q,0,by rw[hl]; exact h3,by rw[hl]; exact Nat.le_refl _,.inl (List.eq_nil_of_length_eq_zero hl)⟩
    ·cases e
   ·rename_i b ver sz i o _;split at e
    ·rename_i v0 z els hb;split at e
     ·rename_i hc;obtain⟨rfl,rfl⟩:=hc;split at e
      ·rename_i el hel;split at e
       ·rename_i ho;cases hs:QG (snap h n) (el.cells.drop o)with
        | none=>rw[hs]at e; simp at e
        | some l'=>
         rw[hs]at e; simp at e; subst e;unfold Rel at hr ⊢;obtain⟨c,h1,rfl⟩:=hr;obtain⟨_,_,hbe⟩:=S.arr b v0 z els c hb h1;have h2:=(hbe i el hel).2.drop o;rw[Nat.zero_add]at h2;exact⟨c,_,rfl,QrK ih hM hs h2⟩
       ·cases e
      ·cases e
     ·cases e
    ·cases e
   ·rename_i f l _;cases hs:QG (snap h n) l with
    | none=>rw[hs]at e; simp at e
    | some l'=>
     rw[hs]at e; simp at e; subst e;unfold Rel at hr ⊢;obtain⟨vs,rfl,hr⟩:=hr;exact⟨vs,rfl,Qcp ih hs hr⟩
   ·cases e
theorem Qjn : ∀(l:List AV) (k n:Nat) (x:AV),(Jv k l).get n=some x->k<=n/\l[n-k]? =some x
 | [],k,n,x,h=>by simp[Jv,Env.get]at h
 | v::l,k,n,x,h=>by
  simp only[Jv,Env.get]at h;split at h
  ·rename_i hk;subst hk;injection h with h; subst h;exact⟨Nat.le_refl _,by simp⟩
  ·rename_i hk;obtain⟨h1,h2⟩:=Qjn l (k+1) n x h;refine⟨by omega,?_⟩
   rw[show n-k=(n-(k+1))+1 by omega]
   simpa using h2
theorem Qjm {V:View}{l:List AV}{vs:Array Value}(hr:Qs V β l vs.toList)(rest:Array Value):Qq V β (Jv 0 l) (vs++rest):=fun n x hx=>by
 obtain⟨_,h1⟩:=Qjn l 0 n x hx;obtain⟨h2,h3⟩:=Qr.1 hr;obtain⟨u,h4,h5⟩:=h3 n x (by simpa using h1)
 refine⟨u,?_,h5⟩
 have hn:n<vs.size:=by have:=(List.getElem?_eq_some_iff.1 h4).1; simpa using this
 rw[Array.getElem?_append_left hn]
 simpa using h4
def Qeb (P:Program):List R1->List ResultVar->Bool
 | [],rs=>rs.isEmpty
 | .t n::l,rs=>(match rs with | .tmp m::r=>n == m&&Qeb P l r | _=>false)
 | .cell n sz ag::l,rs=>(match rs with | .cell m t::r=>n == m&&JD P t sz&&Qcf P t ag&&Qeb P l r | _=>false)
theorem QeV {e:Env}{tmps:Array Value}(hE:Qq (view wr β h w) β e tmps)(S:Sim w0 wr β h w): ∀{l:List R1} {rs:List ResultVar} {us:List AV},Qeb P l rs=true->QbA e h l=some us->
    ∃vs,(rs.mapM (m:=Sem) fun
     | .tmp t=>pure (tmps.getD t undef)
     | .cell a t=>do loadVar t (←asAddr (tmps.getD a undef))).run P w= .ok vs w/\Qs (view wr β h w) β us vs
 | [],rs,us,hi,e1=>by
  simp[Qeb]at hi; subst hi;simp[QbA]at e1; subst e1;exact⟨[],by simp,by unfold Qs; rfl⟩
 | .t n::l,rs,us,hi,e1=>by
  simp only[Qeb]at hi;split at hi
  ·rename_i m r;obtain⟨h1,h2⟩:=QL hi;have h1:n=m:=by simpa using h1
   subst h1;unfold QbA at e1;split at e1
   ·rename_i x us' hx hus;injection e1 with e1; subst e1;obtain⟨vs,h3,h4⟩:=QeV hE S h2 hus;obtain⟨v,h5,h6⟩:=hE n x hx;refine⟨v::vs,?_,by unfold Qs; exact⟨v,vs,rfl,h6,h4⟩⟩
    rw[List.mapM_cons];simp only[Sem.run_bind,Sem.run_pure,Result.andThen_ok,h3];simp[Array.getD_eq_getD_getElem?,h5]
   ·cases e1
  ·cases hi
 | .cell n sz ag::l,rs,us,hi,e1=>by
  simp only[Qeb]at hi;split at hi
  ·rename_i m t r;obtain⟨h1,h2⟩:=QL hi;obtain⟨h1,ha⟩:=QL h1;obtain⟨h1,hz⟩:=QL h1;have h1:n=m:=by simpa using h1
   subst h1;unfold QbA at e1;split at e1
   ·rename_i p us' hx hus;split at e1
    ·rename_i cs hcs;split at e1
     ·rename_i x hl;injection e1 with e1; subst e1;obtain⟨vs,h3,h4⟩:=QeV hE S h2 hus;obtain⟨v,h5,h6⟩:=hE n p hx;obtain⟨c,q,rfl,hb⟩:=Qgw S hcs h6;obtain⟨u,h7,h8⟩:=Qrs (P:=P) ha hz hb hl;refine⟨u::vs,?_,by unfold Qs; exact⟨u,vs,rfl,h8,h4⟩⟩
      rw[List.mapM_cons];have ha':(asAddr (tmps.getD n undef)).run P w= .ok ⟨c,q,none⟩ w:=by simp[Array.getD_eq_getD_getElem?,h5,asAddr]
      simp only[Sem.run_bind,ha',Result.andThen_ok,h7,h3,Sem.run_pure]
     ·cases e1
    ·cases e1
   ·cases e1
  ·cases hi
theorem Qgm {e:Env}{tmps:Array Value}{fn:Func}(hE:Qq (view wr β h w) β e tmps)(S:Sim w0 wr β h w){l:List R1}{us:List AV}(hi:Qeb P l fn.results.toList=true)(e1:QbA e h l=some us):
    ∃v,(results fn tmps).run P w= .ok v w/\Rel (view wr β h w) β (Qgh us) v:=by
 obtain⟨vs,h1,h2⟩:=QeV (P:=P) hE S hi e1
 have hrun:(results fn tmps).run P w= .ok (if hs:vs.toArray.size=1 then vs.toArray[0]else .tuple vs.toArray) w:=by
  unfold results;rw[Array.mapM_eq_mapM_toList];simp only[map_eq_pure_bind,Sem.run_bind,Sem.run_pure]
  erw [h1]
  rfl
 refine⟨_,hrun,?_⟩
 have hlen:=(Qr.1 h2).1;unfold Qgh;split
 ·rename_i x;unfold Qs at h2;obtain⟨v,r,rfl,h3,h4⟩:=h2;unfold Qs at h4;subst h4;simpa using h3
 ·rename_i hn;rw[dif_neg]
  ·unfold Rel; exact⟨vs.toArray,rfl,by simpa using h2⟩
  ·simp only[List.size_toArray,hlen];intro h1
   match us,h1,hn with
   | [x],_,hn=>exact hn x rfl
end
end Go.Avm
