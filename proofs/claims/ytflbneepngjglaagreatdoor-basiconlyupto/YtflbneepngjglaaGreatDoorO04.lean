/- Freezing, snapshots: what they hand back stands to the same values. -/
import Derived.Test.YtflbneepngjglaaGreatDoorO03
set_option linter.all false
namespace Go.Avm
open Go.RowKit
mutual
theorem Rel.Ql{V:View}{β β':Beta}: ∀(x:AV) (v:Value),x.pure=true->Rel V β x v->Rel V β' x v
 | .any,_,_,_=>by unfold Rel; trivial
 | .bool _,_,_,h=>by unfold Rel at*; exact h
 | .int _ _,_,_,h=>by unfold Rel at*; exact h
 | .str _,_,_,h=>by unfold Rel at*; exact h
 | .nilp,_,_,h=>by unfold Rel at*; exact h
 | .nilf,_,_,h=>by unfold Rel at*; exact h
 | .nili,_,_,h=>by unfold Rel at*; exact h
 | .nilm,_,_,h=>by unfold Rel at*; exact h
 | .nils,_,_,h=>by unfold Rel at*; exact h
 | .mref _,_,hp,_=>by simp[AV.pure]at hp
 | .nbuf _,_,hp,_=>by simp[AV.pure]at hp
 | .esl,_,hp,_=>by simp[AV.pure]at hp
 | .ptr ..,_,hp,_=>by simp[AV.pure]at hp
 | .osl ..,_,hp,_=>by simp[AV.pure]at hp
 | .iptr l,v,hp,h=>by
  unfold Rel at*;obtain⟨c,o,h1,h2⟩:=h;exact⟨c,o,h1,XR.Ql l c o (by simpa[AV.pure]using hp) h2⟩
 | .isl l,v,hp,h=>by
  unfold Rel at*;obtain⟨a,cap,h1,h2,h3⟩:=h;refine⟨a,cap,h1,h2,?_⟩
  rcases h3 with h3 | ⟨c,o,sz,h3,h4⟩
  ·exact .inl h3
  ·exact .inr ⟨c,o,sz,h3,Qi.Ql l c o sz (by simpa[AV.pure]using hp) h4⟩
 | .agg l,v,hp,h=>by
  unfold Rel at*;obtain⟨vs,h1,h2⟩:=h;exact⟨vs,h1,Qr.Ql l _ (by simpa[AV.pure]using hp) h2⟩
 | .tup l,v,hp,h=>by
  unfold Rel at*;obtain⟨vs,h1,h2⟩:=h;exact⟨vs,h1,Qr.Ql l _ (by simpa[AV.pure]using hp) h2⟩
 | .QI f k l,v,hp,h=>by
  unfold Rel at*;obtain⟨vs,h1,h2⟩:=h;exact⟨vs,h1,Qr.Ql l _ (by simpa[AV.pure]using hp) h2⟩
 | .iface t x,v,hp,h=>by
  unfold Rel at*;obtain⟨y,h1,h2⟩:=h;exact⟨y,h1,Rel.Ql x y (by simpa[AV.pure]using hp) h2⟩
theorem Qr.Ql{V:View}{β β':Beta}: ∀(l:List AV) (vs:List Value),Qv l=true->Qr V β l vs->Qr V β' l vs
 | [],_,_,h=>by unfold Qr at*; exact h
 | x::l,vs,hp,h=>by
  unfold Qr at*;simp only[Qv,Bool.and_eq_true]at hp;obtain⟨v,r,h1,h2,h3⟩:=h;exact⟨v,r,h1,Rel.Ql x v hp.1 h2,Qr.Ql l r hp.2 h3⟩
theorem XR.Ql{V:View}{β β':Beta}: ∀(l:List AV) (c o:Nat),Qv l=true->XR V β c o l->XR V β' c o l
 | [],_,_,_,_=>by unfold XR; trivial
 | x::l,c,o,hp,h=>by
  unfold XR at*;simp only[Qv,Bool.and_eq_true]at hp;obtain⟨⟨v,h1,h2⟩,h3⟩:=h;exact⟨⟨v,h1,Rel.Ql x v hp.1 h2⟩,XR.Ql l c _ hp.2 h3⟩
theorem Qi.Ql{V:View}{β β':Beta}: ∀(l:List AV) (c o sz:Nat),Qv l=true->Qi V β c o sz l->Qi V β' c o sz l
 | [],_,_,_,_,_=>by unfold Qi; trivial
 | .agg k::r,c,o,sz,hp,h=>by
  simp only[Qv,AV.pure,Bool.and_eq_true]at hp;unfold Qi at*;exact⟨h.1,XR.Ql k c o hp.1 h.2.1,Qi.Ql r c _ sz hp.2 h.2.2⟩
 | .any::r,c,o,sz,hp,h=>by
  simp only[Qv,Bool.and_eq_true]at hp;rw[Qi]at*;obtain⟨h0,⟨v,h1,h2⟩,h3⟩:=h
  ·exact⟨h0,⟨v,h1,Rel.Ql _ v hp.1 h2⟩,Qi.Ql r c _ sz hp.2 h3⟩
  all_goals (intro l h; cases h)
 | .bool b::r,c,o,sz,hp,h=>by
  simp only[Qv,Bool.and_eq_true]at hp;rw[Qi]at*;obtain⟨h0,⟨v,h1,h2⟩,h3⟩:=h
  ·exact⟨h0,⟨v,h1,Rel.Ql _ v hp.1 h2⟩,Qi.Ql r c _ sz hp.2 h3⟩
  all_goals (intro l h; cases h)
 | .int k n::r,c,o,sz,hp,h=>by
  simp only[Qv,Bool.and_eq_true]at hp;rw[Qi]at*;obtain⟨h0,⟨v,h1,h2⟩,h3⟩:=h
  ·exact⟨h0,⟨v,h1,Rel.Ql _ v hp.1 h2⟩,Qi.Ql r c _ sz hp.2 h3⟩
  all_goals (intro l h; cases h)
 | .str s::r,c,o,sz,hp,h=>by
  simp only[Qv,Bool.and_eq_true]at hp;rw[Qi]at*;obtain⟨h0,⟨v,h1,h2⟩,h3⟩:=h
  ·exact⟨h0,⟨v,h1,Rel.Ql _ v hp.1 h2⟩,Qi.Ql r c _ sz hp.2 h3⟩
  all_goals (intro l h; cases h)
 | .nilp::r,c,o,sz,hp,h=>by
  simp only[Qv,Bool.and_eq_true]at hp;rw[Qi]at*;obtain⟨h0,⟨v,h1,h2⟩,h3⟩:=h
  ·exact⟨h0,⟨v,h1,Rel.Ql _ v hp.1 h2⟩,Qi.Ql r c _ sz hp.2 h3⟩
  all_goals (intro l h; cases h)
 | .nilf::r,c,o,sz,hp,h=>by
  simp only[Qv,Bool.and_eq_true]at hp;rw[Qi]at*;obtain⟨h0,⟨v,h1,h2⟩,h3⟩:=h
  ·exact⟨h0,⟨v,h1,Rel.Ql _ v hp.1 h2⟩,Qi.Ql r c _ sz hp.2 h3⟩
  all_goals (intro l h; cases h)
 | .nili::r,c,o,sz,hp,h=>by
  simp only[Qv,Bool.and_eq_true]at hp;rw[Qi]at*;obtain⟨h0,⟨v,h1,h2⟩,h3⟩:=h
  ·exact⟨h0,⟨v,h1,Rel.Ql _ v hp.1 h2⟩,Qi.Ql r c _ sz hp.2 h3⟩
  all_goals (intro l h; cases h)
 | .nilm::r,c,o,sz,hp,h=>by
  simp only[Qv,Bool.and_eq_true]at hp;rw[Qi]at*;obtain⟨h0,⟨v,h1,h2⟩,h3⟩:=h
  ·exact⟨h0,⟨v,h1,Rel.Ql _ v hp.1 h2⟩,Qi.Ql r c _ sz hp.2 h3⟩
  all_goals (intro l h; cases h)
 | .nils::r,c,o,sz,hp,h=>by
  simp only[Qv,Bool.and_eq_true]at hp;rw[Qi]at*;obtain⟨h0,⟨v,h1,h2⟩,h3⟩:=h
  ·exact⟨h0,⟨v,h1,Rel.Ql _ v hp.1 h2⟩,Qi.Ql r c _ sz hp.2 h3⟩
  all_goals (intro l h; cases h)
 | .mref _::r,c,o,sz,hp,h=>by simp[Qv,AV.pure]at hp
 | .nbuf _::r,c,o,sz,hp,h=>by simp[Qv,AV.pure]at hp
 | .esl::r,c,o,sz,hp,h=>by simp[Qv,AV.pure]at hp
 | .ptr .. ::r,c,o,sz,hp,h=>by simp[Qv,AV.pure]at hp
 | .osl .. ::r,c,o,sz,hp,h=>by simp[Qv,AV.pure]at hp
 | .iptr l::r,c,o,sz,hp,h=>by
  simp only[Qv,Bool.and_eq_true]at hp;rw[Qi]at*;obtain⟨h0,⟨v,h1,h2⟩,h3⟩:=h
  ·exact⟨h0,⟨v,h1,Rel.Ql (.iptr l) v hp.1 h2⟩,Qi.Ql r c _ sz hp.2 h3⟩
  all_goals (intro l h; cases h)
 | .isl l::r,c,o,sz,hp,h=>by
  simp only[Qv,Bool.and_eq_true]at hp;rw[Qi]at*;obtain⟨h0,⟨v,h1,h2⟩,h3⟩:=h
  ·exact⟨h0,⟨v,h1,Rel.Ql (.isl l) v hp.1 h2⟩,Qi.Ql r c _ sz hp.2 h3⟩
  all_goals (intro l h; cases h)
 | .tup l::r,c,o,sz,hp,h=>by
  simp only[Qv,Bool.and_eq_true]at hp;rw[Qi]at*;obtain⟨h0,⟨v,h1,h2⟩,h3⟩:=h
  ·exact⟨h0,⟨v,h1,Rel.Ql (.tup l) v hp.1 h2⟩,Qi.Ql r c _ sz hp.2 h3⟩
  all_goals (intro l h; cases h)
 | .QI f k l::r,c,o,sz,hp,h=>by
  simp only[Qv,Bool.and_eq_true]at hp;rw[Qi]at*;obtain⟨h0,⟨v,h1,h2⟩,h3⟩:=h
  ·exact⟨h0,⟨v,h1,Rel.Ql (.QI f k l) v hp.1 h2⟩,Qi.Ql r c _ sz hp.2 h3⟩
  all_goals (intro l h; cases h)
 | .iface t x::r,c,o,sz,hp,h=>by
  simp only[Qv,Bool.and_eq_true]at hp;rw[Qi]at*;obtain⟨h0,⟨v,h1,h2⟩,h3⟩:=h
  ·exact⟨h0,⟨v,h1,Rel.Ql (.iface t x) v hp.1 h2⟩,Qi.Ql r c _ sz hp.2 h3⟩
  all_goals (intro l h; cases h)
end
def Shape (x y:AV):Prop:=(∃l k,x= .agg l/\y= .agg k/\l.length=k.length)\/((∀l,x≠ .agg l)/\ ∀l,y≠ .agg l)
theorem Shape.refl(x:AV):Shape x x:=by
 cases x<;>first | exact .inl ⟨_,_,rfl,rfl,rfl⟩ | exact .inr ⟨fun l h=>(by cases h),fun l h=>(by cases h)⟩
theorem Xm {x:AV}(h: ∀l,x≠ .agg l):x.cells=[x]:=by cases x<;>first | rfl | exact absurd rfl (h _)
theorem Shape.len{x y:AV}(h:Shape x y):y.cells.length=x.cells.length:=by
 rcases h with⟨l,k,rfl,rfl,h⟩ | ⟨h1,h2⟩
 ·exact h.symm
 ·rw[Xm h1,Xm h2]; rfl
theorem Qoa {rd:Nat->Nat->Option Value}{V:View}{β:Beta}{c o:Nat}{x:AV}(h:BC rd V β c o x.cells):
    ∃y,Rel V β x y/\ ∀V' β' x',Rel V' β' x' y->Shape x x'->BC rd V' β' c o x'.cells:=by
 by_cases ha: ∃l,x= .agg l
 ·obtain⟨l,rfl⟩:=ha
  have hv: ∀j,j<l.length->rd c (o+j)=some ((rd c (o+j)).getD undef):=fun j hj=>by
   obtain⟨v,h1,_⟩:=h j l[j] (by simp[AV.cells,hj])
   rw[h1]; rfl
  refine⟨.agg ((List.range l.length).map fun j=>(rd c (o+j)).getD undef).toArray,?_,?_⟩
  ·unfold Rel;refine⟨_,rfl,Qp.2 ⟨by simp,fun j z hj=>?_⟩⟩
   have hj':j<l.length:=(List.getElem?_eq_some_iff.1 hj).1
   obtain⟨v,h1,h2⟩:=h j z hj;exact⟨v,by simp[hj',h1],h2⟩
  ·intro V' β' x' hr hs j z hj;rcases hs with⟨l1,k,h1,rfl,hl⟩ | ⟨h1,_⟩
   ·injection h1 with h1; subst h1;unfold Rel at hr;obtain⟨vs,h2,h3⟩:=hr;injection h2 with h2;subst h2;obtain⟨h4,h5⟩:=Qp.1 h3;obtain⟨v,h6,h7⟩:=h5 j z hj;have hj':j<k.length:=(List.getElem?_eq_some_iff.1 hj).1
    simp[show j<l.length by omega]at h6
    exact⟨v,by rw[hv j (by omega),h6],h7⟩
   ·exact absurd rfl (h1 l)
 ·have hx: ∀l,x≠ .agg l:=fun l e=>ha ⟨l,e⟩
  rw[Xm hx]at h;obtain⟨y,h1,h2⟩:=h 0 x rfl;refine⟨y,h2,fun V' β' x' hr hs=>?_⟩
  rcases hs with⟨l,k,h3,_⟩ | ⟨_,h3⟩
  ·exact absurd h3 (hx l)
  ·rw[Xm h3];intro j z hj;cases j with
   | zero=>simp at hj; subst hj; exact⟨y,h1,hr⟩
   | succ j=>simp at hj
def XK (base:Nat)(β:Beta):Beta:=fun b v=>if b<base then β b v else none
theorem Qhu (base:Nat)(β:Beta):(XK base β).Le β:=fun b v x h=>by unfold XK at h; split at h; exact h; cases h
def Qwm (w0:World)(wr base:Nat)(β:Beta)(w:World)(f:AV->H->Option (AV×H)):Prop:=
 ∀v h v' h' x,f v h=some (v',h')->Sim w0 wr β h w->Rel (view wr β h w) β v x->
  Sim w0 wr β h' w/\Ext wr β h w β h' w/\h'.length=h.length/\(∀k,k<base->h'[k]? =h[k]?)/\(∀k v,cur h' k=some v->cur h k=some v)/\Rel (view wr β h' w) (XK base β) v' x/\Shape v v'
section
variable {w0 : World} {wr base : Nat} {β : Beta} {w : World} {f : AV -> H -> Option (AV × H)}
theorem QbF : ∀{l l':List AV} {h h':H},XW f l h=some (l',h')->l'.length=l.length
 | [],l',h,h',e=>by simp[XW]at e; simp[←e.1]
 | v::l,l',h,h',e=>by
  unfold XW at e;cases h1:f v h with
  | none=>rw[h1]at e; simp at e
  | some p=>
   obtain⟨v',h2⟩:=p;rw[h1]at e;dsimp only at e;cases h3:XW f l h2 with
   | none=>rw[h3]at e; simp at e
   | some q=>
    obtain⟨l2,h4⟩:=q;rw[h3]at e;simp at e;have:=QbF h3;rw[←e.1]; simp[this]
theorem QhS (hf:Qwm w0 wr base β w f): ∀{l l':List AV} {vs:List Value} {h h':H},XW f l h=some (l',h')->Sim w0 wr β h w->Qr (view wr β h w) β l vs->
    Sim w0 wr β h' w/\Ext wr β h w β h' w/\h'.length=h.length/\(∀k,k<base->h'[k]? =h[k]?)/\(∀k v,cur h' k=some v->cur h k=some v)/\Qr (view wr β h' w) (XK base β) l' vs
 | [],l',vs,h,h',e,S,hr=>by
  simp[XW]at e;obtain⟨rfl,rfl⟩:=e;refine⟨S,Ext.refl _ _ _ _,rfl,fun _ _=>rfl,fun _ _ h=>h,?_⟩
  unfold Qr at*;exact hr
 | v::l,l',vs,h,h',e,S,hr=>by
  unfold XW at e;cases h1:f v h with
  | none=>rw[h1]at e; simp at e
  | some p=>
   obtain⟨v',h2⟩:=p;rw[h1]at e;dsimp only at e;cases h3:XW f l h2 with
   | none=>rw[h3]at e; simp at e
   | some q=>
    obtain⟨l2,h4⟩:=q;rw[h3]at e;simp at e;obtain⟨rfl,rfl⟩:=e;unfold Qr at hr;obtain⟨x,r,rfl,hx,hr⟩:=hr;obtain⟨S1,E1,n1,o1,c1,r1,_⟩:=hf v h v' h2 x h1 S hx;obtain⟨S2,E2,n2,o2,c2,r2⟩:=QhS hf h3 S1 (Qr.mono E1.view E1.beta _ _ hr);refine⟨S2,E1.trans E2,n2.trans n1,fun k hk=>(o2 k hk).trans (o1 k hk),fun k v h=>c1 k v (c2 k v h),?_⟩
    unfold Qr;exact⟨x,r,rfl,Rel.mono E2.view (Beta.Le.refl _) _ _ r1,r2⟩
theorem QgD (hf:Qwm w0 wr base β w f){rd:Nat->Nat->Option Value}{c sz:Nat}: ∀{l l':List AV} {o:Nat} {h h':H},XW f l h=some (l',h')->Sim w0 wr β h w->BE rd (view wr β h w) β c o sz l->
    Sim w0 wr β h' w/\Ext wr β h w β h' w/\h'.length=h.length/\(∀k,k<base->h'[k]? =h[k]?)/\(∀k v,cur h' k=some v->cur h k=some v)/\BE rd (view wr β h' w) (XK base β) c o sz l'
 | [],l',o,h,h',e,S,hr=>by
  simp[XW]at e;obtain⟨rfl,rfl⟩:=e;exact⟨S,Ext.refl _ _ _ _,rfl,fun _ _=>rfl,fun _ _ h=>h,fun i x hi=>by simp at hi⟩
 | v::l,l',o,h,h',e,S,hr=>by
  unfold XW at e;cases h1:f v h with
  | none=>rw[h1]at e; simp at e
  | some p=>
   obtain⟨v',h2⟩:=p;rw[h1]at e;dsimp only at e;cases h3:XW f l h2 with
   | none=>rw[h3]at e; simp at e
   | some q=>
    obtain⟨l2,h4⟩:=q;rw[h3]at e;simp at e;obtain⟨rfl,rfl⟩:=e;have hr0:=hr 0 v rfl;obtain⟨y,hy,hback⟩:=Qoa (o:=o) (x:=v) (by simpa using hr0.2)
    obtain⟨S1,E1,n1,o1,c1,r1,sh⟩:=hf v h v' h2 y h1 S hy
    have hrest:BE rd (view wr β h2 w) β c (o+sz) sz l:=fun i x hi=>by
     have:=hr (i+1) x (by simpa using hi)
     refine⟨this.1,?_⟩
     have h5:=this.2.mono (fun _ _ _ h=>h) E1.view E1.beta
     rwa[Nat.succ_mul,Nat.add_comm (i*sz) sz,←Nat.add_assoc]at h5
    obtain⟨S2,E2,n2,o2,c2,r2⟩:=QgD hf h3 S1 hrest;refine⟨S2,E1.trans E2,n2.trans n1,fun k hk=>(o2 k hk).trans (o1 k hk),fun k v h=>c1 k v (c2 k v h),?_⟩
    intro i x hi;cases i with
    | zero=>
     simp at hi; subst hi;refine⟨sh.len.trans hr0.1,?_⟩
     simpa using(hback _ _ v' r1 sh).mono (fun _ _ _ h=>h) E2.view (Beta.Le.refl _)
    | succ i=>
     have:=r2 i x (by simpa using hi)
     refine⟨this.1,?_⟩
     rw[Nat.succ_mul,Nat.add_comm (i*sz) sz,←Nat.add_assoc];exact this.2
end
theorem Qcj {h:H}{b ver sz off len:Nat}{l:List AV}(e:look h b ver sz off len=some l): ∃els,h[b]? =some (.arr ver sz els)/\off+len<=els.length/\l=(els.drop off).take len:=by
 unfold look at e;split at e
 ·rename_i v z els hb;split at e
  ·rename_i hc;obtain⟨rfl,rfl,hc⟩:=hc;injection e with e;exact⟨els,hb,hc,e.symm⟩
  ·cases e
 ·cases e
theorem BE.part{rd:Nat->Nat->Option Value}{V:View}{β:Beta}{c sz:Nat}{els:List AV}(h:BE rd V β c 0 sz els)(off len:Nat):BE rd V β c (off*sz) sz ((els.drop off).take len):=fun i x hi=>by
 rw[List.getElem?_take]at hi
 split at hi
 ·rw[List.getElem?_drop]at hi
  have:=h (off+i) x hi;refine⟨this.1,?_⟩
  rw[Nat.zero_add,Nat.add_mul]at this;exact this.2
 ·cases hi
theorem QhR {w0:World}{wr base:Nat}{β:Beta}{w:World}(hwr:wr<=base): ∀n,Qwm w0 wr base β w (frz base n):=by
 have hpure: ∀(v:AV) (h:H) (v':AV) (h':H) (x:Value),v.pure=true->some (v,h)=some (v',h')->Sim w0 wr β h w->Rel (view wr β h w) β v x->
      Sim w0 wr β h' w/\Ext wr β h w β h' w/\h'.length=h.length/\(∀k,k<base->h'[k]? =h[k]?)/\(∀k v,cur h' k=some v->cur h k=some v)/\Rel (view wr β h' w) (XK base β) v' x/\Shape v v':=by
  intro v h v' h' x hp e S hr;simp at e;obtain⟨rfl,rfl⟩:=e;exact⟨S,Ext.refl _ _ _ _,rfl,fun _ _=>rfl,fun _ _ h=>h,Rel.Ql _ _ hp hr,Shape.refl _⟩
 intro n
 induction n with
 | zero=>
  intro v h v' h' x e S hr;unfold frz at e;split at e
  ·rename_i hp; exact hpure v h v' h' x hp e S hr
  ·cases e
 | succ n ih=>
  intro v h v' h' x e S hr;unfold frz at e;split at e
  ·rename_i hp; exact hpure v h v' h' x hp e S hr
  ·split at e
   ·rename_i l _;split at e
    ·rename_i l' h1 hl;simp at e; obtain⟨rfl,rfl⟩:=e;unfold Rel at hr;obtain⟨vs,rfl,hr⟩:=hr;obtain⟨S1,E1,n1,o1,c1,r1⟩:=QhS ih hl S hr;exact⟨S1,E1,n1,o1,c1,by unfold Rel; exact⟨vs,rfl,r1⟩,.inl ⟨_,_,rfl,rfl,(QbF hl).symm⟩⟩
    ·cases e
   ·rename_i l _;split at e
    ·rename_i l' h1 hl;simp at e; obtain⟨rfl,rfl⟩:=e;unfold Rel at hr;obtain⟨vs,rfl,hr⟩:=hr;obtain⟨S1,E1,n1,o1,c1,r1⟩:=QhS ih hl S hr;exact⟨S1,E1,n1,o1,c1,by unfold Rel; exact⟨vs,rfl,r1⟩,.inr ⟨fun _ h=>by(cases h),fun _ h=>by(cases h)⟩⟩
    ·cases e
   ·rename_i l _;split at e
    ·rename_i l' h1 hl;simp at e; obtain⟨rfl,rfl⟩:=e;unfold Rel at hr;obtain⟨a,cap,rfl,hcap,hr⟩:=hr;have hlen:=QbF hl;rcases hr with rfl | ⟨c,o,sz,rfl,hr⟩
     ·simp[XW]at hl;obtain⟨rfl,rfl⟩:=hl;exact⟨S,Ext.refl _ _ _ _,rfl,fun _ _=>rfl,fun _ _ h=>h,by unfold Rel; exact⟨a,cap,rfl,hcap,.inl rfl⟩,Shape.refl _⟩
     ·obtain⟨S1,E1,n1,o1,c1,r1⟩:=QgD (rd:=(view wr β h w).M) ih hl S (Zx.1 hr);refine⟨S1,E1,n1,o1,c1,?_,.inr ⟨fun _ h=>by(cases h),fun _ h=>by(cases h)⟩⟩
      unfold Rel;exact⟨_,cap,by rw[hlen],by omega,.inr ⟨c,o,sz,rfl,Zx.2 (r1.mono (fun p v hp=>E1.view.M _ _ _ hp) (View.Le.refl _) (Beta.Le.refl _))⟩⟩
    ·cases e
   ·simp at e; obtain⟨rfl,rfl⟩:=e;unfold Rel at hr;obtain⟨a,rfl⟩:=hr;exact⟨S,Ext.refl _ _ _ _,rfl,fun _ _=>rfl,fun _ _ h=>h,by unfold Rel; exact⟨a,0,rfl,by simp,.inl rfl⟩,.inr ⟨fun _ h=>by(cases h),fun _ h=>by(cases h)⟩⟩
   ·rename_i b ver sz off len _;split at e
    ·rename_i hb;simp at e; obtain⟨rfl,rfl⟩:=e;refine⟨S,Ext.refl _ _ _ _,rfl,fun _ _=>rfl,fun _ _ h=>h,?_,Shape.refl _⟩
     unfold Rel at*;rcases hr with⟨c,cap,h1,h2⟩ | ⟨h1,h2⟩
     ·exact .inl ⟨c,cap,by unfold XK; rw[if_pos hb]; exact h1,h2⟩
     ·exact .inr ⟨by unfold XK; rw[if_pos hb]; exact h1,h2⟩
    ·rename_i hb;split at e
     ·rename_i els hlook;split at e
      ·rename_i l' h1 hl;simp at e; obtain⟨rfl,rfl⟩:=e;obtain⟨all,hbl,hoff,rfl⟩:=Qcj hlook
       obtain⟨S1,E1⟩:=QmP S (Yf hbl) (by
        unfold Rel at hr;rcases hr with⟨c,_,h2,_⟩ | ⟨h2,_⟩<;>exact⟨_,_,h2⟩)
       have hlen:=QbF hl;have hcold: ∀k,k<base->(kill h b ver)[k]? =h[k]?:=fun k hk=>Yl (by omega)
       unfold Rel at hr;rcases hr with⟨c,cap,h2,rfl,h3,h4⟩ | ⟨h2,rfl,rfl,a,rfl⟩
       ·obtain⟨_,_,hbe⟩:=S.arr b ver sz all c hbl h2;have hbe1:=(hbe.mono (fun _ _ h=>h) E1.view E1.beta).part off len
        obtain⟨S2,E2,n2,o2,c2,r2⟩:=QgD (rd:=rdw w) ih hl S1 hbe1
        have hnl: ¬Live wr β h1 c:=by
         rintro⟨k,v,h5,h6,h7⟩
         have h8:=c2 k v h6;have h9:=ZP h8;exact h9.2 (S.inj k b v ver c h9.1 (Yf hbl) h7 h2)
        refine⟨S2,E1.trans E2,n2.trans (Wc _ _ _),fun k hk=>(o2 k hk).trans (hcold k hk),fun k v h=>(ZP (c2 k v h)).1,?_,.inr ⟨fun _ h=>by(cases h),fun _ h=>by(cases h)⟩⟩
        unfold Rel;have hll:l'.length=len:=by rw[hlen]; simp; omega
        refine⟨_,cap,by rw[hll],by omega,.inr ⟨c,off*sz,sz,rfl,Zx.2 (r2.mono (fun p v hp=>WN hp hnl) (View.Le.refl _) (Beta.Le.refl _))⟩⟩
       ·simp[XW]at hl;obtain⟨rfl,rfl⟩:=hl;refine⟨S1,E1,Wc _ _ _,hcold,fun k v h=>(ZP h).1,?_,.inr ⟨fun _ h=>by(cases h),fun _ h=>by(cases h)⟩⟩
        unfold Rel;exact⟨a,0,rfl,by simp,.inl rfl⟩
      ·cases e
     ·cases e
   ·rename_i b ver sz i o _;split at e
    ·rename_i hb;simp at e; obtain⟨rfl,rfl⟩:=e;refine⟨S,Ext.refl _ _ _ _,rfl,fun _ _=>rfl,fun _ _ h=>h,?_,Shape.refl _⟩
     unfold Rel at*;obtain⟨c,h1,h2⟩:=hr;exact⟨c,by unfold XK; rw[if_pos hb]; exact h1,h2⟩
    ·cases e
   ·rename_i b _;split at e
    ·rename_i hb;simp at e; obtain⟨rfl,rfl⟩:=e;refine⟨S,Ext.refl _ _ _ _,rfl,fun _ _=>rfl,fun _ _ h=>h,?_,Shape.refl _⟩
     unfold Rel at*;obtain⟨c,h1,h2⟩:=hr;exact⟨c,by unfold XK; rw[if_pos hb]; exact h1,h2⟩
    ·cases e
   ·rename_i b _;split at e
    ·rename_i hb;simp at e; obtain⟨rfl,rfl⟩:=e;refine⟨S,Ext.refl _ _ _ _,rfl,fun _ _=>rfl,fun _ _ h=>h,?_,Shape.refl _⟩
     unfold Rel at*;exact⟨by unfold XK; rw[if_pos hb]; exact hr.1,hr.2⟩
    ·cases e
   ·cases e
theorem Qrb {base n:Nat}{v v':AV}{h h':H}(e:frz base n v h=some (v',h'))(h1:v.one=true):v'.one=true:=by
 cases n with
 | zero=>
  unfold frz at e;split at e
  ·simp at e; rw[←e.1]; exact h1
  ·cases e
 | succ n=>
  unfold frz at e;split at e
  ·simp at e; rw[←e.1]; exact h1
  ·split at e
   ·simp[AV.one]at h1
   ·simp[AV.one]at h1
   ·split at e
    ·simp at e; rw[←e.1]; rfl
    ·cases e
   ·simp at e; rw[←e.1]; rfl
   ·split at e
    ·simp at e; rw[←e.1]; exact h1
    ·split at e
     ·split at e
      ·simp at e; rw[←e.1]; rfl
      ·cases e
     ·cases e
   ·split at e
    ·simp at e; rw[←e.1]; exact h1
    ·cases e
   ·split at e
    ·simp at e; rw[←e.1]; exact h1
    ·cases e
   ·split at e
    ·simp at e; rw[←e.1]; exact h1
    ·cases e
   ·cases e
theorem Qkk {base n:Nat}: ∀{l l':List AV} {h h':H},XW (frz base n) l h=some (l',h')->l.all AV.one=true->l'.all AV.one=true
 | [],l',h,h',e,_=>by simp[XW]at e; rw[e.1]; rfl
 | v::l,l',h,h',e,h1=>by
  unfold XW at e;simp only[List.all_cons,Bool.and_eq_true]at h1;cases h2:frz base n v h with
  | none=>rw[h2]at e; simp at e
  | some p=>
   obtain⟨v',h3⟩:=p;rw[h2]at e;dsimp only at e;cases h4:XW (frz base n) l h3 with
   | none=>rw[h4]at e; simp at e
   | some q=>
    obtain⟨l2,h5⟩:=q;rw[h4]at e;simp at e;rw[←e.1];simp only[List.all_cons,Bool.and_eq_true];exact⟨Qrb h2 h1.1,Qkk h4 h1.2⟩
theorem Qvp {base n:Nat}{v v':AV}{h h':H}(e:frz base n v h=some (v',h'))(h1:v.ZF=true):v'.ZF=true:=by
 by_cases ha: ∃l,v= .agg l
 ·obtain⟨l,rfl⟩:=ha;cases n with
  | zero=>
   unfold frz at e;split at e
   ·simp at e; rw[←e.1]; exact h1
   ·cases e
  | succ n=>
   unfold frz at e;split at e
   ·simp at e; rw[←e.1]; exact h1
   ·dsimp only at e;split at e
    ·rename_i l' h2 hl;simp at e; rw[←e.1];exact Qkk hl h1
    ·cases e
 ·have hx: ∀l,v≠ .agg l:=fun l e=>ha ⟨l,e⟩
  rw[AV.ZF,Xm hx]at h1;simp at h1;have h2:=Qrb e h1;have hx2: ∀l,v'≠ .agg l:=fun l e=>by rw[e]at h2; simp[AV.one]at h2
  rw[AV.ZF,Xm hx2];simp[h2]
end Go.Avm
