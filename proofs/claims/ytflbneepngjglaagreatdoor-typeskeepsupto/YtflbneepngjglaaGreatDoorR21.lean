/- A drawn region: one more operation comes up. -/
import Derived.Test.YtflbneepngjglaaGreatDoorR20
set_option linter.all false
namespace Go.Avm
open Go.RowKit
theorem fresh_of {β0 β1 β2 : Beta} {h0 h1 h2 : H} (F : Fresh β0 h0 β1 h1) (hb : ∀ b,b < h0.length→∀ v,β2 b v = β1 b v) (hh : ∀ b,b < h0.length→h2[b]? = h1[b]?) : Fresh β0 h0 β2 h2:=
 ⟨fun b hl hn v=>by rw [hb b hl]; exact F.fresh b hl hn v,fun b v hl hc=>F.ver b v hl (by unfold cur at hc ⊢; rwa [← hh b hl]),fun b v hl hv hn=>by rw [hb b hl]; exact F.freshv b v hl hv hn,fun b hl hn=>(hh b hl).trans (F.keep b hl hn)⟩
theorem ext0_more {w0 w : World} {wr : Nat} {β : Beta} {h : H} (S : Sim w0 wr β h w) (t : H) : Ext0 wr β h w β (h++t) w:=
 ⟨rfl,rfl,rfl,Nat.le_refl _,by simp,Beta.Le.refl _,fun c _ hl=>⟨rfl,fun h2=>hl ((live_more S t c).1 h2)⟩,fun _ _ _ _ h=>⟨_,_,h,rfl⟩⟩
def Dn (listed : Array Bool) (j : Nat) : Prop:=listed.getD j false=true
theorem dn_set {listed : Array Bool} {j i : Nat} (hj : j < listed.size) : Dn (listed.setIfInBounds j true) i ↔ Dn listed i ∨ i=j:=by
 unfold Dn
 by_cases h : j=i
 ·subst h; simp [hj]
 ·rw [getD_set_ne false h]
  constructor
  ·exact fun h1=>.inl h1
  ·rintro (h1 | h1)
   ·exact h1
   ·exact absurd h1.symm h
section
variable (P : Program) (n : Nat) (ops : Array Oper) (it : Nat→Option (Op1 × Nat)) (m : Nat) (pf : FuncId→Bool) (dyn : List Dyn) (E : Nat→Env) (Hp : Nat→H) (w0 wst : World) (wr : Nat) (β0 : Beta) (a0 : Act)
structure Inv (listed : Array Bool) (a : Act) (w : World) (c : Nat) (β : Beta) : Prop where
 cm : c≤m
 c1 : ∀ k f j,k < c→it k=some (f,j)→isTouch pf dyn f.i→Dn listed j
 c2 : c=m ∨ (c < m∧∃ f j,it c=some (f,j)∧isTouch pf dyn f.i∧¬ Dn listed j)
 closed : ∀ j o,Dn listed j→ops[j]? = some o→∀ e ∈ o.after,Region.binds .any e=true→Dn listed e.on
 size : listed.size=ops.size
 sim : Sim w0 wr β (Hp c) w
 ext : Ext wr β0 (Hp 0) wst β (Hp c) w
 unborn : ∀ k f j,k < m→it k=some (f,j)→¬ Dn listed j→∀ b,(Hp k).length≤b→b < (Hp (k + 1)).length→∀ v,β b v=none
 pend : ∀ k f j,k < c→it k=some (f,j)→¬ Dn listed j→∀ b,(Hp k).length≤b→b < (Hp (k + 1)).length→(Hp c)[b]? = (Hp (k + 1))[b]?
 slots1 : ∀ k f j,k < m→it k=some (f,j)→Dn listed j→∀ d x,f.d=some d→(E (k + 1)).get d=some x→∃ u,a.tmps[d]? = some u∧Rel (view wr β (Hp c) w) β x u
 slots0 : ∀ d x,(E 0).get d=some x→(∀ k f j,k < m→it k=some (f,j)→Dn listed j→f.d ≠ some d)→∃ u,a.tmps[d]? = some u∧Rel (view wr β (Hp c) w) β x u
 defers : a.defers=a0.defers
 tsize : a.tmps.size=a0.tmps.size
end
section
variable {P : Program} {n : Nat} {ops : Array Oper} {it : Nat→Option (Op1 × Nat)} {m : Nat} {pf : FuncId→Bool} {dyn : List Dyn} {E : Nat→Env} {Hp : Nat→H} {w0 wst : World} {wr : Nat} {β0 : Beta} {a0 : Act}
 {call : CallF} {fpol : FuncId→Option Pol} {base ws : Nat} {Q : Exit→Act→World→Prop}
theorem inv_next {listed : Array Bool} {a : Act} {w w' : World} {c c' k j : Nat} {β β' : Beta} {f : Op1} {v' : Value} (St : Stat P n ops it m pf dyn) (hn : n≤a0.tmps.size) (I : Inv ops it m pf dyn E Hp w0 wst wr β0 a0 listed a w c β) (hk : k < m) (hi : it k=some (f,j)) {o : Oper} (ho : ops[j]? = some o)
    (hop : op1Is P n ops o f=true) (hready : ∀ e ∈ o.after,Region.binds .any e=true→Dn listed e.on)
    (cm : c'≤m) (c1 : ∀ k1 f1 j1,k1 < c'→it k1=some (f1,j1)→isTouch pf dyn f1.i→Dn listed j1 ∨ j1=j) (c2 : c'=m ∨ (c' < m∧∃ f1 j1,it c'=some (f1,j1)∧isTouch pf dyn f1.i∧¬ Dn listed j1∧j1 ≠ j))
    (sim : Sim w0 wr β' (Hp c') w') (e0 : Ext0 wr β (Hp c) w β' (Hp c') w') (ext : Ext wr β0 (Hp 0) wst β' (Hp c') w')
    (unborn : ∀ k1 f1 j1,k1 < m→k1 ≠ k→it k1=some (f1,j1)→¬ Dn listed j1→∀ b,(Hp k1).length≤b→b < (Hp (k1 + 1)).length→∀ v,β' b v=none)
    (pend : ∀ k1 f1 j1,k1 < c'→k1 ≠ k→it k1=some (f1,j1)→¬ Dn listed j1→∀ b,(Hp k1).length≤b→b < (Hp (k1 + 1)).length→(Hp c')[b]? = (Hp (k1 + 1))[b]?)
    (rel : ∀ d x,f.d=some d→(E (k + 1)).get d=some x→Rel (view wr β' (Hp c') w') β' x v') :
    Inv ops it m pf dyn E Hp w0 wst wr β0 a0 (listed.setIfInBounds j true) (a.put o.dst v') w' c' β':=by
 have hjl : j < listed.size:=by rw [I.size]; exact (Array.getElem?_eq_some_iff.1 ho).1
 have dn : ∀ i,Dn (listed.setIfInBounds j true) i ↔ Dn listed i ∨ i=j:=fun i=>dn_set hjl
 unfold op1Is at hop
 obtain ⟨hop,_⟩:=and2 hop
 obtain ⟨hop,_⟩:=and2 hop
 obtain ⟨hd,hin⟩:=and2 hop
 have hd : o.dst=f.d:=by simpa using hd
 have ne_of : ∀ {k1 f1 j1},it k1=some (f1,j1)→¬ Dn (listed.setIfInBounds j true) j1→k1 ≠ k∧¬ Dn listed j1:=fun {k1 f1 j1} h1 h2=>by
  rw [dn] at h2
  refine ⟨?_,fun h=>h2 (.inl h)⟩
  rintro rfl
  rw [hi] at h1
  injection h1 with h1; injection h1 with h1 h3
  exact h2 (.inr h3.symm)
 have put_ne : ∀ {d : Nat} {u : Value},f.d ≠ some d→a.tmps[d]? = some u→(a.put o.dst v').tmps[d]? = some u:=fun {d u} h1 h2=>by
  rw [hd]
  cases hfd : f.d with
  | none=>exact h2
  | some q=>
   have : q ≠ d:=fun e=>h1 (by rw [hfd,e])
   simp [Act.put,Array.getElem?_setIfInBounds_ne this,h2]
 refine ⟨cm,fun k1 f1 j1 h1 h2 h3=>(dn j1).2 (c1 k1 f1 j1 h1 h2 h3),?_,?_,by simp [I.size],sim,ext,fun k1 f1 j1 h1 h2 h3=>?_,fun k1 f1 j1 h1 h2 h3=>?_,?_,?_,by rw [put_defers]; exact I.defers,by rw [put_size]; exact I.tsize⟩
 ·rcases c2 with h1 | ⟨h0,f1,j1,h1,h2,h3,h4⟩
  ·exact .inl h1
  ·exact .inr ⟨h0,f1,j1,h1,h2,fun h=>by rcases (dn j1).1 h with h | h; exact h3 h; exact h4 h⟩
 ·intro i o' h1 h2 e he hb
  rw [dn]
  rcases (dn i).1 h1 with h1 | rfl
  ·exact .inl (I.closed i o' h1 h2 e he hb)
  ·rw [ho] at h2; injection h2 with h2; subst h2
   exact .inl (hready e he hb)
 ·obtain ⟨h4,h5⟩:=ne_of h2 h3
  exact unborn k1 f1 j1 h1 h4 h2 h5
 ·obtain ⟨h4,h5⟩:=ne_of h2 h3
  exact pend k1 f1 j1 h1 h4 h2 h5
 ·intro k1 f1 j1 h1 h2 h3 d x h4 h5
  by_cases hkk : k1=k
  ·subst hkk
   rw [hi] at h2
   injection h2 with h2; injection h2 with h2 _
   subst h2
   refine ⟨v',?_,rel d x h4 h5⟩
   have hdn : d < a.tmps.size:=by rw [h4] at hin; simp [inTmps] at hin; rw [I.tsize]; omega
   rw [hd,h4]
   simp [Act.put,hdn]
  ·have h6 : Dn listed j1:=by
     rcases (dn j1).1 h3 with h6 | h6
     ·exact h6
     ·subst h6; exact absurd (St.inj k1 k f1 f j1 h1 hk h2 hi) hkk
   obtain ⟨u,h7,h8⟩:=I.slots1 k1 f1 j1 h1 h2 h6 d x h4 h5
   refine ⟨u,put_ne (fun h9=>?_) h7,h8.to e0.view e0.beta⟩
   rcases Nat.lt_or_ge k1 k with h10 | h10
   ·exact St.dst k1 k f1 f j1 j d h10 hk h2 hi h4 h9
   ·exact St.dst k k1 f f1 j j1 d (by omega) h1 hi h2 h9 h4
 ·intro d x h1 h2
  obtain ⟨u,h7,h8⟩:=I.slots0 d x h1 fun k1 f1 j1 h3 h4 h5=>h2 k1 f1 j1 h3 h4 ((dn j1).2 (.inl h5))
  exact ⟨u,put_ne (h2 k f j hk hi ((dn j).2 (.inr rfl))) h7,h8.to e0.view e0.beta⟩
theorem born_apart (T : Trace call fpol base ws it m E Hp) (hc : CallKeep call) (hb : base≤(Hp 0).length) {k k' b : Nat} (hk : k < m) (hk' : k' < m) (h1 : (Hp k).length≤b) (h2 : b < (Hp (k + 1)).length) (h3 : (Hp k').length≤b) (h4 : b < (Hp (k' + 1)).length) : k=k':=by
 rcases Nat.lt_trichotomy k k' with h | h | h
 ·have:=T.mono hc hb (k:=k + 1) (k':=k') h (by omega); omega
 ·exact h
 ·have:=T.mono hc hb (k:=k' + 1) (k':=k) h (by omega); omega
theorem born_at (T : Trace call fpol base ws it m E Hp) (hc : CallKeep call) (hb : base≤(Hp 0).length) {k b : Nat} : ∀ c,k≤c→c≤m→(Hp k).length≤b→b < (Hp c).length→∃ i f j,k≤i∧i < c∧it i=some (f,j)∧(Hp i).length≤b∧b < (Hp (i + 1)).length
 | 0,h1,_,h3,h4=>by rw [Nat.le_zero.1 h1] at h3; omega
 | c + 1,h1,h2,h3,h4=>by
  rcases Nat.lt_or_ge b (Hp c).length with h5 | h5
  ·have hkc : k≤c:=by
     rcases Nat.lt_or_ge k (c + 1) with h | h
     ·omega
     ·have : k=c + 1:=by omega
      subst this; omega
   obtain ⟨i,f,j,a1,a2,a3⟩:=born_at T hc hb c hkc (by omega) h3 h5
   exact ⟨i,f,j,a1,by omega,a3⟩
  ·cases hi : it c with
   | none=>rw [(T.drop c (by omega) hi).1] at h4; omega
   | some p=>
    have hkc : k≤c:=by
     rcases Nat.lt_or_ge k (c + 1) with h | h
     ·omega
     ·have : k=c + 1:=by omega
      subst this; omega
    exact ⟨c,p.1,p.2,hkc,by omega,hi,h5,h4⟩
theorem next_touch (S : Nat→Prop) (c : Nat) (hcm : c≤m) : ∃ c',c≤c'∧c'≤m∧(∀ k f j,c≤k→k < c'→it k=some (f,j)→isTouch pf dyn f.i→S j)∧(c'=m ∨ (c' < m∧∃ f j,it c'=some (f,j)∧isTouch pf dyn f.i∧¬ S j)):=by
 have go : ∀ i c,c + i=m→∃ c',c≤c'∧c'≤m∧(∀ k f j,c≤k→k < c'→it k=some (f,j)→isTouch pf dyn f.i→S j)∧(c'=m ∨ (c' < m∧∃ f j,it c'=some (f,j)∧isTouch pf dyn f.i∧¬ S j)):=by
  intro i
  induction i with
  | zero=>intro c h; exact ⟨c,Nat.le_refl _,by omega,fun k f j h1 h2=>by omega,.inl (by omega)⟩
  | succ i ih=>
   intro c h
   by_cases hx : ∃ f j,it c=some (f,j)∧isTouch pf dyn f.i∧¬ S j
   ·exact ⟨c,Nat.le_refl _,by omega,fun k f j h1 h2=>by omega,.inr ⟨by omega,hx⟩⟩
   ·obtain ⟨c',h1,h2,h3,h4⟩:=ih (c + 1) (by omega)
    refine ⟨c',by omega,h2,fun k f j h5 h6 h7 h8=>?_,h4⟩
    rcases Nat.lt_or_ge c k with h9 | h9
    ·exact h3 k f j h9 h6 h7 h8
    ·have : k=c:=by omega
     subst this
     exact Classical.byContradiction fun h10=>hx ⟨f,j,h7,h8,h10⟩
 exact go (m - c) c (by omega)
end
end Go.Avm
