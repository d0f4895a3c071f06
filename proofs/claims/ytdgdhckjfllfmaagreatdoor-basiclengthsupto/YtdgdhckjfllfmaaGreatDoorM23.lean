/- A region in the order in which it is reckoned with: what its steps do. -/
import Derived.Test.YtdgdhckjfllfmaaGreatDoorM22
set_option linter.all false
namespace Go.Avm
open Go.RowKit
def reads (f : Op1) : List Nat:=f.i.slots++(match f.g with | some (s,_)=>[s] | none=>[])
def GOn (g : Option (Nat × Bool)) (e : Env) : Prop:=∀ s w,g=some (s,w)→e.get s=some (.bool w)
def GOff (g : Option (Nat × Bool)) (e : Env) : Prop:=∃ s w,g=some (s,w)∧(e.get s=some (.bool (!w)) ∨ e.get s=some (.tup []))
def isTouch (pf : FuncId→Bool) (dyn : List Dyn) (i : I) : Prop:=match kindOf pf dyn i with | .touch _=>True | .ecall=>True | _=>False
def dynAlive (dyn : List Dyn) (x : O) : Bool:=dyn.any fun d=>match d with | .alive y=>O.same y x | _=>false
def dynFar (dyn : List Dyn) (x y : O) : Bool:=dyn.any fun d=>match d with | .far a b=>O.same a x && O.same b y | _=>false
def kindsOk (dyn : List Dyn) : Kd→Kd→Bool
 | .free,_=>true
 | .read x,k=>(match k with
  | .free | .read _ | .birth | .call=>true
  | .touch y=>dynAlive dyn x && (match y with | some y=>dynFar dyn x y | none=>true)
  | .ecall=>false)
 | .birth,_=>true
 | .call,k=>(match k with | .free | .read _=>true | _=>false)
 | .touch _,k=>(match k with | .free=>true | _=>false)
 | .ecall,k=>(match k with | .free=>true | _=>false)
def Dyn.opds : Dyn→List O
 | .far x y=>[x,y]
 | .pur x=>[x]
 | .alive x=>[x]
def dynSlots (dyn : List Dyn) : List Nat:=dyn.flatMap fun d=>d.opds.flatMap O.slots
structure Stat (P : Program) (n : Nat) (ops : Array Oper) (it : Nat→Option (Op1 × Nat)) (m : Nat) (pf : FuncId→Bool) (dyn : List Dyn) : Prop where
 op : ∀ k,k < m→∀ f j,it k=some (f,j)→∃ o,ops[j]? = some o∧op1Is P n ops o f=true
 all : ∀ j,j < ops.size→∃ k,k < m∧∃ f,it k=some (f,j)
 inj : ∀ k k' f f' j,k < m→k' < m→it k=some (f,j)→it k'=some (f',j)→k=k'
 lin : ∀ k f j o,k < m→it k=some (f,j)→ops[j]? = some o→∀ e ∈ o.after,Region.binds .any e=true→∃ k',k' < k∧∃ f',it k'=some (f',e.on)
 dst : ∀ k k' f f' j j' d,k < k'→k' < m→it k=some (f,j)→it k'=some (f',j')→f.d=some d→f'.d ≠ some d
 data : ∀ k k' f f' j j' d,k < k'→k' < m→it k=some (f,j)→it k'=some (f',j')→f.d=some d→d ∈ reads f'→ahead (clos ops) j j'=true
 anti : ∀ k k' f f' j j' d,k < k'→k' < m→it k=some (f,j)→it k'=some (f',j')→f'.d=some d→d ∈ reads f→ahead (clos ops) j j'=true
 kinds : ∀ k k' f f' j j',k < k'→k' < m→it k=some (f,j)→it k'=some (f',j')→ahead (clos ops) j j'=true ∨ kindsOk dyn (kindOf pf dyn f.i) (kindOf pf dyn f'.i)=true
 stab : ∀ k k' f f' j j' s,k≤k'→k' < m→it k=some (f,j)→it k'=some (f',j')→s ∈ f.i.slots→s ∈ dynSlots dyn→f'.d ≠ some s
structure Trace (call : CallF) (fpol : FuncId→Option Pol) (base ws : Nat) (it : Nat→Option (Op1 × Nat)) (m : Nat) (E : Nat→Env) (Hp : Nat→H) : Prop where
 drop : ∀ k,k < m→it k=none→Hp (k + 1)=Hp k∧∀ s x,(E (k + 1)).get s=some x→(E k).get s=some x
 step : ∀ k,k < m→∀ f j,it k=some (f,j)→∃ v,((GOn f.g (E k)∧doOp call fpol base ws (E k) (Hp k) f.i=some (v,Hp (k + 1))) ∨ (GOff f.g (E k)∧v = .tup []∧Hp (k + 1)=Hp k))∧E (k + 1)=putD (E k) f.d v
section
variable {P : Program} {n : Nat} {ops : Array Oper} {it : Nat→Option (Op1 × Nat)} {m : Nat} {pf : FuncId→Bool} {dyn : List Dyn} {call : CallF} {fpol : FuncId→Option Pol} {base ws : Nat} {E : Nat→Env} {Hp : Nat→H}
theorem Trace.len (T : Trace call fpol base ws it m E Hp) (hc : CallKeep call) (hb : base≤(Hp 0).length) : ∀ k,k≤m→base≤(Hp k).length∧(Hp 0).length≤(Hp k).length
 | 0,_=>⟨hb,Nat.le_refl _⟩
 | k + 1,hk=>by
  obtain ⟨h1,h2⟩:=T.len hc hb k (by omega)
  have h3 : (Hp k).length≤(Hp (k + 1)).length:=by
   cases hi : it k with
   | none=>rw [(T.drop k (by omega) hi).1]; exact Nat.le_refl _
   | some p=>
    obtain ⟨v,h4,_⟩:=T.step k (by omega) p.1 p.2 hi
    rcases h4 with ⟨_,h4⟩ | ⟨_,_,h4⟩
    ·exact (doOp_keep hc h4 h1).1.1
    ·rw [h4]; exact Nat.le_refl _
  exact ⟨Nat.le_trans h1 h3,Nat.le_trans h2 h3⟩
theorem Trace.mono (T : Trace call fpol base ws it m E Hp) (hc : CallKeep call) (hb : base≤(Hp 0).length) {k k' : Nat} (hk : k≤k') (hm : k'≤m) : (Hp k).length≤(Hp k').length:=by
 induction k' with
 | zero=>rw [Nat.le_zero.1 hk]; exact Nat.le_refl _
 | succ k' ih=>
  rcases Nat.lt_or_ge k (k' + 1) with h1 | h1
  ·refine Nat.le_trans (ih (by omega) (by omega)) ?_
   cases hi : it k' with
   | none=>rw [(T.drop k' (by omega) hi).1]; exact Nat.le_refl _
   | some p=>
    obtain ⟨v,h4,_⟩:=T.step k' (by omega) p.1 p.2 hi
    rcases h4 with ⟨_,h4⟩ | ⟨_,_,h4⟩
    ·exact (doOp_keep hc h4 (T.len hc hb k' (by omega)).1).1.1
    ·rw [h4]; exact Nat.le_refl _
  ·rw [Nat.le_antisymm hk h1]; exact Nat.le_refl _
theorem Trace.src (T : Trace call fpol base ws it m E Hp) {s : Nat} {x : AV} : ∀ k,k≤m→(E k).get s=some x →
    (∃ k' f j,k' < k∧it k'=some (f,j)∧f.d=some s∧(E (k' + 1)).get s=some x) ∨ ((E 0).get s=some x∧∀ k' f j,k' < k→it k'=some (f,j)→f.d ≠ some s)
 | 0,_,h=>.inr ⟨h,fun k' f j hk=>by omega⟩
 | k + 1,hk,h=>by
  have up : (∀ f j,it k=some (f,j)→f.d ≠ some s)→(E k).get s=some x→(∃ k' f j,k' < k + 1∧it k'=some (f,j)∧f.d=some s∧(E (k' + 1)).get s=some x) ∨ ((E 0).get s=some x∧∀ k' f j,k' < k + 1→it k'=some (f,j)→f.d ≠ some s):=by
   intro hno hg
   rcases T.src k (by omega) hg with ⟨k',f,j,h1,h2,h3,h4⟩ | ⟨h1,h2⟩
   ·exact .inl ⟨k',f,j,by omega,h2,h3,h4⟩
   ·refine .inr ⟨h1,fun k' f j hk' hi=>?_⟩
    rcases Nat.lt_or_ge k' k with h3 | h3
    ·exact h2 k' f j h3 hi
    ·have : k'=k:=by omega
     subst this
     exact hno f j hi
  cases hi : it k with
  | none=>exact up (fun f j h=>by rw [hi] at h; cases h) ((T.drop k (by omega) hi).2 s x h)
  | some p=>
   obtain ⟨f,j⟩:=p
   obtain ⟨v,_,h5⟩:=T.step k (by omega) f j hi
   by_cases hd : f.d=some s
   ·exact .inl ⟨k,f,j,by omega,hi,hd,h⟩
   ·refine up (fun f' j' h'=>by rw [hi] at h'; injection h' with h'; injection h' with h1 h2; subst h1; exact hd) ?_
    rw [h5,get_putD,if_neg hd] at h
    exact h
theorem Trace.back (T : Trace call fpol base ws it m E Hp) {s : Nat} {x : AV} {k : Nat} (hno : ∀ k' f j,k≤k'→k' < m→it k'=some (f,j)→f.d ≠ some s) (hx : (E m).get s=some x) : ∀ k',k≤k'→k'≤m→(E k').get s=some x:=by
 have go : ∀ i k',k≤k'→k' + i=m→(E k').get s=some x:=by
  intro i
  induction i with
  | zero=>intro k' _ h; rw [Nat.add_zero] at h; rw [h]; exact hx
  | succ i ih=>
   intro k' h1 h2
   have h3:=ih (k' + 1) (by omega) (by omega)
   cases hi : it k' with
   | none=>exact (T.drop k' (by omega) hi).2 s x h3
   | some p=>
    obtain ⟨f,j⟩:=p
    obtain ⟨v,_,h5⟩:=T.step k' (by omega) f j hi
    rw [h5,get_putD,if_neg (hno k' f j h1 (by omega) hi)] at h3
    exact h3
 exact fun k' h1 h2=>go (m - k') k' h1 (by omega)
theorem same_eq {x y : O} (h : O.same x y=true) : x=y∧∃ n,x = .t n:=by
 cases x <;> cases y <;> simp [O.same] at h
 subst h
 exact ⟨rfl,_,rfl⟩
theorem dyn_val (T : Trace call fpol base ws it m E Hp) (St : Stat P n ops it m pf dyn) {k : Nat} {f : Op1} {j : Nat} (hk : k < m) (hi : it k=some (f,j)) {x : O} (hx : x ∈ f.i.opds) {d : Dyn} (hd : d ∈ dyn) (hxd : x ∈ d.opds) {v : AV} (hv : x.val (E m)=some v) : x.val (E k)=some v:=by
 cases x with
 | k u=>exact hv
 | t s=>
  refine T.back (k:=k) (fun k' f' j' h1 h2 h3=>St.stab k k' f f' j j' s h1 h2 hi h3 ?_ ?_) hv k (Nat.le_refl _) (Nat.le_of_lt hk)
  ·exact List.mem_flatMap.2 ⟨_,hx,by simp [O.slots]⟩
  ·exact List.mem_flatMap.2 ⟨d,hd,List.mem_flatMap.2 ⟨_,hxd,by simp [O.slots]⟩⟩
theorem pure_val (T : Trace call fpol base ws it m E Hp) (St : Stat P n ops it m pf dyn) (hf : farAll (E m) (Hp m) dyn=true) {k : Nat} {f : Op1} {j : Nat} (hk : k < m) (hi : it k=some (f,j)) : ∀ x ∈ f.i.opds,isPur dyn x=true→∀ v,x.val (E k)=some v→v.pure=true:=by
 intro x hx hp v hv
 cases x with
 | k u=>simp only [O.val] at hv; injection hv with hv; subst hv; simpa [isPur] using hp
 | t s=>
  simp only [isPur,List.any_eq_true] at hp
  obtain ⟨d,hd,hds⟩:=hp
  cases d <;> simp at hds
  rename_i y
  obtain ⟨rfl,_⟩:=same_eq hds
  have:=List.all_eq_true.1 hf _ hd
  simp only [Dyn.ok] at this
  split at this
  ·rename_i u hu
   have h1:=dyn_val T St hk hi hx hd (by simp [Dyn.opds]) hu
   rw [hv] at h1; injection h1 with h1; subst h1
   exact this
  ·cases this
theorem step_app (T : Trace call fpol base ws it m E Hp) (St : Stat P n ops it m pf dyn) (hf : farAll (E m) (Hp m) dyn=true) (hpu : CallPure call fpol) (hpf : ∀ g,pf g=true→(fpol g=some .snap ∨ ∃ b,fpol g=some (.pur b))) {k : Nat} {f : Op1} {j : Nat} (hk : k < m) (hi : it k=some (f,j)) (ht : ¬ isTouch pf dyn f.i) : ∃ t,Hp (k + 1)=Hp k++t:=by
 obtain ⟨v,h1,_⟩:=T.step k hk f j hi
 have hpv:=pure_val T St hf hk hi
 rcases h1 with ⟨_,h1⟩ | ⟨_,_,h1⟩
 ·cases hkd : kindOf pf dyn f.i with
  | free=>
   have : evI base ws (E k) (Hp k) f.i=some (v,Hp (k + 1)):=by
    cases hfi : f.i <;> rw [hfi] at h1 hkd <;> first | exact h1 | (simp only [kindOf] at hkd; split at hkd <;> cases hkd)
   exact ⟨[],by rw [(free_any hkd this).1,List.append_nil]⟩
  | read x=>
   have : evI base ws (E k) (Hp k) f.i=some (v,Hp (k + 1)):=by
    cases hfi : f.i <;> rw [hfi] at h1 hkd <;> first | exact h1 | (simp only [kindOf] at hkd; split at hkd <;> cases hkd)
   exact ⟨[],by rw [(read_any hkd this).1,List.append_nil]⟩
  | birth=>
   cases hfi : f.i <;> rw [hfi] at h1 hkd hpv <;> simp only [kindOf] at hkd
   case box sz y=>
    simp only [doOp,evI] at h1
    split at h1
    ·split at h1
     ·simp at h1; exact ⟨_,h1.2.symm⟩
     ·cases h1
    ·cases h1
   case own0 sz=>simp [doOp,evI] at h1; exact ⟨_,h1.2.symm⟩
   case bsl sz q zero ps=>
    split at hkd
    ·rename_i hall
     simp only [doOp,evI] at h1
     split at h1
     ·rename_i els h2 hb1
      obtain ⟨h3,_⟩:=bslP_pure (fun p hp' v hv=>hpv p.2 (List.mem_map.2 ⟨p,hp',rfl⟩) (List.all_eq_true.1 hall p hp') v hv) hb1
      simp at h1
      exact ⟨_,by rw [← h1.2,h3]⟩
     ·cases h1
    ·cases hkd
   all_goals first | (cases hkd; done) | (split at hkd <;> cases hkd)
  | call=>
   cases hfi : f.i <;> rw [hfi] at h1 hkd <;> simp only [kindOf] at hkd
   case call g args=>
    split at hkd
    ·rename_i hp
     simp only [doOp] at h1
     split at h1
     ·exact hpu _ _ _ _ _ _ (hpf g hp) h1
     ·cases h1
    ·cases hkd
   case callv pu g args=>
    split at hkd
    ·rename_i hp
     simp only [doOp] at h1
     split at h1
     ·rw [if_pos hp] at h1
      split at h1
      ·rename_i hg; exact hpu _ _ _ _ _ _ (.inl hg) h1
      ·rename_i b hg; exact hpu _ _ _ _ _ _ (.inr ⟨b,hg⟩) h1
      ·cases h1
     ·cases h1
    ·cases hkd
   all_goals first | (cases hkd; done) | (split at hkd <;> cases hkd)
  | touch x=>exact absurd (by unfold isTouch; rw [hkd]; trivial) ht
  | ecall=>exact absurd (by unfold isTouch; rw [hkd]; trivial) ht
 ·exact ⟨[],by rw [h1,List.append_nil]⟩
theorem seg_app (T : Trace call fpol base ws it m E Hp) (St : Stat P n ops it m pf dyn) (hf : farAll (E m) (Hp m) dyn=true) (hpu : CallPure call fpol) (hpf : ∀ g,pf g=true→(fpol g=some .snap ∨ ∃ b,fpol g=some (.pur b))) {k : Nat} : ∀ k',k≤k'→k'≤m →
    (∀ i f j,k≤i→i < k'→it i=some (f,j)→¬ isTouch pf dyn f.i)→∃ t,Hp k'=Hp k++t
 | 0,h1,_,_=>⟨[],by rw [Nat.le_zero.1 h1,List.append_nil]⟩
 | k' + 1,h1,h2,hno=>by
  rcases Nat.lt_or_ge k (k' + 1) with h3 | h3
  ·obtain ⟨t,ht⟩:=seg_app T St hf hpu hpf k' (by omega) (by omega) fun i f j a b=>hno i f j a (by omega)
   cases hi : it k' with
   | none=>exact ⟨t,by rw [(T.drop k' (by omega) hi).1,ht]⟩
   | some p=>
    obtain ⟨f,j⟩:=p
    obtain ⟨t2,ht2⟩:=step_app T St hf hpu hpf (by omega) hi (hno k' f j (by omega) (by omega) hi)
    exact ⟨t++t2,by rw [ht2,ht,List.append_assoc]⟩
  ·have : k=k' + 1:=Nat.le_antisymm h1 h3
   exact ⟨[],by rw [this,List.append_nil]⟩
end
end Go.Avm
