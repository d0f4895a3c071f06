/- '&&' and '||' laid flat: what is reckoned with says the same as the operations one behind the other. -/
import Derived.Test.YtflbneepngjglaaGreatDoorM14
set_option linter.all false
namespace Go.Avm
open Go.RowKit
section
variable {P : Program} {w0 : World} {wr base ws : Nat} {β : Beta} {h h' : H} {w : World} {e : Env} {a : Act} {u : AV} {o : Oper}
theorem sameOs_one {xs : List Operand} {y : O} (h : XG xs [y]=true) : ∃ x,xs=[x]/\Qm x y=true:=by
 cases xs with
 | nil=>simp [XG] at h
 | cons x r=>
  simp [XG] at h
  cases r with
  | nil=>exact ⟨x,rfl,h.1⟩
  | cons _ _=>simp [XG] at h
theorem sameOs_two {xs : List Operand} {y z : O} (h : XG xs [y,z]=true) : ∃ x q,xs=[x,q]/\Qm x y=true/\Qm q z=true:=by
 cases xs with
 | nil=>simp [XG] at h
 | cons x r=>
  rw [XG] at h
  obtain ⟨h1,h2⟩:=QL h
  obtain ⟨q,rfl,h3⟩:=sameOs_one h2
  exact ⟨x,q,rfl,h1,h3⟩
theorem evI_sound {i : I} (hop : opIs P o.op o.type i=true) (hE : Qo (view wr β h w) β e a.tmps) (S : Sim w0 wr β h w) (hws : wr<=ws) (hwb : wr<=base) (hbh : base<=h.length)
    (hev : evI base ws e h i=some (u,h')) : Xn P w0 wr β h w (execOp a.eval o) u h':=by
 have hwr : wr<=h.length:=Nat.le_trans hwb hbh
 cases i with
 | mv y=>
  simp only [opIs] at hop
  split at hop
  ·rename_i x ho; exact ok_mv (.inl ho) hop hE S hev
  ·rename_i x ho; exact ok_mv (.inr ho) hop hE S hev
  ·cases hop
 | own0 sz=>
  simp only [opIs] at hop
  split at hop
  ·rename_i v ho; exact ok_own0 (.inl ho) hop S hev
  ·rename_i v ho; exact ok_own0 (.inr ho) hop S hev
  ·cases hop
 | pick c x y=>
  simp only [opIs] at hop
  split at hop
  ·rename_i ho
   obtain ⟨h1,h3⟩:=QL hop
   obtain ⟨h1,h2⟩:=QL h1
   exact ok_pick ho h1 h2 h3 hE S hev
  ·cases hop
 | box sz y=>
  simp only [opIs] at hop
  split at hop
  ·rename_i t x ho; exact ok_box (.inl ⟨_,_,ho,hop⟩) hE S hwr hev
  ·rename_i t ho
   split at hop
   ·exact ok_box (.inr ⟨_,_,ho,rfl,hop⟩) hE S hwr hev
   ·cases hop
  ·cases hop
 | build zero ps=>
  simp only [opIs] at hop
  split at hop
  ·rename_i ho
   obtain ⟨h1,h3⟩:=QL hop
   obtain ⟨h1,h2⟩:=QL h1
   exact ok_build ho h1 h2 h3 hE S hev
  ·cases hop
 | bsl sz n zero ps=>
  simp only [opIs] at hop
  split at hop
  ·rename_i ho
   split at hop
   ·rename_i el hel
    simp only [Bool.and_eq_true,decide_eq_true_eq,beq_iff_eq] at hop
    obtain ⟨⟨⟨⟨⟨⟨⟨hn,h1⟩,h2⟩,h3⟩,h4⟩,h5⟩,h6⟩,h7⟩:=hop
    subst hn
    exact ok_bsl ho (XE hel) h1 h2 h3 h4 h5 h6 h7 hE S hwb hwr hev
   ·cases hop
  ·cases hop
 | ld sz ag y=>
  simp only [opIs] at hop
  split at hop
  ·rename_i ho
   obtain ⟨h1,h3⟩:=QL hop
   obtain ⟨h1,h2⟩:=QL h1
   exact ok_ld ho h1 h2 h3 hE S hev
  ·cases hop
 | st sz y v=>
  simp only [opIs] at hop
  split at hop
  ·rename_i ho
   obtain ⟨h1,h3⟩:=QL hop
   obtain ⟨h1,h2⟩:=QL h1
   exact ok_st ho h1 h2 h3 hE S hws hwb hev
  ·cases hop
 | nilc y=>
  simp only [opIs] at hop
  split at hop
  ·rename_i ho; exact ok_nilc ho hop hE S hev
  ·cases hop
 | bin bop x y=>
  simp only [opIs] at hop
  split at hop
  ·rename_i ho
   obtain ⟨h1,h3⟩:=QL hop
   obtain ⟨h1,h2⟩:=QL h1
   have h1:=of_decide_eq_true h1
   subst h1
   exact ok_bin ho h2 h3 hE S hev
  ·cases hop
 | eqk k neg x y=>
  simp only [opIs] at hop
  split at hop
  ·rename_i ho
   obtain ⟨h1,h5⟩:=QL hop
   obtain ⟨h1,h4⟩:=QL h1
   obtain ⟨h1,h3⟩:=QL h1
   obtain ⟨h1,h2⟩:=QL h1
   refine ok_eqk ho (of_decide_eq_true h1) h2 (fun hk=>?_) h3 h4 hE S hev
   subst hk
   simp only at h5
   split at h5
   ·exact .inl ⟨_,rfl⟩
   ·split at h5
    ·exact .inr ⟨_,rfl⟩
    ·cases h5
  ·cases hop
 | un uop x=>
  simp only [opIs] at hop
  split at hop
  ·rename_i ho
   obtain ⟨h1,h2⟩:=QL hop
   have h1:=of_decide_eq_true h1
   subst h1
   exact ok_un ho h2 hE S hev
  ·cases hop
 | conv c x=>
  simp only [opIs] at hop
  split at hop
  ·rename_i ho
   obtain ⟨h1,h2⟩:=QL hop
   exact ok_conv ho h1 h2 hE S hwr hev
  ·cases hop
 | mkfn f k cap=>
  simp only [opIs] at hop
  split at hop
  ·rename_i ho
   split at hop
   ·obtain ⟨h1,h3⟩:=QL hop
    obtain ⟨h1,h2⟩:=QL h1
    simp at h1 h2
    subst h1
    exact ok_mkfn ho h2 h3 hE S hev
   ·cases hop
  ·cases hop
 | mks sz lim zero l c=>
  simp only [opIs] at hop
  split at hop
  ·rename_i ho
   split at hop
   ·rename_i el hel
    simp only [Bool.and_eq_true,decide_eq_true_eq,beq_iff_eq] at hop
    obtain ⟨⟨⟨⟨⟨⟨⟨h1,h2⟩,h3⟩,h4⟩,h5⟩,h6⟩,h7⟩,h8⟩:=hop
    exact ok_mks ho (XE hel) h1 h2 h3 h4 h5 h6 h7 h8 hE S hwr hev
   ·cases hop
  ·cases hop
 | slc k x lo hi mx=>
  simp only [opIs] at hop
  split at hop
  ·rename_i ho
   obtain ⟨h1,h5⟩:=QL hop
   obtain ⟨h1,h4⟩:=QL h1
   obtain ⟨h1,h3⟩:=QL h1
   obtain ⟨h1,h2⟩:=QL h1
   refine ok_slc ho h1 h2 h3 h4 ?_ hE S hev
   cases k with
   | str=>exact isStr_run h5
   | sl sz=>
    simp only at h5
    split at h5
    ·rename_i el hel; exact ⟨el,XE hel,h5⟩
    ·cases h5
  ·cases hop
 | fadr off x=>
  simp only [opIs] at hop
  split at hop
  ·rename_i ho
   obtain ⟨h1,h2⟩:=QL hop
   split at h2
   ·rename_i fs hs
    split at h2
    ·rename_i z hz
     obtain ⟨h3,h4⟩:=QL h2
     split at h4
     ·rename_i i hi
      simp at h3 h4
      exact ok_fadr ho h1 hs hz h3 hi h4 hE S hev
     ·cases h4
    ·cases h2
   ·cases h2
  ·cases hop
 | fld off sz ag x=>
  simp only [opIs] at hop
  split at hop
  ·rename_i ho
   obtain ⟨h1,h3⟩:=QL hop
   obtain ⟨h1,h2⟩:=QL h1
   unfold fieldIs at h2
   split at h2
   ·rename_i fs hs
    split at h2
    ·rename_i z hz
     obtain ⟨h4,h5⟩:=QL h2
     simp at h4
     simp only [fieldType,hs,hz] at h3
     exact ok_fld ho h1 hs hz h4 rfl h5 h3 hE S hev
    ·cases h2
   ·cases h2
  ·cases hop
 | idxa sz x j=>
  simp only [opIs] at hop
  split at hop
  ·rename_i ho
   obtain ⟨h1,h3⟩:=QL hop
   obtain ⟨h1,h2⟩:=QL h1
   split at h3
   ·rename_i el hel
    exact ok_idxa ho h1 h2 (XE hel) (QL h3).1 hE S hev
   ·cases h3
  ·cases hop
 | idxp n sz x j=>
  simp only [opIs] at hop
  split at hop
  ·rename_i ho
   obtain ⟨h1,h3⟩:=QL hop
   obtain ⟨h1,h2⟩:=QL h1
   split at h3
   ·rename_i m el hel
    obtain ⟨h3,_⟩:=QL h3
    obtain ⟨h3,h4⟩:=QL h3
    obtain rfl : n=m:=by simpa using h3
    exact ok_idxp ho h1 h2 (arrayOf_run hel) h4 hE S hev
   ·cases h3
  ·cases hop
 | idxv n sz ag x j=>
  simp only [opIs] at hop
  split at hop
  ·rename_i ho
   obtain ⟨h1,h3⟩:=QL hop
   obtain ⟨h1,h2⟩:=QL h1
   split at h3
   ·rename_i m el hel
    obtain ⟨h3,h5⟩:=QL h3
    obtain ⟨h3,h4⟩:=QL h3
    obtain rfl : n=m:=by simpa using h3
    exact ok_idxv ho h1 h2 (arrayOf_run hel) h4 h5 hE S hev
   ·cases h3
  ·cases hop
 | idx x j=>
  simp only [opIs] at hop
  split at hop
  ·rename_i ho
   obtain ⟨h1,h3⟩:=QL hop
   obtain ⟨h1,h2⟩:=QL h1
   exact ok_idx ho h1 h2 (isStr_run h3) hE S hev
  ·cases hop
 | tupx x i=>
  simp only [opIs] at hop
  split at hop
  ·rename_i ho
   obtain ⟨h1,h2⟩:=QL hop
   simp at h2; subst h2
   exact ok_tupx ho h1 hE S hev
  ·cases hop
 | rng x=>
  simp only [opIs] at hop
  split at hop
  ·rename_i ho
   obtain ⟨h1,h2⟩:=QL hop
   exact ok_rng ho h1 (isStr_run h2) hE S hev
  ·cases hop
 | nxt x=>
  simp only [opIs] at hop
  split at hop
  ·rename_i y s ho
   obtain ⟨h1,h2⟩:=QL hop
   have h2 : s=true:=h2
   subst h2
   exact ok_nxt ho h1 hE S hwb hev
  ·cases hop
 | len s x=>
  simp only [opIs] at hop
  split at hop
  ·rename_i c ho
   split at hop
   ·rename_i hc
    obtain ⟨h1,h2⟩:=QL hop
    obtain ⟨y,h3,h4⟩:=sameOs_one h1
    split at h2
    ·rename_i t r ht
     refine ok_len ho hc h3 ⟨r,ht⟩ h4 ?_ hE S hev
     cases s
     ·simp at h2 ⊢
      obtain ⟨el,hel⟩:=Option.isSome_iff_exists.1 h2
      exact ⟨el,XE hel⟩
     ·simp at h2 ⊢
      exact isStr_run h2
    ·cases h2
   ·cases hop
  ·cases hop
 | app s sz lim x y=>
  simp only [opIs] at hop
  split at hop
  ·rename_i c ho
   split at hop
   ·rename_i hc
    obtain ⟨h1,h2⟩:=QL hop
    obtain ⟨p,q,h3,h4,h5⟩:=sameOs_two h1
    split at h2
    ·rename_i t u' ht
     split at h2
     ·rename_i el hel
      obtain ⟨h2,h10⟩:=QL h2
      obtain ⟨h2,h9⟩:=QL h2
      obtain ⟨h2,h8⟩:=QL h2
      obtain ⟨h2,h7⟩:=QL h2
      obtain ⟨h2,h6⟩:=QL h2
      obtain ⟨i,hi,hsz⟩:=szIs_info h2
      rw [hi] at h7 h10
      simp only at h7 h10
      unfold bytesLim at h8
      rw [hi] at h8
      simp at h8
      split at h10
      ·rename_i z hz
       have h0 : 0 < sz:=by simpa using h6
       split at h9
       ·rename_i hu
        obtain ⟨hs,hs1⟩:=QL h9
        exact ok_app ho hc h3 ht ⟨XE hel,.inl hu,hi,hsz,hz,h0,h8.1,h8.2⟩ (by simpa using h10) (fun _=>by simpa using hs1) h4 h5 hE S hws hwb hbh hev
       ·rename_i d hu
        exact ok_app ho hc h3 ht ⟨XE hel,.inr ⟨d,hu⟩,hi,hsz,hz,h0,h8.1,h8.2⟩ (by simpa using h10) (fun h=>by rw [h] at h9; cases h9) h4 h5 hE S hws hwb hbh hev
       ·cases h9
      ·cases h10
     ·cases h2
    ·cases h2
   ·cases hop
  ·cases hop
 | mnx mx x y=>
  simp only [opIs] at hop
  split at hop
  ·rename_i c ho
   split at hop
   ·rename_i hc
    obtain ⟨h1,h2⟩:=QL hop
    have h1 : mx=true:=h1
    subst h1
    obtain ⟨p,q,h3,h4,h5⟩:=sameOs_two h2
    exact ok_mnx (mx:=true) ho (by simpa using hc) h3 h4 h5 hE S hev
   ·rename_i hc
    obtain ⟨h1,h2⟩:=QL hop
    simp at h1
    subst h1
    obtain ⟨p,q,h3,h4,h5⟩:=sameOs_two h2
    exact ok_mnx (mx:=false) ho (by simpa using hc) h3 h4 h5 hE S hev
   ·cases hop
  ·cases hop
 | boxt T t8 sz off y=>
  simp only [opIs] at hop
  split at hop
  ·rename_i t x ho
   obtain ⟨h1,h2⟩:=QL hop
   obtain rfl : t=T:=by simpa using h1
   exact ok_boxt (.inl ⟨_,ho,h2⟩) hE S hwr hev
  ·rename_i t ho
   obtain ⟨h1,h2⟩:=QL hop
   obtain rfl : t=T:=by simpa using h1
   split at h2
   ·exact ok_boxt (.inr ⟨_,ho,rfl,h2⟩) hE S hwr hev
   ·cases h2
  ·cases hop
 | uns ok x=>
  simp only [opIs] at hop
  split at hop
  ·rename_i ho
   obtain ⟨h1,h2⟩:=QL hop
   exact ok_uns ho h1 h2 hE S hev
  ·cases hop
 | sdat x=>
  simp only [opIs] at hop
  split at hop
  ·rename_i c ho
   split at hop
   ·rename_i hc
    obtain ⟨y,h3,h4⟩:=sameOs_one hop
    exact ok_sdat ho hc h3 h4 hE S hev
   ·cases hop
  ·cases hop
 | ustr T p n=>
  simp only [opIs] at hop
  split at hop
  ·rename_i c ho
   split at hop
   ·rename_i hc
    obtain ⟨h1,h2⟩:=QL hop
    obtain ⟨x,y,h3,h4,h5⟩:=sameOs_two h1
    split at h2
    ·rename_i t it ht
     split at h2
     ·rename_i el hel
      obtain ⟨h6,h7⟩:=QL h2
      obtain rfl : el=T:=by simpa using h6
      exact ok_ustr ho hc h3 ht hel (by simpa using h7) h4 h5 hE S hws hev
     ·cases h2
    ·cases h2
   ·cases hop
  ·cases hop
 | appb T lim x y=>
  simp only [opIs] at hop
  split at hop
  ·rename_i c ho
   split at hop
   ·rename_i hc
    obtain ⟨h1,h2⟩:=QL hop
    obtain ⟨p,q,h3,h4,h5⟩:=sameOs_two h1
    split at h2
    ·rename_i t u' ht
     split at h2
     ·rename_i el hel
      obtain ⟨h2,h11⟩:=QL h2
      obtain ⟨h2,h10⟩:=QL h2
      obtain ⟨h2,h9⟩:=QL h2
      obtain ⟨h2,h8⟩:=QL h2
      obtain ⟨h2,h7⟩:=QL h2
      obtain rfl : el=T:=by simpa using h2
      obtain ⟨i,hi,hsz⟩:=szIs_info h7
      rw [hi] at h10
      simp only at h10
      unfold bytesLim at h8
      rw [hi] at h8
      simp at h8
      split at h10
      ·rename_i z hz
       refine ok_appb ho hc h3 ht (i:=i) (z:=z) ⟨XE hel,?_,hi,hsz,hz,by omega,h8.1,h8.2⟩ (by simpa using h10) h4 h5 hE S hws hev
       split at h9
       ·rename_i hu; exact .inl hu
       ·rename_i d hu; exact .inr ⟨d,hu⟩
       ·cases h9
      ·cases h10
     ·cases h2
    ·cases h2
   ·cases hop
  ·cases hop
 | call f args=>simp [evI] at hev
 | callv pu f args=>simp [evI] at hev
end
end Go.Avm
namespace Go.Avm
inductive Fl where
 | op (o : Op1)
 | drop (l : List Nat)
mutual
def S1.flat (g : Option (Nat × Bool)) : S1->List Fl
 | .op d i=>[.op ⟨d,g,i⟩]
 | .sc s want body d r o=>Xe (some (s,want)) body++[.op ⟨some d,g,.pick (.t s) (if want then r else o) (if want then o else r)⟩,.drop ((dstsL body).filter (· != d))]
def Xe (g : Option (Nat × Bool)) : List S1->List Fl
 | []=>[]
 | x :: l=>x.flat g++Xe g l
end
def O.slot : O->Option Nat
 | .t n=>some n
 | .k _=>none
mutual
def S1.ok (inner : Bool) (seen : List Nat) : S1->Bool
 | .op _ _=>true
 | .sc s _ body d _ o=>(!inner || seen.contains s) && !(dstsL body).contains s && !(d == s) && (match o.slot with | some n=>!(dstsL body).contains n | none=>true) && (dstsL body).all (fun n=>!seen.contains n) && okL true [] body
def okL (inner : Bool) (seen : List Nat) : List S1->Bool
 | []=>true
 | .op d i :: l=>okL inner (d.toList++seen) l
 | .sc s w body d r o :: l=>(S1.sc s w body d r o).ok inner seen && okL inner (d :: seen) l
end
section
variable (call : CallF) (fpol : FuncId->Option Pol) (base ws : Nat)
def Xq : List Fl->Env->H->Option (Env × H)
 | [],e,h=>some (e,h)
 | .drop l :: r,e,h=>Xq r (e.drop l) h
 | .op o :: r,e,h=>match o.g with
  | none=>(match XB call fpol base ws e h o.i with
   | some (v,h')=>Xq r (putD e o.d v) h'
   | none=>none)
  | some (g,want)=>match e.get g with
   | some (.bool b)=>if b=want then (match XB call fpol base ws e h o.i with
       | some (v,h')=>Xq r (putD e o.d v) h'
       | none=>none)
    else Xq r (putD e o.d (.tup [])) h
   | some (.tup [])=>Xq r (putD e o.d (.tup [])) h
   | _=>none
def EqE (e e' : Env) : Prop:=∀ n,e.get n=e'.get n
end
theorem EqE.refl (e : Env) : EqE e e:=fun _=>rfl
theorem EqE.symm {e e' : Env} (h : EqE e e') : EqE e' e:=fun n=>(h n).symm
theorem EqE.trans {a b c : Env} (h : EqE a b) (k : EqE b c) : EqE a c:=fun n=>(h n).trans (k n)
theorem EqE.val {e e' : Env} (h : EqE e e') (x : O) : x.val e=x.val e':=by cases x with | t n=>exact h n | k v=>rfl
theorem EqE.valL {e e' : Env} (h : EqE e e') : ∀ l,valL e l=valL e' l
 | []=>rfl
 | x :: l=>by simp only [Avm.valL,h.val,h.valL l]
theorem EqE.put {e e' : Env} (h : EqE e e') (n : Nat) (v : AV) : EqE (e.put n v) (e'.put n v):=fun m=>by rw [get_put,get_put,h m]
theorem EqE.putD {e e' : Env} (h : EqE e e') (d : Option Nat) (v : AV) : EqE (Avm.putD e d v) (Avm.putD e' d v):=by cases d with | none=>exact h | some n=>exact h.put n v
theorem get_drop (e : Env) (l : List Nat) (n : Nat) : (e.drop l).get n=if l.contains n then none else e.get n:=by
 unfold Env.drop
 by_cases hc : l.contains n=true
 ·rw [if_pos hc]
  cases hx : Env.get (e.filter fun p=>!l.contains p.1) n with
  | none=>rfl
  | some x=>
   obtain ⟨y,_,h2⟩:=get_filter e (fun k=>!l.contains k) n x hx
   rw [hc] at h2; cases h2
 ·rw [if_neg hc]
  exact get_filter_eq e (fun k=>!l.contains k) n (by simpa using hc)
theorem EqE.drop {e e' : Env} (h : EqE e e') (l : List Nat) : EqE (e.drop l) (e'.drop l):=fun m=>by rw [get_drop,get_drop,h m]
theorem EqE.partsOf {e e' : Env} (h : EqE e e') : ∀ l,partsOf e l=partsOf e' l
 | []=>rfl
 | (_,_,x) :: l=>by simp only [Avm.partsOf,h.val,h.partsOf l]
theorem EqE.Xr {e e' : Env} (h : EqE e e') (base sz : Nat) : ∀ l els hh,Xr base e sz l els hh=Xr base e' sz l els hh
 | [],_,_=>rfl
 | (i,x) :: l,els,hh=>by
  simp only [Avm.Xr,h.val,h.Xr base sz l]
theorem EqE.optVal {e e' : Env} (h : EqE e e') (x : Option O) : optVal e x=optVal e' x:=by cases x with | none=>rfl | some x=>simp only [Avm.optVal,h.val]
theorem EqE.evI {e e' : Env} (h : EqE e e') (base ws : Nat) (hh : H) (i : I) : evI base ws e hh i=evI base ws e' hh i:=by
 cases i <;> simp only [Avm.evI,h.val,h.valL,h.partsOf,h.Xr,h.optVal]
theorem EqE.XB {e e' : Env} (h : EqE e e') (call : CallF) (fpol : FuncId->Option Pol) (base ws : Nat) (hh : H) (i : I) : XB call fpol base ws e hh i=XB call fpol base ws e' hh i:=by
 cases i <;> simp only [Avm.XB,h.val,h.valL,h.evI base ws hh]
section
variable {call : CallF} {fpol : FuncId->Option Pol} {base ws : Nat}
theorem EqE.Xq : ∀ {l : List Fl} {e e' e1 : Env} {h h1 : H},EqE e e'->Xq call fpol base ws l e h=some (e1,h1)->∃ e2,Xq call fpol base ws l e' h=some (e2,h1)/\EqE e1 e2
 | [],e,e',e1,h,h1,he,ev=>by
  simp [Avm.Xq] at ev
  obtain ⟨rfl,rfl⟩:=ev
  exact ⟨e',rfl,he⟩
 | .drop l :: r,e,e',e1,h,h1,he,ev=>by
  unfold Avm.Xq at *
  exact EqE.Xq (he.drop l) ev
 | .op o :: r,e,e',e1,h,h1,he,ev=>by
  unfold Avm.Xq at *
  cases hg : o.g with
  | none=>
   rw [hg] at ev
   dsimp only at *
   rw [← he.XB]
   cases hd : Avm.XB call fpol base ws e h o.i with
   | none=>rw [hd] at ev; cases ev
   | some p=>rw [hd] at ev; exact EqE.Xq (he.putD o.d p.1) ev
  | some gw=>
   obtain ⟨g,want⟩:=gw
   rw [hg] at ev
   dsimp only at *
   rw [← he g,← he.XB]
   split at ev
   ·split at ev
    ·rename_i hb
     rw [if_pos hb]
     cases hd : Avm.XB call fpol base ws e h o.i with
     | none=>rw [hd] at ev; cases ev
     | some p=>rw [hd] at ev; exact EqE.Xq (he.putD o.d p.1) ev
    ·rename_i hb
     rw [if_neg hb]
     exact EqE.Xq (he.putD o.d _) ev
   ·exact EqE.Xq (he.putD o.d _) ev
   ·cases ev
theorem Xg : ∀ {l r : List Fl} {e : Env} {h : H},Xq call fpol base ws (l++r) e h=(match Xq call fpol base ws l e h with | some (e',h')=>Xq call fpol base ws r e' h' | none=>none)
 | [],r,e,h=>by simp [Avm.Xq]
 | .drop d :: l,r,e,h=>by simp only [List.cons_append,Avm.Xq]; exact Xg
 | .op o :: l,r,e,h=>by
  simp only [List.cons_append,Avm.Xq]
  cases o.g with
  | none=>
   dsimp only
   cases XB call fpol base ws e h o.i with
   | none=>rfl
   | some p=>exact Xg
  | some gw=>
   obtain ⟨g,want⟩:=gw
   dsimp only
   split
   ·split
    ·cases XB call fpol base ws e h o.i with
     | none=>rfl
     | some p=>exact Xg
    ·exact Xg
   ·exact Xg
   ·rfl
def Off (g : Nat × Bool) (e : Env) : Prop:=e.get g.1=some (.bool (!g.2)) ∨ e.get g.1=some (.tup [])
theorem get_putD (e : Env) (d : Option Nat) (v : AV) (n : Nat) : (putD e d v).get n=if d=some n then some v else e.get n:=by
 cases d with
 | none=>simp [putD]
 | some m=>simp only [putD,get_put,Option.some.injEq]
theorem off_op {g : Nat × Bool} {o : Op1} {r : List Fl} {e : Env} {h : H} (hg : o.g=some g) (ho : Off g e) : Xq call fpol base ws (.op o :: r) e h=Xq call fpol base ws r (putD e o.d (.tup [])) h:=by
 simp only [Avm.Xq,hg]
 rcases ho with ho | ho
 ·rw [ho]; dsimp only; rw [if_neg (by cases g.2 <;> simp)]
 ·rw [ho]
theorem dstsL_cons (x : S1) (l : List S1) : dstsL (x :: l)=x.dsts++dstsL l:=by rw [dstsL]
mutual
theorem off_S1 (g : Nat × Bool) : ∀ (x : S1) (seen : List Nat) (e : Env) (h : H),x.ok true seen=true->g.1 ∉ x.dsts->Off g e->(∀ n ∈ seen,e.get n=some (.tup [])) ->
    ∃ e',Xq call fpol base ws (x.flat (some g)) e h=some (e',h)/\Off g e'/\(∀ n,n ∉ x.dsts->e'.get n=e.get n) /\
     (match x with | .op d _=>∀ n,d=some n->e'.get n=some (.tup []) | .sc _ _ _ d _ _=>e'.get d=some (.tup []))/\(∀ n ∈ seen,e'.get n=some (.tup []))
 | .op d i,seen,e,h,_,hd,ho,hs=>by
  refine ⟨putD e d (.tup []),by rw [S1.flat,off_op rfl ho]; rfl,?_,fun n hn=>?_,fun n hn=>?_,fun n hn=>?_⟩
  ·have : (putD e d (.tup [])).get g.1=e.get g.1:=by
     rw [get_putD,if_neg]
     intro e1; rw [e1] at hd; simp [S1.dsts] at hd
   unfold Off; rw [this]; exact ho
  ·rw [get_putD,if_neg]
   intro e1; rw [e1] at hn; simp [S1.dsts] at hn
  ·rw [get_putD,if_pos hn]
  ·rw [get_putD]; split
   ·rfl
   ·exact hs n hn
 | .sc s want body d r o,seen,e,h,hok,hd,ho,hs=>by
  simp only [S1.ok,Bool.and_eq_true,Bool.not_true,Bool.false_or] at hok
  obtain ⟨⟨⟨⟨⟨h1,h2⟩,h3⟩,h4⟩,h5⟩,h6⟩:=hok
  have hsd : s ∉ dstsL body:=by simpa using h2
  have hso : Off (s,want) e:=.inr (hs s (by simpa using h1))
  simp only [S1.dsts,List.mem_append,not_or] at hd
  obtain ⟨e1,h7,h8,h9,_⟩:=off_L (s,want) body [] e h h6 hsd hso (fun n hn=>by simp at hn)
  have hog : Off g e1:=by unfold Off; rw [h9 g.1 hd.1]; exact ho
  refine ⟨(putD e1 (some d) (.tup [])).drop ((dstsL body).filter (· != d)),?_,?_,fun n hn=>?_,?_,fun n hn=>?_⟩
  ·rw [S1.flat,Xg,h7]
   dsimp only
   rw [off_op rfl hog]; rfl
  ·have : ((putD e1 (some d) (.tup [])).drop ((dstsL body).filter (· != d))).get g.1=e1.get g.1:=by
     rw [get_drop,if_neg (by simp; intro h; exact absurd h hd.1),get_putD,if_neg]
     intro e2; injection e2 with e2; exact hd.2 (by simp [e2])
   unfold Off; rw [this]; exact hog
  ·simp only [S1.dsts,List.mem_append,not_or] at hn
   rw [get_drop,if_neg (by simp; intro h; exact absurd h hn.1),get_putD,if_neg (by intro e2; injection e2 with e2; exact hn.2 (by simp [e2])),h9 n hn.1]
  ·show _=_
   rw [get_drop,if_neg (by simp),get_putD,if_pos rfl]
  ·have hnb : n ∉ dstsL body:=fun hb=>by
     have:=List.all_eq_true.1 h5 n hb
     simp [hn] at this
   rw [get_drop,if_neg (by simp; intro h; exact absurd h hnb),get_putD]
   split
   ·rfl
   ·rw [h9 n hnb]; exact hs n hn
theorem off_L (g : Nat × Bool) : ∀ (l : List S1) (seen : List Nat) (e : Env) (h : H),okL true seen l=true->g.1 ∉ dstsL l->Off g e->(∀ n ∈ seen,e.get n=some (.tup [])) ->
    ∃ e',Xq call fpol base ws (Xe (some g) l) e h=some (e',h)/\Off g e'/\(∀ n,n ∉ dstsL l->e'.get n=e.get n)/\True
 | [],seen,e,h,_,_,ho,_=>⟨e,by simp [Xe,Avm.Xq],ho,fun _ _=>rfl,trivial⟩
 | .op d i :: l,seen,e,h,hok,hd,ho,hs=>by
  rw [dstsL_cons] at hd
  simp only [List.mem_append,not_or] at hd
  obtain ⟨e1,h1,h2,h3,h4,h5⟩:=off_S1 g (.op d i) seen e h rfl hd.1 ho hs
  obtain ⟨e2,h6,h7,h8,_⟩:=off_L g l (d.toList++seen) e1 h (by simpa [okL] using hok) hd.2 h2 (fun n hn=>by
   simp only [List.mem_append] at hn
   rcases hn with hn | hn
   ·exact h4 n (by simpa using hn)
   ·exact h5 n hn)
  refine ⟨e2,by rw [Xe,Xg,h1]; exact h6,h7,fun n hn=>?_,trivial⟩
  rw [dstsL_cons] at hn
  simp only [List.mem_append,not_or] at hn
  rw [h8 n hn.2,h3 n hn.1]
 | .sc s w body d r o :: l,seen,e,h,hok,hd,ho,hs=>by
  rw [dstsL_cons] at hd
  simp only [List.mem_append,not_or] at hd
  rw [okL,Bool.and_eq_true] at hok
  obtain ⟨e1,h1,h2,h3,h4,h5⟩:=off_S1 g (.sc s w body d r o) seen e h hok.1 hd.1 ho hs
  obtain ⟨e2,h6,h7,h8,_⟩:=off_L g l (d :: seen) e1 h hok.2 hd.2 h2 (fun n hn=>by
   simp only [List.mem_cons] at hn
   rcases hn with rfl | hn
   ·exact h4
   ·exact h5 n hn)
  refine ⟨e2,by rw [Xe,Xg,h1]; exact h6,h7,fun n hn=>?_,trivial⟩
  rw [dstsL_cons] at hn
  simp only [List.mem_append,not_or] at hn
  rw [h8 n hn.2,h3 n hn.1]
end
def On (g : Option (Nat × Bool)) (e : Env) : Prop:=∀ s w,g=some (s,w)->e.get s=some (.bool w)
theorem on_op {g : Option (Nat × Bool)} {o : Op1} {r : List Fl} {e : Env} {h : H} (hg : o.g=g) (ho : On g e) : Xq call fpol base ws (.op o :: r) e h=(match XB call fpol base ws e h o.i with | some (v,h')=>Xq call fpol base ws r (putD e o.d v) h' | none=>none):=by
 simp only [Avm.Xq,hg]
 cases g with
 | none=>rfl
 | some gw=>
  obtain ⟨s,w⟩:=gw
  dsimp only
  rw [ho s w rfl]
  dsimp only
  rw [if_pos rfl]
def noDst (g : Option (Nat × Bool)) (l : List Nat) : Prop:=∀ s w,g=some (s,w)->s ∉ l
mutual
theorem on_S1 (g : Option (Nat × Bool)) : ∀ (x : S1) (inner : Bool) (seen : List Nat) (e e1 : Env) (h h1 : H),x.ok inner seen=true->noDst g x.dsts->On g e->evS1 call fpol base ws x e h=some (e1,h1) ->
    ∃ e2,Xq call fpol base ws (x.flat g) e h=some (e2,h1)/\EqE e1 e2/\∀ n,n ∉ x.dsts->e1.get n=e.get n
 | .op d i,inner,seen,e,e1,h,h1,_,hd,ho,ev=>by
  rw [S1.flat,on_op rfl ho]
  unfold evS1 at ev
  cases hx : XB call fpol base ws e h i with
  | none=>rw [hx] at ev; simp [andV] at ev
  | some p=>
   rw [hx] at ev
   simp [andV] at ev
   obtain ⟨rfl,rfl⟩:=ev
   refine ⟨putD e d p.1,by simp [Avm.Xq],EqE.refl _,fun n hn=>?_⟩
   rw [get_putD,if_neg]
   intro e1; rw [e1] at hn; simp [S1.dsts] at hn
 | .sc s want body d r o,inner,seen,e,e1,h,h1,hok,hd,ho,ev=>by
  simp only [S1.ok,Bool.and_eq_true] at hok
  obtain ⟨⟨⟨⟨⟨_,h2⟩,h3⟩,h4⟩,h5⟩,h6⟩:=hok
  have hsd : s ∉ dstsL body:=by simpa using h2
  have hsn : d ≠ s:=by simpa using h3
  unfold evS1 at ev
  split at ev
  ·rename_i b hb
   have hgb : noDst g (dstsL body):=fun s' w e1=>by have:=hd s' w e1; simp only [S1.dsts,List.mem_append,not_or] at this; exact this.1
   have hfin : ∀ (e' : Env) (v : AV),(∀ n,n ∉ dstsL body->e'.get n=e.get n)->EqE ((e.drop (dstsL body)).put d v) ((putD e' (some d) v).drop ((dstsL body).filter (· != d))):=by
    intro e' v he' n
    rw [get_put,get_drop,get_drop,get_putD]
    by_cases hn : d=n
    ·subst hn; simp
    ·rw [if_neg hn]
     by_cases hm : n ∈ dstsL body
     ·rw [if_pos (by simpa using hm),if_pos (by simp; exact ⟨hm,fun e=>hn e.symm⟩)]
     ·rw [if_neg (by simpa using hm),if_neg (by simp; intro h; exact absurd h hm),if_neg (by intro e; injection e with e; exact hn e),he' n hm]
   by_cases hbw : b=want
   ·rw [if_pos hbw] at ev
    subst hbw
    cases hbody : evS call fpol base ws body e h with
    | none=>rw [hbody] at ev; simp [valIn,andV] at ev
    | some p=>
     obtain ⟨e3,h3'⟩:=p
     rw [hbody] at ev
     simp only [valIn] at ev
     cases hv : r.val e3 with
     | none=>rw [hv] at ev; simp [andV] at ev
     | some v=>
      rw [hv] at ev
      simp [andV] at ev
      obtain ⟨rfl,rfl⟩:=ev
      obtain ⟨e4,h7,h8,h9⟩:=on_L (some (s,b)) body true [] e e3 h h3' h6 (fun s' w e1=>by injection e1 with e1; injection e1 with e1; subst e1; exact hsd) (fun s' w e1=>by injection e1 with e1; injection e1 with e1 e2; subst e1 e2; exact hb) hbody
      have hg4 : On g e4:=fun s' w e1=>by rw [← h8 s',h9 s' (hgb s' w e1)]; exact ho s' w e1
      have hs4 : e4.get s=some (.bool b):=by rw [← h8 s,h9 s hsd]; exact hb
      refine ⟨(putD e4 (some d) v).drop ((dstsL body).filter (· != d)),?_,hfin e4 v (fun n hn=>by rw [← h8 n,h9 n hn]),fun n hn=>?_⟩
      ·rw [S1.flat,Xg,h7]
       dsimp only
       rw [on_op rfl hg4]
       have hv4 : r.val e4=some v:=by rw [← h8.val r]; exact hv
       have hs5 : (O.t s).val e4=some (.bool b):=hs4
       cases b <;> simp only [XB,evI,hs5,Bool.false_eq_true,if_true,if_false,Bool.not_false,reduceIte] <;> rw [hv4] <;> simp [Avm.Xq]
      ·simp only [S1.dsts,List.mem_append,not_or] at hn
       rw [get_put,if_neg (fun e=>hn.2 (by simp [e])),get_drop,if_neg (by simpa using hn.1)]
   ·rw [if_neg hbw] at ev
    simp only [valAt] at ev
    cases hv : o.val e with
    | none=>rw [hv] at ev; simp [andV] at ev
    | some v=>
     rw [hv] at ev
     simp [andV] at ev
     obtain ⟨rfl,rfl⟩:=ev
     have hbn : b = !want:=by cases b <;> cases want <;> simp_all
     obtain ⟨e4,h7,h8,h9,_⟩:=off_L (call:=call) (fpol:=fpol) (base:=base) (ws:=ws) (s,want) body [] e h h6 hsd (.inl (by rw [hb,hbn])) (fun n hn=>by simp at hn)
     have hg4 : On g e4:=fun s' w e1=>by rw [h9 s' (hgb s' w e1)]; exact ho s' w e1
     have hs4 : e4.get s=some (.bool b):=by rw [h9 s hsd]; exact hb
     have hv4 : o.val e4=some v:=by
      rw [← hv]
      cases o with
      | k _=>rfl
      | t n=>exact h9 n (by simpa [O.slot] using h4)
     refine ⟨(putD e4 (some d) v).drop ((dstsL body).filter (· != d)),?_,hfin e4 v h9,fun n hn=>?_⟩
     ·rw [S1.flat,Xg,h7]
      dsimp only
      rw [on_op rfl hg4]
      subst hbn
      have hs5 : (O.t s).val e4=some (.bool (!want)):=hs4
      cases want <;> simp only [XB,evI,hs5,Bool.false_eq_true,if_true,if_false,Bool.not_false,Bool.not_true,reduceIte] <;> rw [hv4] <;> simp [Avm.Xq]
     ·simp only [S1.dsts,List.mem_append,not_or] at hn
      rw [get_put,if_neg (fun e=>hn.2 (by simp [e])),get_drop,if_neg (by simpa using hn.1)]
  ·cases ev
theorem on_L (g : Option (Nat × Bool)) : ∀ (l : List S1) (inner : Bool) (seen : List Nat) (e e1 : Env) (h h1 : H),okL inner seen l=true->noDst g (dstsL l)->On g e->evS call fpol base ws l e h=some (e1,h1) ->
    ∃ e2,Xq call fpol base ws (Xe g l) e h=some (e2,h1)/\EqE e1 e2/\∀ n,n ∉ dstsL l->e1.get n=e.get n
 | [],inner,seen,e,e1,h,h1,_,_,_,ev=>by
  simp [evS] at ev
  obtain ⟨rfl,rfl⟩:=ev
  exact ⟨e,by simp [Xe,Avm.Xq],EqE.refl _,fun _ _=>rfl⟩
 | x :: l,inner,seen,e,e1,h,h1,hok,hd,ho,ev=>by
  rw [dstsL_cons] at hd
  have hdx : noDst g x.dsts:=fun s w e1=>by have:=hd s w e1; simp only [List.mem_append,not_or] at this; exact this.1
  have hdl : noDst g (dstsL l):=fun s w e1=>by have:=hd s w e1; simp only [List.mem_append,not_or] at this; exact this.2
  have hokx : x.ok inner seen=true:=by
   cases x with
   | op d i=>rfl
   | sc s w body d r o=>rw [okL,Bool.and_eq_true] at hok; exact hok.1
  have hokl : ∃ seen',okL inner seen' l=true:=by
   cases x with
   | op d i=>exact ⟨_,by simpa [okL] using hok⟩
   | sc s w body d r o=>rw [okL,Bool.and_eq_true] at hok; exact ⟨_,hok.2⟩
  obtain ⟨seen',hokl⟩:=hokl
  unfold evS at ev
  cases hx : evS1 call fpol base ws x e h with
  | none=>rw [hx] at ev; cases ev
  | some p=>
   obtain ⟨e2,h2⟩:=p
   rw [hx] at ev
   dsimp only at ev
   obtain ⟨e3,h3,h4,h5⟩:=on_S1 g x inner seen e e2 h h2 hokx hdx ho hx
   have ho2 : On g e2:=fun s w e1=>by rw [h5 s (hdx s w e1)]; exact ho s w e1
   obtain ⟨e4,h6,h7,h8⟩:=on_L g l inner seen' e2 e1 h2 h1 hokl hdl ho2 ev
   obtain ⟨e5,h9,h10⟩:=EqE.Xq h4 h6
   refine ⟨e5,by rw [Xe,Xg,h3]; exact h9,h7.trans h10,fun n hn=>?_⟩
   rw [dstsL_cons] at hn
   simp only [List.mem_append,not_or] at hn
   rw [h8 n hn.2,h5 n hn.1]
end
end
end Go.Avm
