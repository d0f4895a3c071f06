/- '&&' and '||' laid flat: what is reckoned with says the same as the operations one behind the other. -/
import Derived.Test.YtflbneepngjglaaGreatDoorP16
set_option linter.all false
namespace Go.Avm
inductive Fl where
 | op (o : Op1)
 | drop (l : List Nat)
mutual
def S1.flat (g : Option (Nat × Bool)) : S1→List Fl
 | .op d i=>[.op ⟨d,g,i⟩]
 | .sc s want body d r o=>flatL (some (s,want)) body++[.op ⟨some d,g,.pick (.t s) (if want then r else o) (if want then o else r)⟩,.drop ((dstsL body).filter (· != d))]
def flatL (g : Option (Nat × Bool)) : List S1→List Fl
 | []=>[]
 | x :: l=>x.flat g++flatL g l
end
def O.slot : O→Option Nat
 | .t n=>some n
 | .k _=>none
mutual
def S1.ok (inner : Bool) (seen : List Nat) : S1→Bool
 | .op _ _=>true
 | .sc s _ body d _ o=>(!inner || seen.contains s) && !(dstsL body).contains s && !(d == s) && (match o.slot with | some n=>!(dstsL body).contains n | none=>true) && (dstsL body).all (fun n=>!seen.contains n) && okL true [] body
def okL (inner : Bool) (seen : List Nat) : List S1→Bool
 | []=>true
 | .op d i :: l=>okL inner (d.toList++seen) l
 | .sc s w body d r o :: l=>(S1.sc s w body d r o).ok inner seen && okL inner (d :: seen) l
end
section
variable (call : CallF) (fpol : FuncId→Option Pol) (base ws : Nat)
def evFl : List Fl→Env→H→Option (Env × H)
 | [],e,h=>some (e,h)
 | .drop l :: r,e,h=>evFl r (e.drop l) h
 | .op o :: r,e,h=>match o.g with
  | none=>(match doOp call fpol base ws e h o.i with
   | some (v,h')=>evFl r (putD e o.d v) h'
   | none=>none)
  | some (g,want)=>match e.get g with
   | some (.bool b)=>if b=want then (match doOp call fpol base ws e h o.i with
       | some (v,h')=>evFl r (putD e o.d v) h'
       | none=>none)
    else evFl r (putD e o.d (.tup [])) h
   | some (.tup [])=>evFl r (putD e o.d (.tup [])) h
   | _=>none
def EqE (e e' : Env) : Prop:=∀ n,e.get n=e'.get n
end
theorem EqE.refl (e : Env) : EqE e e:=fun _=>rfl
theorem EqE.symm {e e' : Env} (h : EqE e e') : EqE e' e:=fun n=>(h n).symm
theorem EqE.trans {a b c : Env} (h : EqE a b) (k : EqE b c) : EqE a c:=fun n=>(h n).trans (k n)
theorem EqE.val {e e' : Env} (h : EqE e e') (x : O) : x.val e=x.val e':=by cases x with | t n=>exact h n | k v=>rfl
theorem EqE.valL {e e' : Env} (h : EqE e e') : ∀ l,valL e l=valL e' l
 | []=>rfl
 | x :: l=>by simp only [Avm.valL,h.val,h.valL l]
theorem EqE.put {e e' : Env} (h : EqE e e') (n : Nat) (v : AV) : EqE (e.put n v) (e'.put n v):=fun m=>by rw [get_put,get_put,h m]
theorem EqE.putD {e e' : Env} (h : EqE e e') (d : Option Nat) (v : AV) : EqE (Avm.putD e d v) (Avm.putD e' d v):=by cases d with | none=>exact h | some n=>exact h.put n v
theorem get_drop (e : Env) (l : List Nat) (n : Nat) : (e.drop l).get n=if l.contains n then none else e.get n:=by
 unfold Env.drop
 by_cases hc : l.contains n=true
 ·rw [if_pos hc]
  cases hx : Env.get (e.filter fun p=>!l.contains p.1) n with
  | none=>rfl
  | some x=>
   obtain ⟨y,_,h2⟩:=get_filter e (fun k=>!l.contains k) n x hx
   rw [hc] at h2; cases h2
 ·rw [if_neg hc]
  exact get_filter_eq e (fun k=>!l.contains k) n (by simpa using hc)
theorem EqE.drop {e e' : Env} (h : EqE e e') (l : List Nat) : EqE (e.drop l) (e'.drop l):=fun m=>by rw [get_drop,get_drop,h m]
theorem EqE.partsOf {e e' : Env} (h : EqE e e') : ∀ l,partsOf e l=partsOf e' l
 | []=>rfl
 | (_,_,x) :: l=>by simp only [Avm.partsOf,h.val,h.partsOf l]
theorem EqE.bslP {e e' : Env} (h : EqE e e') (base sz : Nat) : ∀ l els hh,bslP base e sz l els hh=bslP base e' sz l els hh
 | [],_,_=>rfl
 | (i,x) :: l,els,hh=>by
  simp only [Avm.bslP,h.val,h.bslP base sz l]
theorem EqE.optVal {e e' : Env} (h : EqE e e') (x : Option O) : optVal e x=optVal e' x:=by cases x with | none=>rfl | some x=>simp only [Avm.optVal,h.val]
theorem EqE.evI {e e' : Env} (h : EqE e e') (base ws : Nat) (hh : H) (i : I) : evI base ws e hh i=evI base ws e' hh i:=by
 cases i <;> simp only [Avm.evI,h.val,h.valL,h.partsOf,h.bslP,h.optVal]
theorem EqE.doOp {e e' : Env} (h : EqE e e') (call : CallF) (fpol : FuncId→Option Pol) (base ws : Nat) (hh : H) (i : I) : doOp call fpol base ws e hh i=doOp call fpol base ws e' hh i:=by
 cases i <;> simp only [Avm.doOp,h.val,h.valL,h.evI base ws hh]
section
variable {call : CallF} {fpol : FuncId→Option Pol} {base ws : Nat}
theorem EqE.evFl : ∀ {l : List Fl} {e e' e1 : Env} {h h1 : H},EqE e e'→evFl call fpol base ws l e h=some (e1,h1)→∃ e2,evFl call fpol base ws l e' h=some (e2,h1)∧EqE e1 e2
 | [],e,e',e1,h,h1,he,ev=>by
  simp [Avm.evFl] at ev
  obtain ⟨rfl,rfl⟩:=ev
  exact ⟨e',rfl,he⟩
 | .drop l :: r,e,e',e1,h,h1,he,ev=>by
  unfold Avm.evFl at *
  exact EqE.evFl (he.drop l) ev
 | .op o :: r,e,e',e1,h,h1,he,ev=>by
  unfold Avm.evFl at *
  cases hg : o.g with
  | none=>
   rw [hg] at ev
   dsimp only at *
   rw [← he.doOp]
   cases hd : Avm.doOp call fpol base ws e h o.i with
   | none=>rw [hd] at ev; cases ev
   | some p=>rw [hd] at ev; exact EqE.evFl (he.putD o.d p.1) ev
  | some gw=>
   obtain ⟨g,want⟩:=gw
   rw [hg] at ev
   dsimp only at *
   rw [← he g,← he.doOp]
   split at ev
   ·split at ev
    ·rename_i hb
     rw [if_pos hb]
     cases hd : Avm.doOp call fpol base ws e h o.i with
     | none=>rw [hd] at ev; cases ev
     | some p=>rw [hd] at ev; exact EqE.evFl (he.putD o.d p.1) ev
    ·rename_i hb
     rw [if_neg hb]
     exact EqE.evFl (he.putD o.d _) ev
   ·exact EqE.evFl (he.putD o.d _) ev
   ·cases ev
theorem evFl_append : ∀ {l r : List Fl} {e : Env} {h : H},evFl call fpol base ws (l++r) e h=(match evFl call fpol base ws l e h with | some (e',h')=>evFl call fpol base ws r e' h' | none=>none)
 | [],r,e,h=>by simp [Avm.evFl]
 | .drop d :: l,r,e,h=>by simp only [List.cons_append,Avm.evFl]; exact evFl_append
 | .op o :: l,r,e,h=>by
  simp only [List.cons_append,Avm.evFl]
  cases o.g with
  | none=>
   dsimp only
   cases doOp call fpol base ws e h o.i with
   | none=>rfl
   | some p=>exact evFl_append
  | some gw=>
   obtain ⟨g,want⟩:=gw
   dsimp only
   split
   ·split
    ·cases doOp call fpol base ws e h o.i with
     | none=>rfl
     | some p=>exact evFl_append
    ·exact evFl_append
   ·exact evFl_append
   ·rfl
def Off (g : Nat × Bool) (e : Env) : Prop:=e.get g.1=some (.bool (!g.2)) ∨ e.get g.1=some (.tup [])
theorem get_putD (e : Env) (d : Option Nat) (v : AV) (n : Nat) : (putD e d v).get n=if d=some n then some v else e.get n:=by
 cases d with
 | none=>simp [putD]
 | some m=>simp only [putD,get_put,Option.some.injEq]
theorem off_op {g : Nat × Bool} {o : Op1} {r : List Fl} {e : Env} {h : H} (hg : o.g=some g) (ho : Off g e) : evFl call fpol base ws (.op o :: r) e h=evFl call fpol base ws r (putD e o.d (.tup [])) h:=by
 simp only [Avm.evFl,hg]
 rcases ho with ho | ho
 ·rw [ho]; dsimp only; rw [if_neg (by cases g.2 <;> simp)]
 ·rw [ho]
theorem dstsL_cons (x : S1) (l : List S1) : dstsL (x :: l)=x.dsts++dstsL l:=by rw [dstsL]
mutual
theorem off_S1 (g : Nat × Bool) : ∀ (x : S1) (seen : List Nat) (e : Env) (h : H),x.ok true seen=true→g.1 ∉ x.dsts→Off g e→(∀ n ∈ seen,e.get n=some (.tup [])) →
    ∃ e',evFl call fpol base ws (x.flat (some g)) e h=some (e',h)∧Off g e'∧(∀ n,n ∉ x.dsts→e'.get n=e.get n) ∧
     (match x with | .op d _=>∀ n,d=some n→e'.get n=some (.tup []) | .sc _ _ _ d _ _=>e'.get d=some (.tup []))∧(∀ n ∈ seen,e'.get n=some (.tup []))
 | .op d i,seen,e,h,_,hd,ho,hs=>by
  refine ⟨putD e d (.tup []),by rw [S1.flat,off_op rfl ho]; rfl,?_,fun n hn=>?_,fun n hn=>?_,fun n hn=>?_⟩
  ·have : (putD e d (.tup [])).get g.1=e.get g.1:=by
     rw [get_putD,if_neg]
     intro e1; rw [e1] at hd; simp [S1.dsts] at hd
   unfold Off; rw [this]; exact ho
  ·rw [get_putD,if_neg]
   intro e1; rw [e1] at hn; simp [S1.dsts] at hn
  ·rw [get_putD,if_pos hn]
  ·rw [get_putD]; split
   ·rfl
   ·exact hs n hn
 | .sc s want body d r o,seen,e,h,hok,hd,ho,hs=>by
  simp only [S1.ok,Bool.and_eq_true,Bool.not_true,Bool.false_or] at hok
  obtain ⟨⟨⟨⟨⟨h1,h2⟩,h3⟩,h4⟩,h5⟩,h6⟩:=hok
  have hsd : s ∉ dstsL body:=by simpa using h2
  have hso : Off (s,want) e:=.inr (hs s (by simpa using h1))
  simp only [S1.dsts,List.mem_append,not_or] at hd
  obtain ⟨e1,h7,h8,h9,_⟩:=off_L (s,want) body [] e h h6 hsd hso (fun n hn=>by simp at hn)
  have hog : Off g e1:=by unfold Off; rw [h9 g.1 hd.1]; exact ho
  refine ⟨(putD e1 (some d) (.tup [])).drop ((dstsL body).filter (· != d)),?_,?_,fun n hn=>?_,?_,fun n hn=>?_⟩
  ·rw [S1.flat,evFl_append,h7]
   dsimp only
   rw [off_op rfl hog]; rfl
  ·have : ((putD e1 (some d) (.tup [])).drop ((dstsL body).filter (· != d))).get g.1=e1.get g.1:=by
     rw [get_drop,if_neg (by simp; intro h; exact absurd h hd.1),get_putD,if_neg]
     intro e2; injection e2 with e2; exact hd.2 (by simp [e2])
   unfold Off; rw [this]; exact hog
  ·simp only [S1.dsts,List.mem_append,not_or] at hn
   rw [get_drop,if_neg (by simp; intro h; exact absurd h hn.1),get_putD,if_neg (by intro e2; injection e2 with e2; exact hn.2 (by simp [e2])),h9 n hn.1]
  ·show _=_
   rw [get_drop,if_neg (by simp),get_putD,if_pos rfl]
  ·have hnb : n ∉ dstsL body:=fun hb=>by
     have:=List.all_eq_true.1 h5 n hb
     simp [hn] at this
   rw [get_drop,if_neg (by simp; intro h; exact absurd h hnb),get_putD]
   split
   ·rfl
   ·rw [h9 n hnb]; exact hs n hn
theorem off_L (g : Nat × Bool) : ∀ (l : List S1) (seen : List Nat) (e : Env) (h : H),okL true seen l=true→g.1 ∉ dstsL l→Off g e→(∀ n ∈ seen,e.get n=some (.tup [])) →
    ∃ e',evFl call fpol base ws (flatL (some g) l) e h=some (e',h)∧Off g e'∧(∀ n,n ∉ dstsL l→e'.get n=e.get n)∧True
 | [],seen,e,h,_,_,ho,_=>⟨e,by simp [flatL,Avm.evFl],ho,fun _ _=>rfl,trivial⟩
 | .op d i :: l,seen,e,h,hok,hd,ho,hs=>by
  rw [dstsL_cons] at hd
  simp only [List.mem_append,not_or] at hd
  obtain ⟨e1,h1,h2,h3,h4,h5⟩:=off_S1 g (.op d i) seen e h rfl hd.1 ho hs
  obtain ⟨e2,h6,h7,h8,_⟩:=off_L g l (d.toList++seen) e1 h (by simpa [okL] using hok) hd.2 h2 (fun n hn=>by
   simp only [List.mem_append] at hn
   rcases hn with hn | hn
   ·exact h4 n (by simpa using hn)
   ·exact h5 n hn)
  refine ⟨e2,by rw [flatL,evFl_append,h1]; exact h6,h7,fun n hn=>?_,trivial⟩
  rw [dstsL_cons] at hn
  simp only [List.mem_append,not_or] at hn
  rw [h8 n hn.2,h3 n hn.1]
 | .sc s w body d r o :: l,seen,e,h,hok,hd,ho,hs=>by
  rw [dstsL_cons] at hd
  simp only [List.mem_append,not_or] at hd
  rw [okL,Bool.and_eq_true] at hok
  obtain ⟨e1,h1,h2,h3,h4,h5⟩:=off_S1 g (.sc s w body d r o) seen e h hok.1 hd.1 ho hs
  obtain ⟨e2,h6,h7,h8,_⟩:=off_L g l (d :: seen) e1 h hok.2 hd.2 h2 (fun n hn=>by
   simp only [List.mem_cons] at hn
   rcases hn with rfl | hn
   ·exact h4
   ·exact h5 n hn)
  refine ⟨e2,by rw [flatL,evFl_append,h1]; exact h6,h7,fun n hn=>?_,trivial⟩
  rw [dstsL_cons] at hn
  simp only [List.mem_append,not_or] at hn
  rw [h8 n hn.2,h3 n hn.1]
end
def On (g : Option (Nat × Bool)) (e : Env) : Prop:=∀ s w,g=some (s,w)→e.get s=some (.bool w)
theorem on_op {g : Option (Nat × Bool)} {o : Op1} {r : List Fl} {e : Env} {h : H} (hg : o.g=g) (ho : On g e) : evFl call fpol base ws (.op o :: r) e h=(match doOp call fpol base ws e h o.i with | some (v,h')=>evFl call fpol base ws r (putD e o.d v) h' | none=>none):=by
 simp only [Avm.evFl,hg]
 cases g with
 | none=>rfl
 | some gw=>
  obtain ⟨s,w⟩:=gw
  dsimp only
  rw [ho s w rfl]
  dsimp only
  rw [if_pos rfl]
def noDst (g : Option (Nat × Bool)) (l : List Nat) : Prop:=∀ s w,g=some (s,w)→s ∉ l
mutual
theorem on_S1 (g : Option (Nat × Bool)) : ∀ (x : S1) (inner : Bool) (seen : List Nat) (e e1 : Env) (h h1 : H),x.ok inner seen=true→noDst g x.dsts→On g e→evS1 call fpol base ws x e h=some (e1,h1) →
    ∃ e2,evFl call fpol base ws (x.flat g) e h=some (e2,h1)∧EqE e1 e2∧∀ n,n ∉ x.dsts→e1.get n=e.get n
 | .op d i,inner,seen,e,e1,h,h1,_,hd,ho,ev=>by
  rw [S1.flat,on_op rfl ho]
  unfold evS1 at ev
  cases hx : doOp call fpol base ws e h i with
  | none=>rw [hx] at ev; simp [andV] at ev
  | some p=>
   rw [hx] at ev
   simp [andV] at ev
   obtain ⟨rfl,rfl⟩:=ev
   refine ⟨putD e d p.1,by simp [Avm.evFl],EqE.refl _,fun n hn=>?_⟩
   rw [get_putD,if_neg]
   intro e1; rw [e1] at hn; simp [S1.dsts] at hn
 | .sc s want body d r o,inner,seen,e,e1,h,h1,hok,hd,ho,ev=>by
  simp only [S1.ok,Bool.and_eq_true] at hok
  obtain ⟨⟨⟨⟨⟨_,h2⟩,h3⟩,h4⟩,h5⟩,h6⟩:=hok
  have hsd : s ∉ dstsL body:=by simpa using h2
  have hsn : d ≠ s:=by simpa using h3
  unfold evS1 at ev
  split at ev
  ·rename_i b hb
   have hgb : noDst g (dstsL body):=fun s' w e1=>by have:=hd s' w e1; simp only [S1.dsts,List.mem_append,not_or] at this; exact this.1
   have hfin : ∀ (e' : Env) (v : AV),(∀ n,n ∉ dstsL body→e'.get n=e.get n)→EqE ((e.drop (dstsL body)).put d v) ((putD e' (some d) v).drop ((dstsL body).filter (· != d))):=by
    intro e' v he' n
    rw [get_put,get_drop,get_drop,get_putD]
    by_cases hn : d=n
    ·subst hn; simp
    ·rw [if_neg hn]
     by_cases hm : n ∈ dstsL body
     ·rw [if_pos (by simpa using hm),if_pos (by simp; exact ⟨hm,fun e=>hn e.symm⟩)]
     ·rw [if_neg (by simpa using hm),if_neg (by simp; intro h; exact absurd h hm),if_neg (by intro e; injection e with e; exact hn e),he' n hm]
   by_cases hbw : b=want
   ·rw [if_pos hbw] at ev
    subst hbw
    cases hbody : evS call fpol base ws body e h with
    | none=>rw [hbody] at ev; simp [valIn,andV] at ev
    | some p=>
     obtain ⟨e3,h3'⟩:=p
     rw [hbody] at ev
     simp only [valIn] at ev
     cases hv : r.val e3 with
     | none=>rw [hv] at ev; simp [andV] at ev
     | some v=>
      rw [hv] at ev
      simp [andV] at ev
      obtain ⟨rfl,rfl⟩:=ev
      obtain ⟨e4,h7,h8,h9⟩:=on_L (some (s,b)) body true [] e e3 h h3' h6 (fun s' w e1=>by injection e1 with e1; injection e1 with e1; subst e1; exact hsd) (fun s' w e1=>by injection e1 with e1; injection e1 with e1 e2; subst e1 e2; exact hb) hbody
      have hg4 : On g e4:=fun s' w e1=>by rw [← h8 s',h9 s' (hgb s' w e1)]; exact ho s' w e1
      have hs4 : e4.get s=some (.bool b):=by rw [← h8 s,h9 s hsd]; exact hb
      refine ⟨(putD e4 (some d) v).drop ((dstsL body).filter (· != d)),?_,hfin e4 v (fun n hn=>by rw [← h8 n,h9 n hn]),fun n hn=>?_⟩
      ·rw [S1.flat,evFl_append,h7]
       dsimp only
       rw [on_op rfl hg4]
       have hv4 : r.val e4=some v:=by rw [← h8.val r]; exact hv
       have hs5 : (O.t s).val e4=some (.bool b):=hs4
       cases b <;> simp only [doOp,evI,hs5,Bool.false_eq_true,if_true,if_false,Bool.not_false,reduceIte] <;> rw [hv4] <;> simp [Avm.evFl]
      ·simp only [S1.dsts,List.mem_append,not_or] at hn
       rw [get_put,if_neg (fun e=>hn.2 (by simp [e])),get_drop,if_neg (by simpa using hn.1)]
   ·rw [if_neg hbw] at ev
    simp only [valAt] at ev
    cases hv : o.val e with
    | none=>rw [hv] at ev; simp [andV] at ev
    | some v=>
     rw [hv] at ev
     simp [andV] at ev
     obtain ⟨rfl,rfl⟩:=ev
     have hbn : b = !want:=by cases b <;> cases want <;> simp_all
     obtain ⟨e4,h7,h8,h9,_⟩:=off_L (call:=call) (fpol:=fpol) (base:=base) (ws:=ws) (s,want) body [] e h h6 hsd (.inl (by rw [hb,hbn])) (fun n hn=>by simp at hn)
     have hg4 : On g e4:=fun s' w e1=>by rw [h9 s' (hgb s' w e1)]; exact ho s' w e1
     have hs4 : e4.get s=some (.bool b):=by rw [h9 s hsd]; exact hb
     have hv4 : o.val e4=some v:=by
      rw [← hv]
      cases o with
      | k _=>rfl
      | t n=>exact h9 n (by simpa [O.slot] using h4)
     refine ⟨(putD e4 (some d) v).drop ((dstsL body).filter (· != d)),?_,hfin e4 v h9,fun n hn=>?_⟩
     ·rw [S1.flat,evFl_append,h7]
      dsimp only
      rw [on_op rfl hg4]
      subst hbn
      have hs5 : (O.t s).val e4=some (.bool (!want)):=hs4
      cases want <;> simp only [doOp,evI,hs5,Bool.false_eq_true,if_true,if_false,Bool.not_false,Bool.not_true,reduceIte] <;> rw [hv4] <;> simp [Avm.evFl]
     ·simp only [S1.dsts,List.mem_append,not_or] at hn
      rw [get_put,if_neg (fun e=>hn.2 (by simp [e])),get_drop,if_neg (by simpa using hn.1)]
  ·cases ev
theorem on_L (g : Option (Nat × Bool)) : ∀ (l : List S1) (inner : Bool) (seen : List Nat) (e e1 : Env) (h h1 : H),okL inner seen l=true→noDst g (dstsL l)→On g e→evS call fpol base ws l e h=some (e1,h1) →
    ∃ e2,evFl call fpol base ws (flatL g l) e h=some (e2,h1)∧EqE e1 e2∧∀ n,n ∉ dstsL l→e1.get n=e.get n
 | [],inner,seen,e,e1,h,h1,_,_,_,ev=>by
  simp [evS] at ev
  obtain ⟨rfl,rfl⟩:=ev
  exact ⟨e,by simp [flatL,Avm.evFl],EqE.refl _,fun _ _=>rfl⟩
 | x :: l,inner,seen,e,e1,h,h1,hok,hd,ho,ev=>by
  rw [dstsL_cons] at hd
  have hdx : noDst g x.dsts:=fun s w e1=>by have:=hd s w e1; simp only [List.mem_append,not_or] at this; exact this.1
  have hdl : noDst g (dstsL l):=fun s w e1=>by have:=hd s w e1; simp only [List.mem_append,not_or] at this; exact this.2
  have hokx : x.ok inner seen=true:=by
   cases x with
   | op d i=>rfl
   | sc s w body d r o=>rw [okL,Bool.and_eq_true] at hok; exact hok.1
  have hokl : ∃ seen',okL inner seen' l=true:=by
   cases x with
   | op d i=>exact ⟨_,by simpa [okL] using hok⟩
   | sc s w body d r o=>rw [okL,Bool.and_eq_true] at hok; exact ⟨_,hok.2⟩
  obtain ⟨seen',hokl⟩:=hokl
  unfold evS at ev
  cases hx : evS1 call fpol base ws x e h with
  | none=>rw [hx] at ev; cases ev
  | some p=>
   obtain ⟨e2,h2⟩:=p
   rw [hx] at ev
   dsimp only at ev
   obtain ⟨e3,h3,h4,h5⟩:=on_S1 g x inner seen e e2 h h2 hokx hdx ho hx
   have ho2 : On g e2:=fun s w e1=>by rw [h5 s (hdx s w e1)]; exact ho s w e1
   obtain ⟨e4,h6,h7,h8⟩:=on_L g l inner seen' e2 e1 h2 h1 hokl hdl ho2 ev
   obtain ⟨e5,h9,h10⟩:=EqE.evFl h4 h6
   refine ⟨e5,by rw [flatL,evFl_append,h3]; exact h9,h7.trans h10,fun n hn=>?_⟩
   rw [dstsL_cons] at hn
   simp only [List.mem_append,not_or] at hn
   rw [h8 n hn.2,h5 n hn.1]
end
end
end Go.Avm
