/- Code without drawn orders: what the abstract machine reckons is what the model does. -/
import Derived.Test.YtflbneepngjglaaGreatDoorR15
import Derived.Tactics
import Derived.LoopN
set_option linter.all false
namespace Go.Avm
inductive Fl where
 | op (o : Op1)
 | drop (l : List Nat)
mutual
def S1.flat (g : Option (Nat × Bool)) : S1→List Fl
 | .op d i=>[.op ⟨d,g,i⟩]
 | .sc s want body d r o=>flatL (some (s,want)) body++[.op ⟨some d,g,.pick (.t s) (if want then r else o) (if want then o else r)⟩,.drop ((dstsL body).filter (· != d))]
def flatL (g : Option (Nat × Bool)) : List S1→List Fl
 | []=>[]
 | x :: l=>x.flat g++flatL g l
end
def O.slot : O→Option Nat
 | .t n=>some n
 | .k _=>none
mutual
def S1.ok (inner : Bool) (seen : List Nat) : S1→Bool
 | .op _ _=>true
 | .sc s _ body d _ o=>(!inner || seen.contains s) && !(dstsL body).contains s && !(d == s) && (match o.slot with | some n=>!(dstsL body).contains n | none=>true) && (dstsL body).all (fun n=>!seen.contains n) && okL true [] body
def okL (inner : Bool) (seen : List Nat) : List S1→Bool
 | []=>true
 | .op d i :: l=>okL inner (d.toList++seen) l
 | .sc s w body d r o :: l=>(S1.sc s w body d r o).ok inner seen && okL inner (d :: seen) l
end
section
variable (call : CallF) (fpol : FuncId→Option Pol) (base ws : Nat)
def evFl : List Fl→Env→H→Option (Env × H)
 | [],e,h=>some (e,h)
 | .drop l :: r,e,h=>evFl r (e.drop l) h
 | .op o :: r,e,h=>match o.g with
  | none=>(match doOp call fpol base ws e h o.i with
   | some (v,h')=>evFl r (putD e o.d v) h'
   | none=>none)
  | some (g,want)=>match e.get g with
   | some (.bool b)=>if b=want then (match doOp call fpol base ws e h o.i with
       | some (v,h')=>evFl r (putD e o.d v) h'
       | none=>none)
    else evFl r (putD e o.d (.tup [])) h
   | some (.tup [])=>evFl r (putD e o.d (.tup [])) h
   | _=>none
def EqE (e e' : Env) : Prop:=∀ n,e.get n=e'.get n
end
theorem EqE.refl (e : Env) : EqE e e:=fun _=>rfl
theorem EqE.symm {e e' : Env} (h : EqE e e') : EqE e' e:=fun n=>(h n).symm
theorem EqE.trans {a b c : Env} (h : EqE a b) (k : EqE b c) : EqE a c:=fun n=>(h n).trans (k n)
theorem EqE.val {e e' : Env} (h : EqE e e') (x : O) : x.val e=x.val e':=by cases x with | t n=>exact h n | k v=>rfl
theorem EqE.valL {e e' : Env} (h : EqE e e') : ∀ l,valL e l=valL e' l
 | []=>rfl
 | x :: l=>by simp only [Avm.valL,h.val,h.valL l]
theorem EqE.put {e e' : Env} (h : EqE e e') (n : Nat) (v : AV) : EqE (e.put n v) (e'.put n v):=fun m=>by rw [get_put,get_put,h m]
theorem EqE.putD {e e' : Env} (h : EqE e e') (d : Option Nat) (v : AV) : EqE (Avm.putD e d v) (Avm.putD e' d v):=by cases d with | none=>exact h | some n=>exact h.put n v
theorem get_drop (e : Env) (l : List Nat) (n : Nat) : (e.drop l).get n=if l.contains n then none else e.get n:=by
 unfold Env.drop
 by_cases hc : l.contains n=true
 ·rw [if_pos hc]
  cases hx : Env.get (e.filter fun p=>!l.contains p.1) n with
  | none=>rfl
  | some x=>
   obtain ⟨y,_,h2⟩:=get_filter e (fun k=>!l.contains k) n x hx
   rw [hc] at h2; cases h2
 ·rw [if_neg hc]
  exact get_filter_eq e (fun k=>!l.contains k) n (by simpa using hc)
theorem EqE.drop {e e' : Env} (h : EqE e e') (l : List Nat) : EqE (e.drop l) (e'.drop l):=fun m=>by rw [get_drop,get_drop,h m]
theorem EqE.partsOf {e e' : Env} (h : EqE e e') : ∀ l,partsOf e l=partsOf e' l
 | []=>rfl
 | (_,_,x) :: l=>by simp only [Avm.partsOf,h.val,h.partsOf l]
theorem EqE.bslP {e e' : Env} (h : EqE e e') (base sz : Nat) : ∀ l els hh,bslP base e sz l els hh=bslP base e' sz l els hh
 | [],_,_=>rfl
 | (i,x) :: l,els,hh=>by
  simp only [Avm.bslP,h.val,h.bslP base sz l]
theorem EqE.optVal {e e' : Env} (h : EqE e e') (x : Option O) : optVal e x=optVal e' x:=by cases x with | none=>rfl | some x=>simp only [Avm.optVal,h.val]
theorem EqE.evI {e e' : Env} (h : EqE e e') (base ws : Nat) (hh : H) (i : I) : evI base ws e hh i=evI base ws e' hh i:=by
 cases i <;> simp only [Avm.evI,h.val,h.valL,h.partsOf,h.bslP,h.optVal]
theorem EqE.doOp {e e' : Env} (h : EqE e e') (call : CallF) (fpol : FuncId→Option Pol) (base ws : Nat) (hh : H) (i : I) : doOp call fpol base ws e hh i=doOp call fpol base ws e' hh i:=by
 cases i <;> simp only [Avm.doOp,h.val,h.valL,h.evI base ws hh]
section
variable {call : CallF} {fpol : FuncId→Option Pol} {base ws : Nat}
theorem EqE.evFl : ∀ {l : List Fl} {e e' e1 : Env} {h h1 : H},EqE e e'→evFl call fpol base ws l e h=some (e1,h1)→∃ e2,evFl call fpol base ws l e' h=some (e2,h1)∧EqE e1 e2
 | [],e,e',e1,h,h1,he,ev=>by
  simp [Avm.evFl] at ev
  obtain ⟨rfl,rfl⟩:=ev
  exact ⟨e',rfl,he⟩
 | .drop l :: r,e,e',e1,h,h1,he,ev=>by
  unfold Avm.evFl at *
  exact EqE.evFl (he.drop l) ev
 | .op o :: r,e,e',e1,h,h1,he,ev=>by
  unfold Avm.evFl at *
  cases hg : o.g with
  | none=>
   rw [hg] at ev
   dsimp only at *
   rw [← he.doOp]
   cases hd : Avm.doOp call fpol base ws e h o.i with
   | none=>rw [hd] at ev; cases ev
   | some p=>rw [hd] at ev; exact EqE.evFl (he.putD o.d p.1) ev
  | some gw=>
   obtain ⟨g,want⟩:=gw
   rw [hg] at ev
   dsimp only at *
   rw [← he g,← he.doOp]
   split at ev
   ·split at ev
    ·rename_i hb
     rw [if_pos hb]
     cases hd : Avm.doOp call fpol base ws e h o.i with
     | none=>rw [hd] at ev; cases ev
     | some p=>rw [hd] at ev; exact EqE.evFl (he.putD o.d p.1) ev
    ·rename_i hb
     rw [if_neg hb]
     exact EqE.evFl (he.putD o.d _) ev
   ·exact EqE.evFl (he.putD o.d _) ev
   ·cases ev
theorem evFl_append : ∀ {l r : List Fl} {e : Env} {h : H},evFl call fpol base ws (l++r) e h=(match evFl call fpol base ws l e h with | some (e',h')=>evFl call fpol base ws r e' h' | none=>none)
 | [],r,e,h=>by simp [Avm.evFl]
 | .drop d :: l,r,e,h=>by simp only [List.cons_append,Avm.evFl]; exact evFl_append
 | .op o :: l,r,e,h=>by
  simp only [List.cons_append,Avm.evFl]
  cases o.g with
  | none=>
   dsimp only
   cases doOp call fpol base ws e h o.i with
   | none=>rfl
   | some p=>exact evFl_append
  | some gw=>
   obtain ⟨g,want⟩:=gw
   dsimp only
   split
   ·split
    ·cases doOp call fpol base ws e h o.i with
     | none=>rfl
     | some p=>exact evFl_append
    ·exact evFl_append
   ·exact evFl_append
   ·rfl
def Off (g : Nat × Bool) (e : Env) : Prop:=e.get g.1=some (.bool (!g.2)) ∨ e.get g.1=some (.tup [])
theorem get_putD (e : Env) (d : Option Nat) (v : AV) (n : Nat) : (putD e d v).get n=if d=some n then some v else e.get n:=by
 cases d with
 | none=>simp [putD]
 | some m=>simp only [putD,get_put,Option.some.injEq]
theorem off_op {g : Nat × Bool} {o : Op1} {r : List Fl} {e : Env} {h : H} (hg : o.g=some g) (ho : Off g e) : evFl call fpol base ws (.op o :: r) e h=evFl call fpol base ws r (putD e o.d (.tup [])) h:=by
 simp only [Avm.evFl,hg]
 rcases ho with ho | ho
 ·rw [ho]; dsimp only; rw [if_neg (by cases g.2 <;> simp)]
 ·rw [ho]
theorem dstsL_cons (x : S1) (l : List S1) : dstsL (x :: l)=x.dsts++dstsL l:=by rw [dstsL]
mutual
theorem off_S1 (g : Nat × Bool) : ∀ (x : S1) (seen : List Nat) (e : Env) (h : H),x.ok true seen=true→g.1 ∉ x.dsts→Off g e→(∀ n ∈ seen,e.get n=some (.tup [])) →
    ∃ e',evFl call fpol base ws (x.flat (some g)) e h=some (e',h)∧Off g e'∧(∀ n,n ∉ x.dsts→e'.get n=e.get n) ∧
     (match x with | .op d _=>∀ n,d=some n→e'.get n=some (.tup []) | .sc _ _ _ d _ _=>e'.get d=some (.tup []))∧(∀ n ∈ seen,e'.get n=some (.tup []))
 | .op d i,seen,e,h,_,hd,ho,hs=>by
  refine ⟨putD e d (.tup []),by rw [S1.flat,off_op rfl ho]; rfl,?_,fun n hn=>?_,fun n hn=>?_,fun n hn=>?_⟩
  ·have : (putD e d (.tup [])).get g.1=e.get g.1:=by
     rw [get_putD,if_neg]
     intro e1; rw [e1] at hd; simp [S1.dsts] at hd
   unfold Off; rw [this]; exact ho
  ·rw [get_putD,if_neg]
   intro e1; rw [e1] at hn; simp [S1.dsts] at hn
  ·rw [get_putD,if_pos hn]
  ·rw [get_putD]; split
   ·rfl
   ·exact hs n hn
 | .sc s want body d r o,seen,e,h,hok,hd,ho,hs=>by
  simp only [S1.ok,Bool.and_eq_true,Bool.not_true,Bool.false_or] at hok
  obtain ⟨⟨⟨⟨⟨h1,h2⟩,h3⟩,h4⟩,h5⟩,h6⟩:=hok
  have hsd : s ∉ dstsL body:=by simpa using h2
  have hso : Off (s,want) e:=.inr (hs s (by simpa using h1))
  simp only [S1.dsts,List.mem_append,not_or] at hd
  obtain ⟨e1,h7,h8,h9,_⟩:=off_L (s,want) body [] e h h6 hsd hso (fun n hn=>by simp at hn)
  have hog : Off g e1:=by unfold Off; rw [h9 g.1 hd.1]; exact ho
  refine ⟨(putD e1 (some d) (.tup [])).drop ((dstsL body).filter (· != d)),?_,?_,fun n hn=>?_,?_,fun n hn=>?_⟩
  ·rw [S1.flat,evFl_append,h7]
   dsimp only
   rw [off_op rfl hog]; rfl
  ·have : ((putD e1 (some d) (.tup [])).drop ((dstsL body).filter (· != d))).get g.1=e1.get g.1:=by
     rw [get_drop,if_neg (by simp; intro h; exact absurd h hd.1),get_putD,if_neg]
     intro e2; injection e2 with e2; exact hd.2 (by simp [e2])
   unfold Off; rw [this]; exact hog
  ·simp only [S1.dsts,List.mem_append,not_or] at hn
   rw [get_drop,if_neg (by simp; intro h; exact absurd h hn.1),get_putD,if_neg (by intro e2; injection e2 with e2; exact hn.2 (by simp [e2])),h9 n hn.1]
  ·show _=_
   rw [get_drop,if_neg (by simp),get_putD,if_pos rfl]
  ·have hnb : n ∉ dstsL body:=fun hb=>by
     have:=List.all_eq_true.1 h5 n hb
     simp [hn] at this
   rw [get_drop,if_neg (by simp; intro h; exact absurd h hnb),get_putD]
   split
   ·rfl
   ·rw [h9 n hnb]; exact hs n hn
theorem off_L (g : Nat × Bool) : ∀ (l : List S1) (seen : List Nat) (e : Env) (h : H),okL true seen l=true→g.1 ∉ dstsL l→Off g e→(∀ n ∈ seen,e.get n=some (.tup [])) →
    ∃ e',evFl call fpol base ws (flatL (some g) l) e h=some (e',h)∧Off g e'∧(∀ n,n ∉ dstsL l→e'.get n=e.get n)∧True
 | [],seen,e,h,_,_,ho,_=>⟨e,by simp [flatL,Avm.evFl],ho,fun _ _=>rfl,trivial⟩
 | .op d i :: l,seen,e,h,hok,hd,ho,hs=>by
  rw [dstsL_cons] at hd
  simp only [List.mem_append,not_or] at hd
  obtain ⟨e1,h1,h2,h3,h4,h5⟩:=off_S1 g (.op d i) seen e h rfl hd.1 ho hs
  obtain ⟨e2,h6,h7,h8,_⟩:=off_L g l (d.toList++seen) e1 h (by simpa [okL] using hok) hd.2 h2 (fun n hn=>by
   simp only [List.mem_append] at hn
   rcases hn with hn | hn
   ·exact h4 n (by simpa using hn)
   ·exact h5 n hn)
  refine ⟨e2,by rw [flatL,evFl_append,h1]; exact h6,h7,fun n hn=>?_,trivial⟩
  rw [dstsL_cons] at hn
  simp only [List.mem_append,not_or] at hn
  rw [h8 n hn.2,h3 n hn.1]
 | .sc s w body d r o :: l,seen,e,h,hok,hd,ho,hs=>by
  rw [dstsL_cons] at hd
  simp only [List.mem_append,not_or] at hd
  rw [okL,Bool.and_eq_true] at hok
  obtain ⟨e1,h1,h2,h3,h4,h5⟩:=off_S1 g (.sc s w body d r o) seen e h hok.1 hd.1 ho hs
  obtain ⟨e2,h6,h7,h8,_⟩:=off_L g l (d :: seen) e1 h hok.2 hd.2 h2 (fun n hn=>by
   simp only [List.mem_cons] at hn
   rcases hn with rfl | hn
   ·exact h4
   ·exact h5 n hn)
  refine ⟨e2,by rw [flatL,evFl_append,h1]; exact h6,h7,fun n hn=>?_,trivial⟩
  rw [dstsL_cons] at hn
  simp only [List.mem_append,not_or] at hn
  rw [h8 n hn.2,h3 n hn.1]
end
def On (g : Option (Nat × Bool)) (e : Env) : Prop:=∀ s w,g=some (s,w)→e.get s=some (.bool w)
theorem on_op {g : Option (Nat × Bool)} {o : Op1} {r : List Fl} {e : Env} {h : H} (hg : o.g=g) (ho : On g e) : evFl call fpol base ws (.op o :: r) e h=(match doOp call fpol base ws e h o.i with | some (v,h')=>evFl call fpol base ws r (putD e o.d v) h' | none=>none):=by
 simp only [Avm.evFl,hg]
 cases g with
 | none=>rfl
 | some gw=>
  obtain ⟨s,w⟩:=gw
  dsimp only
  rw [ho s w rfl]
  dsimp only
  rw [if_pos rfl]
def noDst (g : Option (Nat × Bool)) (l : List Nat) : Prop:=∀ s w,g=some (s,w)→s ∉ l
mutual
theorem on_S1 (g : Option (Nat × Bool)) : ∀ (x : S1) (inner : Bool) (seen : List Nat) (e e1 : Env) (h h1 : H),x.ok inner seen=true→noDst g x.dsts→On g e→evS1 call fpol base ws x e h=some (e1,h1) →
    ∃ e2,evFl call fpol base ws (x.flat g) e h=some (e2,h1)∧EqE e1 e2∧∀ n,n ∉ x.dsts→e1.get n=e.get n
 | .op d i,inner,seen,e,e1,h,h1,_,hd,ho,ev=>by
  rw [S1.flat,on_op rfl ho]
  unfold evS1 at ev
  cases hx : doOp call fpol base ws e h i with
  | none=>rw [hx] at ev; simp [andV] at ev
  | some p=>
   rw [hx] at ev
   simp [andV] at ev
   obtain ⟨rfl,rfl⟩:=ev
   refine ⟨putD e d p.1,by simp [Avm.evFl],EqE.refl _,fun n hn=>?_⟩
   rw [get_putD,if_neg]
   intro e1; rw [e1] at hn; simp [S1.dsts] at hn
 | .sc s want body d r o,inner,seen,e,e1,h,h1,hok,hd,ho,ev=>by
  simp only [S1.ok,Bool.and_eq_true] at hok
  obtain ⟨⟨⟨⟨⟨_,h2⟩,h3⟩,h4⟩,h5⟩,h6⟩:=hok
  have hsd : s ∉ dstsL body:=by simpa using h2
  have hsn : d ≠ s:=by simpa using h3
  unfold evS1 at ev
  split at ev
  ·rename_i b hb
   have hgb : noDst g (dstsL body):=fun s' w e1=>by have:=hd s' w e1; simp only [S1.dsts,List.mem_append,not_or] at this; exact this.1
   have hfin : ∀ (e' : Env) (v : AV),(∀ n,n ∉ dstsL body→e'.get n=e.get n)→EqE ((e.drop (dstsL body)).put d v) ((putD e' (some d) v).drop ((dstsL body).filter (· != d))):=by
    intro e' v he' n
    rw [get_put,get_drop,get_drop,get_putD]
    by_cases hn : d=n
    ·subst hn; simp
    ·rw [if_neg hn]
     by_cases hm : n ∈ dstsL body
     ·rw [if_pos (by simpa using hm),if_pos (by simp; exact ⟨hm,fun e=>hn e.symm⟩)]
     ·rw [if_neg (by simpa using hm),if_neg (by simp; intro h; exact absurd h hm),if_neg (by intro e; injection e with e; exact hn e),he' n hm]
   by_cases hbw : b=want
   ·rw [if_pos hbw] at ev
    subst hbw
    cases hbody : evS call fpol base ws body e h with
    | none=>rw [hbody] at ev; simp [valIn,andV] at ev
    | some p=>
     obtain ⟨e3,h3'⟩:=p
     rw [hbody] at ev
     simp only [valIn] at ev
     cases hv : r.val e3 with
     | none=>rw [hv] at ev; simp [andV] at ev
     | some v=>
      rw [hv] at ev
      simp [andV] at ev
      obtain ⟨rfl,rfl⟩:=ev
      obtain ⟨e4,h7,h8,h9⟩:=on_L (some (s,b)) body true [] e e3 h h3' h6 (fun s' w e1=>by injection e1 with e1; injection e1 with e1; subst e1; exact hsd) (fun s' w e1=>by injection e1 with e1; injection e1 with e1 e2; subst e1 e2; exact hb) hbody
      have hg4 : On g e4:=fun s' w e1=>by rw [← h8 s',h9 s' (hgb s' w e1)]; exact ho s' w e1
      have hs4 : e4.get s=some (.bool b):=by rw [← h8 s,h9 s hsd]; exact hb
      refine ⟨(putD e4 (some d) v).drop ((dstsL body).filter (· != d)),?_,hfin e4 v (fun n hn=>by rw [← h8 n,h9 n hn]),fun n hn=>?_⟩
      ·rw [S1.flat,evFl_append,h7]
       dsimp only
       rw [on_op rfl hg4]
       have hv4 : r.val e4=some v:=by rw [← h8.val r]; exact hv
       have hs5 : (O.t s).val e4=some (.bool b):=hs4
       cases b <;> simp only [doOp,evI,hs5,Bool.false_eq_true,if_true,if_false,Bool.not_false,reduceIte] <;> rw [hv4] <;> simp [Avm.evFl]
      ·simp only [S1.dsts,List.mem_append,not_or] at hn
       rw [get_put,if_neg (fun e=>hn.2 (by simp [e])),get_drop,if_neg (by simpa using hn.1)]
   ·rw [if_neg hbw] at ev
    simp only [valAt] at ev
    cases hv : o.val e with
    | none=>rw [hv] at ev; simp [andV] at ev
    | some v=>
     rw [hv] at ev
     simp [andV] at ev
     obtain ⟨rfl,rfl⟩:=ev
     have hbn : b = !want:=by cases b <;> cases want <;> simp_all
     obtain ⟨e4,h7,h8,h9,_⟩:=off_L (call:=call) (fpol:=fpol) (base:=base) (ws:=ws) (s,want) body [] e h h6 hsd (.inl (by rw [hb,hbn])) (fun n hn=>by simp at hn)
     have hg4 : On g e4:=fun s' w e1=>by rw [h9 s' (hgb s' w e1)]; exact ho s' w e1
     have hs4 : e4.get s=some (.bool b):=by rw [h9 s hsd]; exact hb
     have hv4 : o.val e4=some v:=by
      rw [← hv]
      cases o with
      | k _=>rfl
      | t n=>exact h9 n (by simpa [O.slot] using h4)
     refine ⟨(putD e4 (some d) v).drop ((dstsL body).filter (· != d)),?_,hfin e4 v h9,fun n hn=>?_⟩
     ·rw [S1.flat,evFl_append,h7]
      dsimp only
      rw [on_op rfl hg4]
      subst hbn
      have hs5 : (O.t s).val e4=some (.bool (!want)):=hs4
      cases want <;> simp only [doOp,evI,hs5,Bool.false_eq_true,if_true,if_false,Bool.not_false,Bool.not_true,reduceIte] <;> rw [hv4] <;> simp [Avm.evFl]
     ·simp only [S1.dsts,List.mem_append,not_or] at hn
      rw [get_put,if_neg (fun e=>hn.2 (by simp [e])),get_drop,if_neg (by simpa using hn.1)]
  ·cases ev
theorem on_L (g : Option (Nat × Bool)) : ∀ (l : List S1) (inner : Bool) (seen : List Nat) (e e1 : Env) (h h1 : H),okL inner seen l=true→noDst g (dstsL l)→On g e→evS call fpol base ws l e h=some (e1,h1) →
    ∃ e2,evFl call fpol base ws (flatL g l) e h=some (e2,h1)∧EqE e1 e2∧∀ n,n ∉ dstsL l→e1.get n=e.get n
 | [],inner,seen,e,e1,h,h1,_,_,_,ev=>by
  simp [evS] at ev
  obtain ⟨rfl,rfl⟩:=ev
  exact ⟨e,by simp [flatL,Avm.evFl],EqE.refl _,fun _ _=>rfl⟩
 | x :: l,inner,seen,e,e1,h,h1,hok,hd,ho,ev=>by
  rw [dstsL_cons] at hd
  have hdx : noDst g x.dsts:=fun s w e1=>by have:=hd s w e1; simp only [List.mem_append,not_or] at this; exact this.1
  have hdl : noDst g (dstsL l):=fun s w e1=>by have:=hd s w e1; simp only [List.mem_append,not_or] at this; exact this.2
  have hokx : x.ok inner seen=true:=by
   cases x with
   | op d i=>rfl
   | sc s w body d r o=>rw [okL,Bool.and_eq_true] at hok; exact hok.1
  have hokl : ∃ seen',okL inner seen' l=true:=by
   cases x with
   | op d i=>exact ⟨_,by simpa [okL] using hok⟩
   | sc s w body d r o=>rw [okL,Bool.and_eq_true] at hok; exact ⟨_,hok.2⟩
  obtain ⟨seen',hokl⟩:=hokl
  unfold evS at ev
  cases hx : evS1 call fpol base ws x e h with
  | none=>rw [hx] at ev; cases ev
  | some p=>
   obtain ⟨e2,h2⟩:=p
   rw [hx] at ev
   dsimp only at ev
   obtain ⟨e3,h3,h4,h5⟩:=on_S1 g x inner seen e e2 h h2 hokx hdx ho hx
   have ho2 : On g e2:=fun s w e1=>by rw [h5 s (hdx s w e1)]; exact ho s w e1
   obtain ⟨e4,h6,h7,h8⟩:=on_L g l inner seen' e2 e1 h2 h1 hokl hdl ho2 ev
   obtain ⟨e5,h9,h10⟩:=EqE.evFl h4 h6
   refine ⟨e5,by rw [flatL,evFl_append,h3]; exact h9,h7.trans h10,fun n hn=>?_⟩
   rw [dstsL_cons] at hn
   simp only [List.mem_append,not_or] at hn
   rw [h8 n hn.2,h5 n hn.1]
end
end
end Go.Avm
namespace Go.Avm
open Go.RowKit
def Invokes (P : Program) (f : FuncId) (vs : Array Value) (w : World) (K : Value→World→Prop) : Prop:=
 ((callFunc f vs).run P w = .ok (.enter f vs) w∧Calls P f vs w (fun e w'=>∃ v,e = .returned v∧K v w')) ∨
 (∃ v w',(callFunc f vs).run P w = .ok (.value v) w'∧K v w')
theorem Invokes.mono {P : Program} {f : FuncId} {vs : Array Value} {w : World} {K K' : Value→World→Prop} (h : Invokes P f vs w K) (hk : ∀ v w',K v w'→K' v w') : Invokes P f vs w K':=by
 rcases h with ⟨h1,h2⟩ | ⟨v,w',h1,h2⟩
 ·exact .inl ⟨h1,h2.mono fun e w' ⟨v,h3,h4⟩=>⟨v,h3,hk _ _ h4⟩⟩
 ·exact .inr ⟨v,w',h1,hk _ _ h2⟩
def Gets (w0 : World) (wr : Nat) (β : Beta) (h : H) (w : World) (r : AV) (h' : H) : Value→World→Prop:=fun v w'=>
 ∃ β',Sim w0 wr β' h' w'∧Ext wr β h w β' h' w'∧Rel (view wr β' h' w') β' r v
def CallOk (P : Program) (w0 : World) (call : CallF) : Prop:=
 ∀ (ws : Nat) (f : FuncId) (args : List AV) (h : H) (r : AV) (h' : H) (wr : Nat) (β : Beta) (w : World) (vs : Array Value),call ws f args h=some (r,h')→wr≤ws→ws≤h.length →
  Sim w0 wr β h w→RelL (view wr β h w) β args vs.toList→Invokes P f vs w (Gets w0 wr β h w r h')
section
variable {P : Program} {w0 : World} {wr base ws : Nat} {β : Beta} {h h' : H} {w : World} {e : Env} {a : Act} {u : AV} {o : Oper} {call : CallF} {fpol : FuncId→Option Pol} {Q : Exit→Act→World→Prop}
theorem relL_take {V : View} {β : Beta} {xs : List AV} {cs : List Value} (h : RelL V β xs cs) (k : Nat) : RelL V β (xs.take k) (cs.take k):=by
 obtain ⟨h1,h2⟩:=RelL_iff.1 h
 refine RelL_iff.2 ⟨by simp [h1],fun j x hj=>?_⟩
 rw [List.getElem?_take] at hj ⊢
 split at hj
 ·rename_i hjn
  rw [if_pos hjn]
  exact h2 _ x hj
 ·cases hj
theorem relL_drop' {V : View} {β : Beta} {xs : List AV} {cs : List Value} (h : RelL V β xs cs) (k : Nat) : RelL V β (xs.drop k) (cs.drop k):=by
 obtain ⟨h1,h2⟩:=RelL_iff.1 h
 refine RelL_iff.2 ⟨by simp [h1],fun j x hj=>?_⟩
 rw [List.getElem?_drop] at hj ⊢
 exact h2 _ x hj
theorem upon_invokes {f : FuncId} {vs : Array Value} {K : Value→World→Prop} {next : Act→World→Prop} (hi : Invokes P f vs w K) (hk : ∀ v w',K v w'→next (a.put o.dst v) w')
    (he : (execOp a.eval o).run P w=(callFunc f vs).run P w) : o.wp P a w next Q:=by
 unfold Oper.wp
 rw [he]
 rcases hi with ⟨h1,h2⟩ | ⟨v,w',h1,h2⟩
 ·rw [h1]
  simp only [Oper.upon]
  refine h2.mono fun e w' ⟨v,h3,h4⟩=>?_
  subst h3
  exact hk v w' h4
 ·rw [h1]
  exact hk v w' h2
theorem relL_append {V : View} {β : Beta} : ∀ {l r : List AV} {vs us : List Value},RelL V β l vs→RelL V β r us→RelL V β (l++r) (vs++us)
 | [],r,vs,us,h1,h2=>by unfold RelL at h1; subst h1; exact h2
 | x :: l,r,vs,us,h1,h2=>by
  unfold RelL at h1
  obtain ⟨v,q,rfl,h3,h4⟩:=h1
  simp only [List.cons_append]
  unfold RelL
  exact ⟨v,q++us,rfl,h3,relL_append h4 h2⟩
theorem op_sound {i : I} (hop : opIs P o.op o.type i=true) (hcall : CallOk P w0 call) (hE : EnvRel (view wr β h w) β e a.tmps) (S : Sim w0 wr β h w) (hws : wr≤ws) (hwb : wr≤base) (hbh : base≤h.length) (hwsl : ws≤h.length)
    (hev : doOp call fpol base ws e h i=some (u,h')) {next : Act→World→Prop} (hn : ∀ v w',Gets w0 wr β h w u h' v w'→next (a.put o.dst v) w') : o.wp P a w next Q:=by
 by_cases hc : ∃ f args,i = .call f args
 ·obtain ⟨f,args,rfl⟩:=hc
  simp only [doOp] at hev
  split at hev
  ·rename_i l hl
   simp only [opIs] at hop
   split at hop
   ·rename_i c ho
    split at hop
    ·rename_i g hg
     obtain ⟨h1,h2⟩:=and2 hop
     have h1 : f=g:=by simpa using h1
     subst h1
     have hr:=sameOs_rel hE h2 hl
     rw [← Array.toList_map] at hr
     refine upon_invokes (hcall ws f l h u h' wr β w (c.args.map a.eval) hev hws hwsl S hr) hn ?_
     simp [execOp,ho,resolve,hg,Act.eval,Deferred.ofValue,invoke]
    ·cases hop
   ·cases hop
  ·cases hev
 ·by_cases hc2 : ∃ pu f args,i = .callv pu f args
  ·obtain ⟨pu,f,args,rfl⟩:=hc2
   simp only [doOp] at hev
   split at hev
   ·rename_i g k cap l hf hl
    have hev' : call ws g (cap.take k++(l++cap.drop k)) h=some (u,h'):=by
     split at hev
     ·split at hev
      ·exact hev
      ·exact hev
      ·cases hev
     ·exact hev
    simp only [opIs] at hop
    split at hop
    ·rename_i c ho
     split at hop
     ·rename_i n hg
      obtain ⟨h1,h2⟩:=and2 hop
      have hr:=sameOs_rel hE h2 hl
      have hrf:=sameO_rel hE h1 hf
      unfold Rel at hrf
      obtain ⟨cs,h3,h4⟩:=hrf
      rw [← Array.toList_map] at hr
      have h4a:=relL_take h4 k
      have h4b:=relL_drop' h4 k
      have hr2:=relL_append h4a (relL_append hr h4b)
      have e1 : (cs.extract 0 k++(c.args.map a.eval++cs.extract k cs.size)).toList=cs.toList.take k++((c.args.map a.eval).toList++cs.toList.drop k):=by simp [List.take_of_length_le]
      refine upon_invokes (hcall ws g (cap.take k++(l++cap.drop k)) h u h' wr β w (cs.extract 0 k++(c.args.map a.eval++cs.extract k cs.size)) hev' hws hwsl S (by rw [e1]; exact hr2)) hn ?_
      simp [execOp,ho,resolve,hg,h3,Deferred.ofValue,invoke]
     ·cases hop
    ·cases hop
   ·cases hev
  ·have hev' : evI base ws e h i=some (u,h'):=by
     cases i <;> first | exact hev | exact absurd ⟨_,_,rfl⟩ hc | exact absurd ⟨_,_,_,rfl⟩ hc2
   obtain ⟨nx,v,w',β',h1,h2,h3,h4,h5⟩:=evI_sound hop hE S hws hwb hbh hev'
   unfold Oper.wp
   rw [h1]
   rcases h2 with rfl | ⟨rfl,rfl⟩
   ·exact hn v w' ⟨β',h3,h4,h5⟩
   ·exact hn undef w' ⟨β',h3,h4,h5⟩
end
def guardIs (ops : Array Oper) (g : Option (Nat × Bool)) : Option (Nat × Bool)→Bool
 | none=>g.isNone
 | some (s,w)=>match g with
  | some (j,w')=>w == w' && ((ops[j]?).bind (·.dst)) == some s
  | none=>false
def inTmps (n : Nat) : Option Nat→Bool
 | none=>true
 | some d=>decide (d < n)
def op1Is (P : Program) (n : Nat) (ops : Array Oper) (o : Oper) (f : Op1) : Bool:=o.dst == f.d && inTmps n f.d && guardIs ops o.guard f.g && opIs P o.op o.type f.i
def flatIs (P : Program) (n : Nat) (ops : Array Oper) : List Fl→List Oper→Bool
 | [],os=>os.isEmpty
 | .drop _ :: l,os=>flatIs P n ops l os
 | .op f :: l,os=>match os with
  | o :: r=>op1Is P n ops o f && flatIs P n ops l r
  | []=>false
structure Post (w0 : World) (wr : Nat) (β : Beta) (h : H) (w : World) (a : Act) (e' : Env) (h' : H) (a' : Act) (w' : World) : Prop where
 ex : ∃ β',Sim w0 wr β' h' w'∧Ext wr β h w β' h' w'∧EnvRel (view wr β' h' w') β' e' a'.tmps
 defers : a'.defers=a.defers
 size : a'.tmps.size=a.tmps.size
section
variable {P : Program} {w0 : World} {wr base ws : Nat} {h h' : H} {e : Env} {call : CallF} {fpol : FuncId→Option Pol} {Q : Exit→Act→World→Prop} {ops : Array Oper} {n : Nat}
theorem put_size (a : Act) (d : Option Nat) (v : Value) : (a.put d v).tmps.size=a.tmps.size:=by cases d <;> simp [Act.put]
theorem put_defers (a : Act) (d : Option Nat) (v : Value) : (a.put d v).defers=a.defers:=by cases d <;> rfl
theorem EnvRel.drop {V : View} {β : Beta} {e : Env} {t : Array Value} (h : EnvRel V β e t) (l : List Nat) : EnvRel V β (e.drop l) t:=fun n x hx=>by
 rw [get_drop] at hx
 split at hx
 ·cases hx
 ·exact h n x hx
theorem wanted_is {V : View} {β : Beta} {a : Act} {o : Oper} {s : Nat} {b w : Bool} (hg : guardIs ops o.guard (some (s,w))=true) (hE : EnvRel V β e a.tmps) (hs : e.get s=some (.bool b)) : Region.wanted o (yielded ops a.tmps)=(b == w):=by
 simp only [guardIs] at hg
 split at hg
 ·rename_i j w' hj
  simp at hg
  obtain ⟨rfl,h1⟩:=hg
  obtain ⟨v,h2,h3⟩:=hE s _ hs
  unfold Rel at h3
  subst h3
  have : yielded ops a.tmps j=some b:=by
   unfold yielded
   rw [show (ops[j]?).bind (·.dst)=some s from by simpa using h1]
   simp [h2]
  simp [Region.wanted,hj,this]
 ·cases hg
theorem wanted_no {V : View} {β : Beta} {a : Act} {o : Oper} {s : Nat} {w : Bool} (hg : guardIs ops o.guard (some (s,w))=true) (hE : EnvRel V β e a.tmps) (hs : e.get s=some (.tup [])) : Region.wanted o (yielded ops a.tmps)=false:=by
 simp only [guardIs] at hg
 split at hg
 ·rename_i j w' hj
  simp at hg
  obtain ⟨rfl,h1⟩:=hg
  obtain ⟨v,h2,h3⟩:=hE s _ hs
  unfold Rel at h3
  obtain ⟨vs,rfl,h4⟩:=h3
  have : yielded ops a.tmps j=none:=by
   unfold yielded
   rw [show (ops[j]?).bind (·.dst)=some s from by simpa using h1]
   simp [h2]
  simp [Region.wanted,hj,this]
 ·cases hg
theorem rel_undef {V : View} {β : Beta} : Rel V β (.tup []) undef:=by
 unfold Rel; exact ⟨#[],rfl,by unfold RelL; rfl⟩
theorem flat_sound (hcall : CallOk P w0 call) (hws : wr≤ws) (hwb : wr≤base) : ∀ (l : List Fl) (os : List Oper) (e e1 : Env) (h h1 : H) (β : Beta) (a : Act) (w : World),flatIs P n ops l os=true→n≤a.tmps.size →
    base≤h.length→ws≤h.length→EnvRel (view wr β h w) β e a.tmps→Sim w0 wr β h w→evFl call fpol base ws l e h=some (e1,h1)→(∀ a' w',Post w0 wr β h w a e1 h1 a' w'→Q .normal a' w')→wpList P ops Q os a w
 | [],os,e,e1,h,h1,β,a,w,hf,_,_,_,hE,S,hev,hq=>by
  simp [flatIs] at hf; subst hf
  simp [evFl] at hev
  obtain ⟨rfl,rfl⟩:=hev
  exact hq a w ⟨⟨β,S,Ext.refl _ _ _ _,hE⟩,rfl,rfl⟩
 | .drop d :: l,os,e,e1,h,h1,β,a,w,hf,hn,hb,hwl,hE,S,hev,hq=>by
  simp only [flatIs] at hf
  simp only [evFl] at hev
  exact flat_sound hcall hws hwb l os (e.drop d) e1 h h1 β a w hf hn hb hwl (hE.drop d) S hev hq
 | .op f :: l,os,e,e1,h,h1,β,a,w,hf,hn,hb,hwl,hE,S,hev,hq=>by
  cases os with
  | nil=>simp [flatIs] at hf
  | cons o r=>
   simp only [flatIs] at hf
   obtain ⟨hf1,hf2⟩:=and2 hf
   unfold op1Is at hf1
   obtain ⟨hf1,hop⟩:=and2 hf1
   obtain ⟨hf1,hg⟩:=and2 hf1
   obtain ⟨hd,hin⟩:=and2 hf1
   have hd : o.dst=f.d:=by simpa using hd
   have hdn : ∀ m,f.d=some m→m < a.tmps.size:=fun m hm=>by rw [hm] at hin; simp [inTmps] at hin; omega
   have did : ∀ u h2,doOp call fpol base ws e h f.i=some (u,h2)→evFl call fpol base ws l (putD e f.d u) h2=some (e1,h1)→o.wp P a w (wpList P ops Q r) Q:=fun u h2 h3 h4=>by
    refine op_sound hop hcall hE S hws hwb hb hwl h3 fun v w' ⟨β',S',E',hr⟩=>?_
    refine flat_sound hcall hws hwb l r (putD e f.d u) e1 h2 h1 β' _ w' hf2 (by rw [put_size]; exact hn) (Nat.le_trans hb E'.len) (Nat.le_trans hwl E'.len) ?_ S' h4 fun a' w'' hp=>?_
    ·rw [hd]; exact (hE.mono E'.view E'.beta).put f.d hr hdn
    ·obtain ⟨⟨β2,h5,h6,h7⟩,h8,h9⟩:=hp
     exact hq a' w'' ⟨⟨β2,h5,E'.trans h6,h7⟩,by rw [h8,put_defers],by rw [h9,put_size]⟩
   have left : evFl call fpol base ws l (putD e f.d (.tup [])) h=some (e1,h1)→wpList P ops Q r (a.put o.dst undef) w:=fun h4=>by
    refine flat_sound hcall hws hwb l r (putD e f.d (.tup [])) e1 h h1 β _ w hf2 (by rw [put_size]; exact hn) hb hwl ?_ S h4 fun a' w'' hp=>?_
    ·rw [hd]; exact hE.put f.d rel_undef hdn
    ·obtain ⟨⟨β2,h5,h6,h7⟩,h8,h9⟩:=hp
     exact hq a' w'' ⟨⟨β2,h5,h6,h7⟩,by rw [h8,put_defers],by rw [h9,put_size]⟩
   unfold wpList
   simp only [evFl] at hev
   cases hfg : f.g with
   | none=>
    rw [hfg] at hev hg
    dsimp only at hev
    have hno : o.guard=none:=by simpa [guardIs] using hg
    rw [if_pos (by simp [Region.wanted,hno])]
    split at hev
    ·rename_i u h2 hdo; exact .inl (did u h2 hdo hev)
    ·cases hev
   | some gw=>
    obtain ⟨s,want⟩:=gw
    rw [hfg] at hev hg
    dsimp only at hev
    split at hev
    ·rename_i b hs
     have hwt:=wanted_is hg hE hs
     by_cases hbw : b=want
     ·rw [if_pos hbw] at hev
      rw [if_pos (by rw [hwt,hbw]; simp)]
      split at hev
      ·rename_i u h2 hdo; exact .inl (did u h2 hdo hev)
      ·cases hev
     ·rw [if_neg hbw] at hev
      rw [if_neg (by rw [hwt]; simpa using hbw)]
      exact left hev
    ·rename_i hs
     rw [if_neg (by rw [wanted_no hg hE hs]; simp)]
     exact left hev
    ·cases hev
end
end Go.Avm
