/- Which operation must come ahead of which; what a touch leaves. -/
import Derived.Test.YtflbneepngjglaaGreatDoorP21
set_option linter.all false
namespace Go.Avm
open Go.RowKit
section
variable {e : Env} {base ws : Nat} {h h' : H} {u : AV} {pf : FuncId→Bool} {dyn : List Dyn}
theorem look_same {g : H} {b ver sz off len : Nat} (hs : g[b]? = h[b]?) : look g b ver sz off len=look h b ver sz off len:=by unfold look; rw [hs]
theorem cellsAt_same {g : H} {v : AV} (hs : ∀ b,blockOf v=some b→g[b]? = h[b]?) : cellsAt g v=cellsAt h v:=by
 cases v with
 | ptr b ver sz i o=>simp only [cellsAt,hs b rfl]
 | _=>rfl
theorem elsOf_same {g : H} {v : AV} (hs : ∀ b,blockOf v=some b→g[b]? = h[b]?) : elsOf g v=elsOf h v:=by
 cases v with
 | osl b ver sz off len=>simp only [elsOf,look_same (hs b rfl)]
 | _=>rfl
theorem slcI_same {g : H} {k : SlK} {v : AV} {lo hi mx : Option AV} (hs : ∀ b,blockOf v=some b→g[b]? = h[b]?) : slcI g k v lo hi mx=slcI h k v lo hi mx:=by
 cases k with
 | str=>rfl
 | sl sz=>
  cases v with
  | osl b ver sz' off len=>simp only [slcI,look_same (hs b rfl)]
  | _=>rfl
theorem read_any {i : I} {x : O} (hk : kindOf pf dyn i = .read x) (ev : evI base ws e h i=some (u,h')) :
    h'=h∧x ∈ i.opds∧∀ g,(∀ v b,x.val e=some v→blockOf v=some b→g[b]? = h[b]?)→evI base ws e g i=some (u,g):=by
 cases i with
 | ld sz ag y=>
  simp only [kindOf,Kd.read.injEq] at hk; subst hk
  simp only [evI] at ev ⊢
  split at ev
  ·rename_i v hv
   split at ev
   ·rename_i l hl
    split at ev
    ·rename_i r hr
     simp at ev; obtain ⟨rfl,rfl⟩:=ev
     refine ⟨rfl,by simp [I.opds],fun g hg=>?_⟩
     try simp only [hv]
     rw [cellsAt_same fun b hb=>hg v b hv hb,hl]
     simp only [hr]
    ·cases ev
   ·cases ev
  ·cases ev
 | slc k y lo hi mx=>
  cases k with
  | str=>simp [kindOf] at hk
  | sl sz=>
   simp only [kindOf,Kd.read.injEq] at hk; subst hk
   simp only [evI] at ev ⊢
   split at ev
   ·rename_i v l r m hv h1 h2 h3
    split at ev
    ·rename_i w hw
     simp at ev; obtain ⟨rfl,rfl⟩:=ev
     refine ⟨rfl,by simp [I.opds],fun g hg=>?_⟩
     rw [slcI_same fun b hb=>hg v b hv hb,hw]
    ·cases ev
   ·cases ev
 | conv c y=>
  cases c with
  | b2s=>
   simp only [kindOf,Kd.read.injEq] at hk; subst hk
   simp only [evI] at ev ⊢
   split at ev
   ·rename_i v hv
    refine ⟨?_,by simp [I.opds],fun g hg=>?_⟩
    ·repeat' split at ev
     all_goals first
      | (cases ev; done)
      | (simp at ev; exact ev.2.symm)
      | (simp_all; done)
    ·have hels : elsOf g v=elsOf h v:=elsOf_same fun b hb=>hg v b hv hb
     try simp only [hv]
     rw [hels]
     repeat' split at ev
     all_goals first
      | (cases ev; done)
      | (simp at ev; obtain ⟨rfl,rfl⟩:=ev; simp only [*]; done)
      | (simp_all; done)
   ·cases ev
  | intk k=>simp [kindOf] at hk
  | same=>simp [kindOf] at hk
  | s2b=>simp [kindOf] at hk
 | call f l=>simp only [kindOf] at hk; split at hk <;> cases hk
 | callv pu f l=>simp only [kindOf] at hk; split at hk <;> cases hk
 | bsl sz n zero ps=>simp only [kindOf] at hk; split at hk <;> cases hk
 | _=>simp [kindOf] at hk
theorem bslP_pure {sz : Nat} : ∀ {ps : List (Nat × O)} {els els' : List AV},(∀ p ∈ ps,∀ v,p.2.val e=some v→v.pure=true)→bslP base e sz ps els h=some (els',h') →
    h'=h∧(∀ g,bslP base e sz ps els g=some (els',g))∧∀ n,underL n els=true→underL n els'=true
 | [],els,els',_,ev=>by
  simp [bslP] at ev
  obtain ⟨rfl,rfl⟩:=ev
  exact ⟨rfl,fun g=>rfl,fun _ h=>h⟩
 | (i,x) :: r,els,els',hp,ev=>by
  unfold bslP at ev
  split at ev
  ·rename_i v hv
   have hpv:=hp (i,x) (by simp) v hv
   have hf : ∀ g,frz base deep v g=some (v,g):=fun g=>by unfold deep frz; rw [if_pos hpv]
   rw [hf] at ev
   dsimp only at ev
   split at ev
   ·rename_i hc
    obtain ⟨h1,h2,h3⟩:=bslP_pure (fun p hp'=>hp p (by simp [hp'])) ev
    refine ⟨h1,fun g=>?_,fun n hn=>h3 n ?_⟩
    ·unfold bslP
     rw [hv]
     dsimp only
     rw [hf]
     dsimp only
     rw [if_pos hc]
     exact h2 g
    ·rw [underL_iff] at hn ⊢
     intro y hy
     rcases List.mem_or_eq_of_mem_set hy with hy | rfl
     ·exact hn y hy
     ·exact pure_under n _ hpv
   ·cases ev
  ·cases ev
variable {P : Program} {o : Oper} {a : Act} {V : View} {β : Beta}
theorem birth_any {i : I} {L : Nat} (hop : opIs P o.op o.type i=true) (hk : kindOf pf dyn i = .birth) (hE : EnvRel V β e a.tmps) (hdom : ∀ b v x,β b v=some x→b < L)
    (hp : ∀ x ∈ i.opds,isPur dyn x=true→∀ v,x.val e=some v→v.pure=true) (ev : evI base ws e h i=some (u,h')) :
    ∃ sz els,h'=h++[.arr 0 sz els]∧underL L els=true∧∀ g,∃ ug,evI base ws e g i=some (ug,g++[.arr 0 sz els]) ∧
     ∀ (V' : View) (β1 β2 : Beta) (v : Value),(∀ ver,β2 h.length ver = β1 g.length ver)→Rel V' β1 ug v→Rel V' β2 u v:=by
 cases i with
 | own0 sz=>
  simp only [evI,Option.some.injEq,Prod.mk.injEq] at ev ⊢
  obtain ⟨rfl,rfl⟩:=ev
  refine ⟨sz,[],rfl,rfl,fun g=>⟨_,⟨rfl,rfl⟩,fun V' β1 β2 v hb hr=>?_⟩⟩
  unfold Rel at hr ⊢
  rw [hb]; exact hr
 | box sz y=>
  simp only [evI] at ev ⊢
  split at ev
  ·rename_i v hv
   split at ev
   ·rename_i hc
    simp at ev; obtain ⟨rfl,rfl⟩:=ev
    refine ⟨sz,[v],rfl,?_,fun g=>⟨_,by rw [if_pos hc],fun V' β1 β2 v hb hr=>?_⟩⟩
    ·have hr : ∃ w,Rel V β v w:=by
       simp only [opIs] at hop
       split at hop
       ·exact ⟨_,sameO_rel hE hop hv⟩
       ·split at hop
        ·obtain ⟨zv,_,_,hz⟩:=zeroIs_run hop
         simp only [O.val] at hv
         injection hv with hv
         subst hv
         exact ⟨zv,hz _ _⟩
        ·cases hop
       ·cases hop
     obtain ⟨w,hr⟩:=hr
     simp [underL,Rel.isUnder hdom _ _ hr]
    ·unfold Rel at hr ⊢
     rw [hb]; exact hr
   ·cases ev
  ·cases ev
 | bsl sz n zero ps=>
  simp only [kindOf] at hk
  split at hk
  ·rename_i hall
   simp only [evI] at ev ⊢
   split at ev
   ·rename_i els h1 hb1
    simp at ev; obtain ⟨rfl,rfl⟩:=ev
    obtain ⟨rfl,h2,h3⟩:=bslP_pure (fun p hp' v hv=>hp p.2 (List.mem_map.2 ⟨p,hp',rfl⟩) (List.all_eq_true.1 hall p hp') v hv) hb1
    refine ⟨sz,els,rfl,h3 L ?_,fun g=>⟨_,by rw [h2 g],fun V' β1 β2 v hb hr=>?_⟩⟩
    ·simp only [opIs] at hop
     split at hop
     ·split at hop
      ·simp only [Bool.and_eq_true] at hop
       obtain ⟨zv,_,_,hz⟩:=zeroIs_run hop.1.1.1.1.1.2
       rw [underL_iff]
       intro y hy
       rw [List.eq_of_mem_replicate hy]
       exact Rel.isUnder hdom _ _ (hz V β)
      ·cases hop
     ·cases hop
    ·unfold Rel at hr ⊢
     rw [hb]; exact hr
   ·cases ev
  ·cases hk
 | slc k y lo hi mx=>cases k <;> simp [kindOf] at hk
 | conv c y=>cases c <;> simp [kindOf] at hk
 | call f l=>simp only [kindOf] at hk; split at hk <;> cases hk
 | callv pu f l=>simp only [kindOf] at hk; split at hk <;> cases hk
 | _=>simp [kindOf] at hk
end
end Go.Avm
namespace Go.Avm
open Go.RowKit
def mkMask (acc : List Nat) (o : Oper) : Nat:=o.after.toList.foldl (fun m e=>if Region.binds .any e=true then m ||| (acc.getD e.on 0 ||| 2 ^ e.on) else m) 0
def closL : List Nat→List Oper→List Nat
 | acc,[]=>acc
 | acc,o :: r=>closL (acc++[mkMask acc o]) r
def clos (ops : Array Oper) : List Nat:=closL [] ops.toList
theorem fold_bit {acc : List Nat} {i : Nat} : ∀ (l : List Edge) (m : Nat),(l.foldl (fun m e=>if Region.binds .any e=true then m ||| (acc.getD e.on 0 ||| 2 ^ e.on) else m) m).testBit i=true→m.testBit i=true ∨ ∃ e ∈ l,Region.binds .any e=true∧((acc.getD e.on 0).testBit i=true ∨ e.on=i)
 | [],m,h=>.inl h
 | e :: l,m,h=>by
  simp only [List.foldl_cons] at h
  rcases fold_bit l _ h with h1 | ⟨e',h1,h2⟩
  ·split at h1
   ·rename_i hb
    simp only [Nat.testBit_or,Bool.or_eq_true] at h1
    rcases h1 with h1 | h1 | h1
    ·exact .inl h1
    ·exact .inr ⟨e,by simp,hb,.inl h1⟩
    ·rw [Nat.testBit_two_pow] at h1
     exact .inr ⟨e,by simp,hb,.inr (by simpa using h1)⟩
   ·exact .inl h1
  ·exact .inr ⟨e',by simp [h1],h2⟩
theorem closL_spec : ∀ (r : List Oper) (acc : List Nat),(∃ t,closL acc r=acc++t∧t.length=r.length)∧∀ j o,r[j]? = some o→(closL acc r).getD (acc.length + j) 0=mkMask ((closL acc r).take (acc.length + j)) o
 | [],acc=>⟨⟨[],by simp [closL]⟩,fun j o h=>by simp at h⟩
 | o :: r,acc=>by
  obtain ⟨⟨t,h1,h2⟩,h3⟩:=closL_spec r (acc++[mkMask acc o])
  simp only [closL]
  refine ⟨⟨mkMask acc o :: t,by rw [h1]; simp,by simp [h2]⟩,fun j q hj=>?_⟩
  cases j with
  | zero=>
   simp at hj; subst hj
   rw [h1]
   simp [List.getD_eq_getElem?_getD]
  | succ j=>
   have:=h3 j q (by simpa using hj)
   simp only [List.length_append,List.length_singleton] at this
   rw [show acc.length + (j + 1)=acc.length + 1 + j by omega]
   exact this
theorem clos_spec {ops : Array Oper} {j : Nat} {o : Oper} (h : ops[j]? = some o) : (clos ops).getD j 0=mkMask ((clos ops).take j) o:=by
 have:=(closL_spec ops.toList []).2 j o (by simpa using h)
 simpa [clos] using this
def ahead (cl : List Nat) (i j : Nat) : Bool:=(cl.getD j 0).testBit i
theorem ahead_closed {ops : Array Oper} {S : Nat→Prop} (hS : ∀ j o,S j→ops[j]? = some o→∀ e ∈ o.after,Region.binds .any e=true→S e.on) : ∀ (j : Nat) (o : Oper) (i : Nat),ops[j]? = some o→(∀ e ∈ o.after,Region.binds .any e=true→S e.on)→ahead (clos ops) i j=true→S i:=by
 intro j
 induction j using Nat.strongRecOn with
 | _ j ih=>
  intro o i ho he ha
  unfold ahead at ha
  rw [clos_spec ho] at ha
  rcases fold_bit _ _ ha with h1 | ⟨e,h1,h2,h3⟩
  ·simp at h1
  ·have hse:=he e (by simpa using h1) h2
   rcases h3 with h3 | rfl
   ·have hlt : e.on < j:=by
      rcases Nat.lt_or_ge e.on j with h4 | h4
      ·exact h4
      ·rw [List.getD_eq_getElem?_getD,List.getElem?_eq_none (by simp; omega)] at h3
       simp at h3
    rw [List.getD_eq_getElem?_getD,List.getElem?_take,if_pos hlt,← List.getD_eq_getElem?_getD] at h3
    cases ho2 : ops[e.on]? with
    | none=>
     have hlen : (clos ops).length=ops.toList.length:=by
      obtain ⟨⟨t,h5,h6⟩,_⟩:=closL_spec ops.toList []
      unfold clos
      rw [h5]; simpa using h6
     rw [List.getD_eq_getElem?_getD,List.getElem?_eq_none] at h3
     ·simp at h3
     ·rw [hlen]
      simp at ho2 ⊢
      exact ho2
    | some o2=>exact ih e.on hlt o2 i ho2 (fun e' he' hb'=>hS e.on o2 hse ho2 e' he' hb') h3
   ·exact hse
def ArrAt (h : H) (b : Nat) : Prop:=∃ ver sz els,h[b]? = some (ABlock.arr ver sz els)
def target : I→Option O
 | .st _ x _=>some x
 | .app _ _ _ x _=>some x
 | _=>none
theorem frz_arrAt {base n : Nat} {v v' : AV} {h h' : H} (e : frz base n v h=some (v',h')) {b : Nat} (ha : ArrAt h' b) : h'[b]? = h[b]?:=by
 obtain ⟨ver,sz,els,h1⟩:=ha
 rw [h1,frz_keeps base n v h v' h' e b ver sz els h1]
theorem bslP_arrAt {base : Nat} {e : Env} {sz : Nat} : ∀ {ps : List (Nat × O)} {els els' : List AV} {h h' : H},bslP base e sz ps els h=some (els',h')→∀ {b : Nat},ArrAt h' b→h'[b]? = h[b]?
 | [],els,els',h,h',ev,b,_=>by
  simp [bslP] at ev
  obtain ⟨_,rfl⟩:=ev
  rfl
 | (i,x) :: r,els,els',h,h',ev,b,ha=>by
  unfold bslP at ev
  split at ev
  ·split at ev
   ·rename_i h1 e1
    split at ev
    ·have h2:=bslP_arrAt ev ha
     have h3 : ArrAt h1 b:=by
      obtain ⟨ver,sz,els,h4⟩:=ha
      exact ⟨ver,sz,els,by rw [← h2]; exact h4⟩
     exact h2.trans (frz_arrAt e1 h3)
    ·cases ev
   ·cases ev
  ·cases ev
theorem evI_arr {base ws : Nat} {e : Env} {h h' : H} {i : I} {u : AV} (ev : evI base ws e h i=some (u,h')) {b : Nat} (hb : b < h.length) (ha : ArrAt h' b) :
    ArrAt h b∧((∀ x v b',target i=some x→x.val e=some v→blockOf v=some b'→b' ≠ b)→h'[b]? = h[b]?):=by
 have stay : h'=h→ArrAt h b∧((∀ x v b',target i=some x→x.val e=some v→blockOf v=some b'→b' ≠ b)→h'[b]? = h[b]?):=by
  rintro rfl; exact ⟨ha,fun _=>rfl⟩
 have app : (∃ t,h'=h++t)→ArrAt h b∧((∀ x v b',target i=some x→x.val e=some v→blockOf v=some b'→b' ≠ b)→h'[b]? = h[b]?):=by
  rintro ⟨t,rfl⟩
  have h1 : (h++t)[b]? = h[b]?:=List.getElem?_append_left hb
  obtain ⟨ver,sz,els,h2⟩:=ha
  exact ⟨⟨ver,sz,els,by rw [← h1]; exact h2⟩,fun _=>h1⟩
 have same : h'[b]? = h[b]?→ArrAt h b∧((∀ x v b',target i=some x→x.val e=some v→blockOf v=some b'→b' ≠ b)→h'[b]? = h[b]?):=by
  intro h1
  obtain ⟨ver,sz,els,h2⟩:=ha
  exact ⟨⟨ver,sz,els,by rw [← h1]; exact h2⟩,fun _=>h1⟩
 have setno : ∀ b0 blk,(∀ v z l,blk ≠ ABlock.arr v z l)→h'=h.set b0 blk→ArrAt h b∧((∀ x v b',target i=some x→x.val e=some v→blockOf v=some b'→b' ≠ b)→h'[b]? = h[b]?):=by
  intro b0 blk hx hh
  have hne : b0 ≠ b:=by
   rintro rfl
   obtain ⟨a1,a2,a3,a4⟩:=ha
   rw [hh,List.getElem?_set_self hb] at a4
   injection a4 with a4; exact hx _ _ _ a4
  exact same (by rw [hh]; exact List.getElem?_set_ne hne)
 cases i with
 | ustr T p n=>
  simp only [evI] at ev
  repeat' split at ev
  all_goals first
   | (cases ev; done)
   | (simp at ev; exact stay ev.2.symm)
   | (simp at ev; exact setno _ _ (fun _ _ _ h=>by cases h) ev.2.symm)
 | appb T lim x y=>
  simp only [evI] at ev
  repeat' split at ev
  all_goals first
   | (cases ev; done)
   | (simp at ev; exact setno _ _ (fun _ _ _ h=>by cases h) ev.2.symm)
 | st sz x v=>
  dsimp only [evI] at ev
  split at ev
  ·rename_i b0 ver bz j o r hx hv
   split at ev
   ·split at ev
    ·rename_i u' h1 hu
     have hu1 : ∀ {b : Nat},ArrAt h1 b→h1[b]? = h[b]?:=by
      split at hu
      ·exact fun ha=>frz_arrAt hu ha
      ·simp at hu
       obtain ⟨_,rfl⟩:=hu
       exact fun _=>rfl
     split at ev
     ·rename_i v' z els hbk
      split at ev
      ·split at ev
       ·split at ev
        ·split at ev
         ·simp at ev; obtain ⟨_,rfl⟩:=ev
          by_cases hbb : b0=b
          ·subst hbb
           have h2:=hu1 ⟨_,_,_,hbk⟩
           exact ⟨⟨_,_,_,by rw [← h2]; exact hbk⟩,fun hne=>absurd rfl (hne x _ _ rfl hx rfl)⟩
          ·rw [List.getElem?_set_ne hbb] at same
           have ha1 : ArrAt h1 b:=by
            obtain ⟨a1,a2,a3,a4⟩:=ha
            exact ⟨a1,a2,a3,by rwa [List.getElem?_set_ne hbb] at a4⟩
           rw [List.getElem?_set_ne hbb]
           exact same (hu1 ha1)
         ·cases ev
        ·cases ev
       ·cases ev
      ·cases ev
     ·cases ev
    ·cases ev
   ·cases ev
  ·cases ev
 | app s sz lim x y=>
  simp only [evI] at ev
  split at ev
  ·rename_i xv yv hxv hyv
   split at ev
   ·unfold appI at ev
    split at ev
    ·split at ev
     ·simp at ev; obtain ⟨_,rfl⟩:=ev; exact app ⟨_,rfl⟩
     ·cases ev
    ·rename_i b0 ver sz' off len
     split at ev
     ·rename_i hbk
      split at ev
      ·simp at ev; obtain ⟨_,rfl⟩:=ev
       by_cases hbb : b0=b
       ·subst hbb
        exact ⟨⟨_,_,_,hbk⟩,fun hne=>absurd rfl (hne x _ _ rfl hxv rfl)⟩
       ·exact same (List.getElem?_set_ne hbb)
      ·cases ev
     ·cases ev
    ·cases ev
   ·cases ev
  ·cases ev
 | bsl sz n zero ps=>
  simp only [evI] at ev
  split at ev
  ·rename_i h1 e1
   simp at ev; obtain ⟨_,rfl⟩:=ev
   have hl:=(bslP_below e1).1
   have h2 : ∀ t,(h1++t)[b]? = h1[b]?:=fun t=>List.getElem?_append_left (by omega)
   have ha1 : ArrAt h1 b:=by
    obtain ⟨a1,a2,a3,a4⟩:=ha
    exact ⟨a1,a2,a3,by rwa [h2] at a4⟩
   exact same ((h2 _).trans (bslP_arrAt e1 ha1))
  ·cases ev
 | nxt x=>
  simp only [evI] at ev
  split at ev
  ·split at ev
   ·split at ev
    ·rename_i hbk
     split at ev
     ·simp at ev; obtain ⟨_,rfl⟩:=ev
      refine same (List.getElem?_set_ne ?_)
      rintro rfl
      obtain ⟨a1,a2,a3,a4⟩:=ha
      rw [List.getElem?_set_self hb] at a4
      simp at a4
     ·simp at ev; obtain ⟨_,h1⟩:=ev; exact stay h1.symm
    ·cases ev
   ·cases ev
  ·cases ev
 | call f args=>simp [evI] at ev
 | callv pu f args=>simp [evI] at ev
 | own0 sz=>simp [evI] at ev; obtain ⟨_,rfl⟩:=ev; exact app ⟨_,rfl⟩
 | _=>
  simp only [evI] at ev
  repeat' split at ev
  all_goals first
   | (cases ev; done)
   | (simp at ev; exact stay ev.2.symm)
   | (simp at ev; exact app ⟨_,ev.2.symm⟩)
end Go.Avm
