/- A call: its arguments, its body, what it hands back. -/
import Derived.Test.YtflbneepngjglaaGreatDoorR16
import Derived.Test.YtflbneepngjglaaGreatDoorR07
import Derived.Laws.Sem
set_option linter.all false
namespace Go.Avm
open Go.RowKit
def exOf : Ex→Exit
 | .normal=>.normal
 | .exit id=>.exit id
 | .ret=>.ret
def LoopOk (lp : LoopF) : Prop:=∀ f keep e h r,lp f keep e h=some r→∃ n,rounds n f keep e h=some r
abbrev DChk:=Array Oper→List Nat→List Dyn→List S1→Bool
def DrawOk (P : Program) (w0 : World) (call : CallF) (fpol : FuncId→Option Pol) (n : Nat) (dchk : DChk) : Prop:=
 ∀ (ops : Array Oper) (ord : List Nat) (far : List Dyn) (l : List S1),dchk ops ord far l=true →
  ∀ (wr base ws id : Nat) (β : Beta) (h h1 : H) (w : World) (e e1 : Env) (a : Act) (Q : Exit→Act→World→Prop),wr≤ws→wr≤base→base≤h.length→ws≤h.length→n≤a.tmps.size →
   EnvRel (view wr β h w) β e a.tmps→Sim w0 wr β h w→evS call fpol base ws l e h=some (e1,h1)→farAll e1 h h1 far=true→(∀ a' w',Post w0 wr β h w a e1 h1 a' w'→Q .normal a' w') →
   (Code.region id ops true).wp P Q a w
def chkC (P : Program) (n : Nat) (dchk : DChk) : C→Code→Bool
 | .skip,c=>(match c with | .skip=>true | _=>false)
 | .stuck,_=>true
 | .ops l,c=>(match c with | .region _ ops d=>!d && okL false [] l && flatIs P n ops (flatL none l) ops.toList | _=>false)
 | .dops ord far l,c=>(match c with | .region _ ops d=>d && dchk ops ord far l | _=>false)
 | .seq x y,c=>(match c with | .seq a b=>chkC P n dchk x a && chkC P n dchk y b | _=>false)
 | .cond v x y,c=>(match c with | .cond o a b=>sameO o v && chkC P n dchk x a && chkC P n dchk y b | _=>false)
 | .block i x,c=>(match c with | .block j a=>i == j && chkC P n dchk x a | _=>false)
 | .loop _ x,c=>(match c with | .loop a=>chkC P n dchk x a | _=>false)
 | .exit i,c=>(match c with | .exit j=>i == j | _=>false)
 | .ret,c=>(match c with | .ret=>true | _=>false)
 | .forget _ x,c=>chkC P n dchk x c
section
variable {P : Program} {w0 : World} {wr base ws : Nat} {call : CallF} {lp : LoopF} {fpol : FuncId→Option Pol} {n : Nat} {dchk : DChk}
theorem Post.trans {β : Beta} {h h1 h2 : H} {w w1 w2 : World} {a a1 a2 : Act} {e2 : Env} {β1 : Beta} (E : Ext wr β h w β1 h1 w1) (hd : a1.defers=a.defers) (hs : a1.tmps.size=a.tmps.size) (p : Post w0 wr β1 h1 w1 a1 e2 h2 a2 w2) : Post w0 wr β h w a e2 h2 a2 w2:=by
 obtain ⟨⟨β2,h1,h2,h3⟩,h4,h5⟩:=p
 exact ⟨⟨β2,h1,E.trans h2,h3⟩,h4.trans hd,h5.trans hs⟩
theorem evC_sound (hcall : CallOk P w0 call) (hlp : LoopOk lp) (hdr : DrawOk P w0 call fpol n dchk) (hws : wr≤ws) (hwb : wr≤base) :
    ∀ (c : C) (k : Code) (x : Ex) (e e1 : Env) (h h1 : H) (β : Beta) (a : Act) (w : World) (Q : Exit→Act→World→Prop),chkC P n dchk c k=true→n≤a.tmps.size→base≤h.length→ws≤h.length →
     EnvRel (view wr β h w) β e a.tmps→Sim w0 wr β h w→evC call lp fpol base ws c e h=some (x,e1,h1)→(∀ a' w',Post w0 wr β h w a e1 h1 a' w'→Q (exOf x) a' w')→k.wp P Q a w:=by
 intro c
 induction c with
 | skip=>
  intro k x e e1 h h1 β a w Q hk hn hb hwl hE S hev hq
  cases k <;> simp [chkC] at hk
  simp [evC] at hev
  obtain ⟨rfl,rfl,rfl⟩:=hev
  exact wp_skip (hq a w ⟨⟨β,S,Ext.refl _ _ _ _,hE⟩,rfl,rfl⟩)
 | stuck=>
  intro k x e e1 h h1 β a w Q hk hn hb hwl hE S hev hq
  simp [evC] at hev
 | ops l=>
  intro k x e e1 h h1 β a w Q hk hn hb hwl hE S hev hq
  cases k <;> simp [chkC] at hk
  rename_i id ops d
  obtain ⟨⟨rfl,h2⟩,h3⟩:=hk
  simp only [evC] at hev
  cases hs : evS call fpol base ws l e h with
  | none=>rw [hs] at hev; simp [done] at hev
  | some p=>
   obtain ⟨e2,h4⟩:=p
   rw [hs] at hev
   simp [done] at hev
   obtain ⟨rfl,rfl,rfl⟩:=hev
   obtain ⟨e3,h5,h6,_⟩:=on_L none l false [] e e2 h h4 h2 (fun _ _ h=>by cases h) (fun _ _ h=>by cases h) hs
   refine wp_region_list (flat_sound hcall hws hwb (flatL none l) ops.toList e e3 h h4 β a w h3 hn hb hwl hE S h5 fun a' w' hp=>hq a' w' ?_)
   obtain ⟨⟨β2,g1,g2,g3⟩,g4,g5⟩:=hp
   exact ⟨⟨β2,g1,g2,fun m v hv=>g3 m v (by rw [← h6 m]; exact hv)⟩,g4,g5⟩
 | dops ord far l=>
  intro k x e e1 h h1 β a w Q hk hn hb hwl hE S hev hq
  cases k <;> simp [chkC] at hk
  rename_i id ops d
  obtain ⟨rfl,h3⟩:=hk
  simp only [evC] at hev
  cases hs : evS call fpol base ws l e h with
  | none=>rw [hs] at hev; simp [ifFar,done] at hev
  | some p=>
   obtain ⟨e2,h4⟩:=p
   rw [hs] at hev
   simp only [ifFar] at hev
   by_cases hf : farAll e2 h h4 far=true
   ·rw [if_pos hf] at hev
    simp [done] at hev
    obtain ⟨rfl,rfl,rfl⟩:=hev
    exact hdr ops ord far l h3 wr base ws id β h h4 w e e2 a Q hws hwb hb hwl hn hE S hs hf hq
   ·rw [if_neg hf] at hev; simp [done] at hev
 | seq c d ihc ihd=>
  intro k x e e1 h h1 β a w Q hk hn hb hwl hE S hev hq
  cases k <;> simp [chkC] at hk
  rename_i k1 k2
  simp only [evC] at hev
  cases h3 : evC call lp fpol base ws c e h with
  | none=>rw [h3] at hev; simp [andThen] at hev
  | some p=>
   obtain ⟨y,e2,h2⟩:=p
   rw [h3] at hev
   refine wp_seq (ihc k1 y e e2 h h2 β a w _ hk.1 hn hb hwl hE S h3 fun a' w' hp=>?_)
   cases y with
   | normal=>
    simp only [andThen] at hev
    obtain ⟨⟨β2,g1,g2,g3⟩,g4,g5⟩:=hp
    exact ihd k2 x e2 e1 h2 h1 β2 a' w' Q hk.2 (by rw [g5]; exact hn) (Nat.le_trans hb g2.len) (Nat.le_trans hwl g2.len) g3 g1 hev fun a'' w'' hp'=>hq a'' w'' (hp'.trans g2 g4 g5)
   | exit id=>
    simp [andThen] at hev
    obtain ⟨rfl,rfl,rfl⟩:=hev
    exact hq a' w' hp
   | ret=>
    simp [andThen] at hev
    obtain ⟨rfl,rfl,rfl⟩:=hev
    exact hq a' w' hp
 | cond v c d ihc ihd=>
  intro k x e e1 h h1 β a w Q hk hn hb hwl hE S hev hq
  cases k <;> simp [chkC] at hk
  rename_i o k1 k2
  simp only [evC,ifB] at hev
  split at hev
  ·rename_i t hv
   have hr:=sameO_rel hE hk.1.1 hv
   unfold Rel at hr
   cases t with
   | true=>exact wp_cond_true hr (ihc k1 x e e1 h h1 β a w Q hk.1.2 hn hb hwl hE S (by simpa using hev) hq)
   | false=>exact wp_cond_false hr (ihd k2 x e e1 h h1 β a w Q hk.2 hn hb hwl hE S (by simpa using hev) hq)
  ·cases hev
 | block id c ihc=>
  intro k x e e1 h h1 β a w Q hk hn hb hwl hE S hev hq
  cases k <;> simp [chkC] at hk
  rename_i j k1
  obtain ⟨rfl,hk⟩:=hk
  simp only [evC] at hev
  cases h3 : evC call lp fpol base ws c e h with
  | none=>rw [h3] at hev; simp [inBlock] at hev
  | some p=>
   obtain ⟨y,e2,h2⟩:=p
   rw [h3] at hev
   refine wp_block (ihc k1 y e e2 h h2 β a w _ hk hn hb hwl hE S h3 fun a' w' hp=>?_)
   cases y with
   | normal=>simp [inBlock] at hev; obtain ⟨rfl,rfl,rfl⟩:=hev; exact hq a' w' hp
   | ret=>simp [inBlock] at hev; obtain ⟨rfl,rfl,rfl⟩:=hev; exact hq a' w' hp
   | exit j=>
    simp only [inBlock] at hev
    simp only [exOf,Exit.inBlock]
    split at hev
    ·rename_i hj
     rw [if_pos hj]
     simp at hev; obtain ⟨rfl,rfl,rfl⟩:=hev
     exact hq a' w' hp
    ·rename_i hj
     rw [if_neg hj]
     simp at hev; obtain ⟨rfl,rfl,rfl⟩:=hev
     exact hq a' w' hp
 | loop keep c ihc=>
  intro k x e e1 h h1 β a w Q hk hn hb hwl hE S hev hq
  cases k <;> simp [chkC] at hk
  rename_i k1
  simp only [evC] at hev
  obtain ⟨m,hm⟩:=hlp _ _ _ _ _ hev
  have go : ∀ (m : Nat) (e : Env) (h : H) (β : Beta) (a : Act) (w : World),n≤a.tmps.size→base≤h.length→ws≤h.length→EnvRel (view wr β h w) β e a.tmps→Sim w0 wr β h w →
      rounds m (evC call lp fpol base ws c) keep e h=some (x,e1,h1)→(∀ a' w',Post w0 wr β h w a e1 h1 a' w'→Q (exOf x) a' w')→Code.rounds P k1 Q m a w:=by
   intro m
   induction m with
   | zero=>intro e h β a w _ _ _ _ _ hev _; simp [rounds] at hev
   | succ m ih=>
    intro e h β a w hn hb hwl hE S hev hq
    simp only [rounds] at hev
    rw [rounds_succ]
    cases h3 : evC call lp fpol base ws c (e.keep keep) h with
    | none=>rw [h3] at hev; simp [andThen] at hev
    | some p=>
     obtain ⟨y,e2,h2⟩:=p
     rw [h3] at hev
     refine ihc k1 y (e.keep keep) e2 h h2 β a w _ hk hn hb hwl (hE.keep keep) S h3 fun a' w' hp=>?_
     cases y with
     | normal=>
      simp only [andThen] at hev
      obtain ⟨⟨β2,g1,g2,g3⟩,g4,g5⟩:=hp
      exact ih e2 h2 β2 a' w' (by rw [g5]; exact hn) (Nat.le_trans hb g2.len) (Nat.le_trans hwl g2.len) g3 g1 hev fun a'' w'' hp'=>hq a'' w'' (hp'.trans g2 g4 g5)
     | exit id=>simp [andThen] at hev; obtain ⟨rfl,rfl,rfl⟩:=hev; exact hq a' w' hp
     | ret=>simp [andThen] at hev; obtain ⟨rfl,rfl,rfl⟩:=hev; exact hq a' w' hp
  exact wp_loop_rounds m (go m e h β a w hn hb hwl hE S hm hq)
 | exit id=>
  intro k x e e1 h h1 β a w Q hk hn hb hwl hE S hev hq
  cases k <;> simp [chkC] at hk
  subst hk
  simp [evC] at hev
  obtain ⟨rfl,rfl,rfl⟩:=hev
  exact wp_exit (hq a w ⟨⟨β,S,Ext.refl _ _ _ _,hE⟩,rfl,rfl⟩)
 | ret=>
  intro k x e e1 h h1 β a w Q hk hn hb hwl hE S hev hq
  cases k <;> simp [chkC] at hk
  simp [evC] at hev
  obtain ⟨rfl,rfl,rfl⟩:=hev
  exact wp_ret (hq a w ⟨⟨β,S,Ext.refl _ _ _ _,hE⟩,rfl,rfl⟩)
 | forget keep c ihc=>
  intro k x e e1 h h1 β a w Q hk hn hb hwl hE S hev hq
  simp only [chkC] at hk
  simp only [evC] at hev
  cases h3 : evC call lp fpol base ws c e h with
  | none=>rw [h3] at hev; simp [keeping] at hev
  | some p=>
   obtain ⟨y,e2,h2⟩:=p
   rw [h3] at hev
   simp [keeping] at hev
   obtain ⟨rfl,rfl,rfl⟩:=hev
   refine ihc k y e e2 h h2 β a w Q hk hn hb hwl hE S h3 fun a' w' hp=>hq a' w' ?_
   obtain ⟨⟨β2,g1,g2,g3⟩,g4,g5⟩:=hp
   exact ⟨⟨β2,g1,g2,g3.keep keep⟩,g4,g5⟩
end
end Go.Avm
namespace Go.Avm
open Go.RowKit
section
variable {P : Program} {w0 : World} {wr : Nat} {β : Beta} {w : World} {h : H}
theorem norm_rel {V : View} : ∀ (x : AV) (v : Value),Rel V β x v→Rel V β (norm x) v:=by
 have one : ∀ (x : AV) (v : Value) (y : AV),Rel V β x v→(match x with | .esl=>.isl [] | v=>v)=y→Rel V β y v:=by
  intro x v y hr hy
  subst hy
  split
  ·unfold Rel at *
   obtain ⟨a,rfl⟩:=hr
   exact ⟨a,0,rfl,by simp,.inl rfl⟩
  ·exact hr
 intro x v hr
 unfold norm
 split
 ·unfold Rel at *
  obtain ⟨a,rfl⟩:=hr
  exact ⟨a,0,rfl,by simp,.inl rfl⟩
 ·rename_i l
  unfold Rel at hr ⊢
  obtain ⟨vs,rfl,hr⟩:=hr
  refine ⟨vs,rfl,?_⟩
  obtain ⟨h1,h2⟩:=RelL_iff.1 hr
  refine RelL_iff.2 ⟨by simpa using h1,fun j y hj=>?_⟩
  rw [List.getElem?_map] at hj
  cases hl : l[j]? with
  | none=>rw [hl] at hj; simp at hj
  | some z=>
   rw [hl] at hj
   simp only [Option.map_some,Option.some.injEq] at hj
   obtain ⟨u,h3,h4⟩:=h2 j z hl
   exact ⟨u,h3,one z u y h4 hj⟩
 ·exact hr
theorem normL_rel {V : View} {l : List AV} {vs : List Value} (hr : RelL V β l vs) : RelL V β (l.map norm) vs:=by
 obtain ⟨h1,h2⟩:=RelL_iff.1 hr
 refine RelL_iff.2 ⟨by simpa using h1,fun j y hj=>?_⟩
 rw [List.getElem?_map] at hj
 cases hl : l[j]? with
 | none=>rw [hl] at hj; simp at hj
 | some z=>
  rw [hl] at hj
  simp only [Option.map_some,Option.some.injEq] at hj
  obtain ⟨u,h3,h4⟩:=h2 j z hl
  exact ⟨u,h3,hj ▸ norm_rel z u h4⟩
theorem live_none {wr : Nat} (hl : h.length≤wr) (c : Nat) : ¬ Live wr β h c:=fun ⟨b,v,h1,h2,_⟩=>by
 have:=cur_lt h2; omega
theorem view_all {wr' : Nat} (hl : h.length≤wr') : (view wr β h w).Le (view wr' β h w):=view_le fun c hc=>absurd hc (live_none hl c)
theorem sim_all {wr' : Nat} (S : Sim w0 wr β h w) (hl : h.length≤wr') : Sim w0 wr' β h w:=
 ⟨S.below,S.dom,S.domv,S.inj,fun b v sz els c h1 h2=>by
  obtain ⟨h3,h4,h5⟩:=S.arr b v sz els c h1 h2
  exact ⟨h3,h4,h5.mono (fun _ _ h=>h) (view_all hl) (Beta.Le.refl _)⟩,fun b x v c h1 h2 h3=>(S.oth b x v c h1 h2 h3).mono rfl (view_all hl) (Beta.Le.refl _),S.tyd,S.old,S.oldd⟩
theorem M_all {wr' : Nat} (hl : h.length≤wr') {c o : Nat} {v : Value} (hr : rdw w c o=some v) : (view wr' β h w).M c o=some v:=view_M_mk hr (live_none hl c)
theorem bc_snap {V : View} {rd : Nat→Nat→Option Value} {f : AV→Option AV} (hf : ∀ x x' v,f x=some x'→Rel (view wr β h w) β x v→Rel V β x' v) (hM : ∀ c o v,rd c o=some v→V.M c o=some v) {c : Nat} : ∀ {l l' : List AV} {o : Nat},snapL f l=some l'→BC rd (view wr β h w) β c o l→RelC V β c o l'
 | [],l',o,e,_=>by simp [snapL] at e; subst e; unfold RelC; trivial
 | x :: l,l',o,e,hb=>by
  unfold snapL at e
  split at e
  ·rename_i x' r h1 h2
   injection e with e; subst e
   unfold RelC
   obtain ⟨v,h3,h4⟩:=hb 0 x rfl
   refine ⟨⟨v,hM _ _ _ (by simpa using h3),hf x x' v h1 h4⟩,bc_snap hf hM h2 fun j y hj=>?_⟩
   have:=hb (j + 1) y (by simpa using hj)
   rwa [Nat.add_assoc,Nat.add_comm 1 j]
  ·cases e
theorem relL_snap {V : View} {f : AV→Option AV} (hf : ∀ x x' v,f x=some x'→Rel (view wr β h w) β x v→Rel V β x' v) : ∀ {l l' : List AV} {vs : List Value},snapL f l=some l'→RelL (view wr β h w) β l vs→RelL V β l' vs
 | [],l',vs,e,hr=>by simp [snapL] at e; subst e; unfold RelL at *; exact hr
 | x :: l,l',vs,e,hr=>by
  unfold snapL at e
  split at e
  ·rename_i x' r h1 h2
   injection e with e; subst e
   unfold RelL at *
   obtain ⟨v,q,h3,h4,h5⟩:=hr
   exact ⟨v,q,h3,hf x x' v h1 h4,relL_snap hf h2 h5⟩
  ·cases e
theorem snapL_len {f : AV→Option AV} : ∀ {l l' : List AV},snapL f l=some l'→l'.length=l.length
 | [],l',e=>by simp [snapL] at e; subst e; rfl
 | x :: l,l',e=>by
  unfold snapL at e
  split at e
  ·rename_i h2
   injection e with e; subst e
   simp [snapL_len h2]
  ·cases e
theorem snap_shape {n : Nat} {x x' : AV} (e : snap h n x=some x') : Shape x x':=by
 cases n with
 | zero=>
  unfold snap at e
  split at e
  ·injection e with e; subst e; exact Shape.refl _
  ·cases e
 | succ n=>
  unfold snap at e
  split at e
  ·injection e with e; subst e; exact Shape.refl _
  ·split at e
   ·cases hs : snapL (snap h n) ‹_› with
    | none=>rw [hs] at e; simp at e
    | some l'=>rw [hs] at e; simp at e; subst e; exact .inl ⟨_,_,rfl,rfl,(snapL_len hs).symm⟩
   ·cases hs : snapL (snap h n) ‹_› with
    | none=>rw [hs] at e; simp at e
    | some l'=>rw [hs] at e; simp at e; subst e; exact .inr ⟨fun _ h=>(by cases h),fun _ h=>(by cases h)⟩
   ·injection e with e; subst e; exact .inr ⟨fun _ h=>(by cases h),fun _ h=>(by cases h)⟩
   ·split at e
    ·cases hs : snapL (snap h n) ‹_› with
     | none=>rw [hs] at e; simp at e
     | some l'=>rw [hs] at e; simp at e; subst e; exact .inr ⟨fun _ h=>(by cases h),fun _ h=>(by cases h)⟩
    ·cases e
   ·split at e
    ·split at e
     ·split at e
      ·split at e
       ·cases hs : snapL (snap h n) _ with
        | none=>rw [hs] at e; simp at e
        | some l'=>rw [hs] at e; simp at e; subst e; exact .inr ⟨fun _ h=>(by cases h),fun _ h=>(by cases h)⟩
       ·cases e
      ·cases e
     ·cases e
    ·cases e
   ·cases hs : snapL (snap h n) ‹_› with
    | none=>rw [hs] at e; simp at e
    | some l'=>rw [hs] at e; simp at e; subst e; exact .inr ⟨fun _ h=>(by cases h),fun _ h=>(by cases h)⟩
   ·cases e
theorem be_snap {V : View} {rd : Nat→Nat→Option Value} {f : AV→Option AV} (hf : ∀ x x' v,f x=some x'→Rel (view wr β h w) β x v→Rel V β x' v) (hsh : ∀ x x',f x=some x'→Shape x x') (hM : ∀ c o v,rd c o=some v→V.M c o=some v) {c sz : Nat} : ∀ {l l' : List AV} {o : Nat},snapL f l=some l'→BE rd (view wr β h w) β c o sz l→RelE V β c o sz l'
 | [],l',o,e,_=>by simp [snapL] at e; subst e; unfold RelE; trivial
 | x :: l,l',o,e,hb=>by
  unfold snapL at e
  split at e
  ·rename_i x' r h1 h2
   injection e with e; subst e
   rw [RelE_cons]
   have hb0:=hb 0 x rfl
   simp only [Nat.zero_mul,Nat.add_zero] at hb0
   obtain ⟨y,hy,hback⟩:=elem_val hb0.2
   have hsx:=hsh x x' h1
   have hr:=hf x x' y h1 hy
   refine ⟨hsx.len.trans hb0.1,?_,be_snap hf hsh hM h2 fun i z hi=>?_⟩
   ·exact RelC_iff.2 ((hback _ _ x' hr hsx).mono (fun _ _ _ h=>hM _ _ _ h) (View.Le.refl _) (Beta.Le.refl _))
   ·have:=hb (i + 1) z (by simpa using hi)
    refine ⟨this.1,?_⟩
    have h5:=this.2
    rwa [Nat.succ_mul,Nat.add_comm (i * sz) sz,← Nat.add_assoc] at h5
  ·cases e
theorem snap_rel (S : Sim w0 wr β h w) : ∀ (n : Nat) (x x' : AV) (v : Value),snap h n x=some x'→Rel (view wr β h w) β x v→Rel (view h.length β h w) β x' v:=by
 have hV : (view wr β h w).Le (view h.length β h w):=view_all (Nat.le_refl _)
 have hM : ∀ c o v,rdw w c o=some v→(view h.length β h w).M c o=some v:=fun c o v hr=>M_all (Nat.le_refl _) hr
 have hM2 : ∀ c o v,(view wr β h w).M c o=some v→(view h.length β h w).M c o=some v:=hV.M
 intro n
 induction n with
 | zero=>
  intro x x' v e hr
  unfold snap at e
  split at e
  ·injection e with e; subst e; exact hr.to hV (Beta.Le.refl _)
  ·cases e
 | succ n ih=>
  intro x x' v e hr
  unfold snap at e
  split at e
  ·injection e with e; subst e; exact hr.to hV (Beta.Le.refl _)
  ·split at e
   ·rename_i l _
    cases hs : snapL (snap h n) l with
    | none=>rw [hs] at e; simp at e
    | some l'=>
     rw [hs] at e; simp at e; subst e
     unfold Rel at hr ⊢
     obtain ⟨vs,rfl,hr⟩:=hr
     exact ⟨vs,rfl,relL_snap ih hs hr⟩
   ·rename_i l _
    cases hs : snapL (snap h n) l with
    | none=>rw [hs] at e; simp at e
    | some l'=>
     rw [hs] at e; simp at e; subst e
     unfold Rel at hr ⊢
     obtain ⟨a,cap,h1,h2,h3⟩:=hr
     have hl:=snapL_len hs
     refine ⟨a,cap,by rw [hl]; exact h1,by rw [hl]; exact h2,?_⟩
     rcases h3 with rfl | ⟨c,o,sz,h3,h4⟩
     ·simp [snapL] at hs; exact .inl hs
     ·exact .inr ⟨c,o,sz,h3,be_snap ih (fun _ _=>snap_shape) hM2 hs (RelE_iff.1 h4)⟩
   ·injection e with e; subst e
    unfold Rel at hr ⊢
    obtain ⟨a,rfl⟩:=hr
    exact ⟨a,0,rfl,by simp,.inl rfl⟩
   ·rename_i b ver sz off len _
    split at e
    ·rename_i els hlook
     obtain ⟨els0,hb,hle,rfl⟩:=look_some hlook
     cases hs : snapL (snap h n) ((els0.drop off).take len) with
     | none=>rw [hs] at e; simp at e
     | some l'=>
      rw [hs] at e; simp at e; subst e
      have hl : l'.length=len:=by rw [snapL_len hs]; simp; omega
      unfold Rel at hr ⊢
      rcases hr with ⟨c,cap,h1,h2,h3,h4⟩ | ⟨h1,h2,_,q,h3⟩
      ·obtain ⟨_,_,hbe⟩:=S.arr b ver sz els0 c hb h1
       exact ⟨_,cap,by rw [hl]; exact h2,by rw [hl]; exact h3,.inr ⟨c,off * sz,sz,rfl,be_snap ih (fun _ _=>snap_shape) hM hs (hbe.part off len)⟩⟩
      ·subst h2
       exact ⟨q,0,by rw [hl]; exact h3,by rw [hl]; exact Nat.le_refl _,.inl (List.eq_nil_of_length_eq_zero hl)⟩
    ·cases e
   ·rename_i b ver sz i o _
    split at e
    ·rename_i v0 z els hb
     split at e
     ·rename_i hc
      obtain ⟨rfl,rfl⟩:=hc
      split at e
      ·rename_i el hel
       split at e
       ·rename_i ho
        cases hs : snapL (snap h n) (el.cells.drop o) with
        | none=>rw [hs] at e; simp at e
        | some l'=>
         rw [hs] at e; simp at e; subst e
         unfold Rel at hr ⊢
         obtain ⟨c,h1,rfl⟩:=hr
         obtain ⟨_,_,hbe⟩:=S.arr b v0 z els c hb h1
         have h2:=(hbe i el hel).2.drop o
         rw [Nat.zero_add] at h2
         exact ⟨c,_,rfl,bc_snap ih hM hs h2⟩
       ·cases e
      ·cases e
     ·cases e
    ·cases e
   ·rename_i f l _
    cases hs : snapL (snap h n) l with
    | none=>rw [hs] at e; simp at e
    | some l'=>
     rw [hs] at e; simp at e; subst e
     unfold Rel at hr ⊢
     obtain ⟨vs,rfl,hr⟩:=hr
     exact ⟨vs,rfl,relL_snap ih hs hr⟩
   ·cases e
theorem argEnv_get : ∀ (l : List AV) (k n : Nat) (x : AV),(argEnv k l).get n=some x→k≤n∧l[n - k]? = some x
 | [],k,n,x,h=>by simp [argEnv,Env.get] at h
 | v :: l,k,n,x,h=>by
  simp only [argEnv,Env.get] at h
  split at h
  ·rename_i hk
   subst hk
   injection h with h; subst h
   exact ⟨Nat.le_refl _,by simp⟩
  ·rename_i hk
   obtain ⟨h1,h2⟩:=argEnv_get l (k + 1) n x h
   refine ⟨by omega,?_⟩
   rw [show n - k=(n - (k + 1)) + 1 by omega]
   simpa using h2
theorem argEnv_rel {V : View} {l : List AV} {vs : Array Value} (hr : RelL V β l vs.toList) (rest : Array Value) : EnvRel V β (argEnv 0 l) (vs++rest):=fun n x hx=>by
 obtain ⟨_,h1⟩:=argEnv_get l 0 n x hx
 obtain ⟨h2,h3⟩:=RelL_iff.1 hr
 obtain ⟨u,h4,h5⟩:=h3 n x (by simpa using h1)
 refine ⟨u,?_,h5⟩
 have hn : n < vs.size:=by have:=(List.getElem?_eq_some_iff.1 h4).1; simpa using this
 rw [Array.getElem?_append_left hn]
 simpa using h4
def resIs (P : Program) : List R1→List ResultVar→Bool
 | [],rs=>rs.isEmpty
 | .t n :: l,rs=>(match rs with | .tmp m :: r=>n == m && resIs P l r | _=>false)
 | .cell n sz ag :: l,rs=>(match rs with | .cell m t :: r=>n == m && szIs P t sz && aggIs P t ag && resIs P l r | _=>false)
theorem resOf_run {e : Env} {tmps : Array Value} (hE : EnvRel (view wr β h w) β e tmps) (S : Sim w0 wr β h w) : ∀ {l : List R1} {rs : List ResultVar} {us : List AV},resIs P l rs=true→resOf e h l=some us →
    ∃ vs,(rs.mapM (m:=Sem) fun
     | .tmp t=>pure (tmps.getD t undef)
     | .cell a t=>do loadVar t (← asAddr (tmps.getD a undef))).run P w = .ok vs w∧RelL (view wr β h w) β us vs
 | [],rs,us,hi,e1=>by
  simp [resIs] at hi; subst hi
  simp [resOf] at e1; subst e1
  exact ⟨[],by simp,by unfold RelL; rfl⟩
 | .t n :: l,rs,us,hi,e1=>by
  simp only [resIs] at hi
  split at hi
  ·rename_i m r
   obtain ⟨h1,h2⟩:=and2 hi
   have h1 : n=m:=by simpa using h1
   subst h1
   unfold resOf at e1
   split at e1
   ·rename_i x us' hx hus
    injection e1 with e1; subst e1
    obtain ⟨vs,h3,h4⟩:=resOf_run hE S h2 hus
    obtain ⟨v,h5,h6⟩:=hE n x hx
    refine ⟨v :: vs,?_,by unfold RelL; exact ⟨v,vs,rfl,h6,h4⟩⟩
    rw [List.mapM_cons]
    simp only [Sem.run_bind,Sem.run_pure,Result.andThen_ok,h3]
    simp [Array.getD_eq_getD_getElem?,h5]
   ·cases e1
  ·cases hi
 | .cell n sz ag :: l,rs,us,hi,e1=>by
  simp only [resIs] at hi
  split at hi
  ·rename_i m t r
   obtain ⟨h1,h2⟩:=and2 hi
   obtain ⟨h1,ha⟩:=and2 h1
   obtain ⟨h1,hz⟩:=and2 h1
   have h1 : n=m:=by simpa using h1
   subst h1
   unfold resOf at e1
   split at e1
   ·rename_i p us' hx hus
    split at e1
    ·rename_i cs hcs
     split at e1
     ·rename_i x hl
      injection e1 with e1; subst e1
      obtain ⟨vs,h3,h4⟩:=resOf_run hE S h2 hus
      obtain ⟨v,h5,h6⟩:=hE n p hx
      obtain ⟨c,q,rfl,hb⟩:=cellsAt_rel S hcs h6
      obtain ⟨u,h7,h8⟩:=ldc_run (P:=P) ha hz hb hl
      refine ⟨u :: vs,?_,by unfold RelL; exact ⟨u,vs,rfl,h8,h4⟩⟩
      rw [List.mapM_cons]
      have ha' : (asAddr (tmps.getD n undef)).run P w = .ok ⟨c,q,none⟩ w:=by simp [Array.getD_eq_getD_getElem?,h5,asAddr]
      simp only [Sem.run_bind,ha',Result.andThen_ok,h7,h3,Sem.run_pure]
     ·cases e1
    ·cases e1
   ·cases e1
  ·cases hi
theorem results_run {e : Env} {tmps : Array Value} {fn : Func} (hE : EnvRel (view wr β h w) β e tmps) (S : Sim w0 wr β h w) {l : List R1} {us : List AV} (hi : resIs P l fn.results.toList=true) (e1 : resOf e h l=some us) :
    ∃ v,(results fn tmps).run P w = .ok v w∧Rel (view wr β h w) β (tupOf us) v:=by
 obtain ⟨vs,h1,h2⟩:=resOf_run (P:=P) hE S hi e1
 have hrun : (results fn tmps).run P w = .ok (if hs : vs.toArray.size=1 then vs.toArray[0] else .tuple vs.toArray) w:=by
  unfold results
  rw [Array.mapM_eq_mapM_toList]
  simp only [map_eq_pure_bind,Sem.run_bind,Sem.run_pure]
  erw [h1]
  rfl
 refine ⟨_,hrun,?_⟩
 have hlen:=(RelL_iff.1 h2).1
 unfold tupOf
 split
 ·rename_i x
  unfold RelL at h2
  obtain ⟨v,r,rfl,h3,h4⟩:=h2
  unfold RelL at h4
  subst h4
  simpa using h3
 ·rename_i hn
  rw [dif_neg]
  ·unfold Rel; exact ⟨vs.toArray,rfl,by simpa using h2⟩
  ·simp only [List.size_toArray,hlen]
   intro h1
   match us,h1,hn with
   | [x],_,hn=>exact hn x rfl
end
end Go.Avm
