/- Code with its branches and loops. -/
import Derived.Test.YtdgdhckjfllfmaaGreatDoorM17
set_option linter.all false
namespace Go.Avm
open Go.RowKit
def exOf : Ex→Exit
 | .normal=>.normal
 | .exit id=>.exit id
 | .ret=>.ret
def LoopOk (lp : LoopF) : Prop:=∀ f keep e h r,lp f keep e h=some r→∃ n,rounds n f keep e h=some r
abbrev DChk:=Array Oper→List Nat→List Dyn→List S1→Bool
def DrawOk (P : Program) (w0 : World) (call : CallF) (fpol : FuncId→Option Pol) (n : Nat) (dchk : DChk) : Prop:=
 ∀ (ops : Array Oper) (ord : List Nat) (far : List Dyn) (l : List S1),dchk ops ord far l=true →
  ∀ (wr base ws id : Nat) (β : Beta) (h h1 : H) (w : World) (e e1 : Env) (a : Act) (Q : Exit→Act→World→Prop),wr≤ws→wr≤base→base≤h.length→ws≤h.length→n≤a.tmps.size →
   EnvRel (view wr β h w) β e a.tmps→Sim w0 wr β h w→evS call fpol base ws l e h=some (e1,h1)→farAll e1 h1 far=true→(∀ a' w',Post w0 wr β h w a e1 h1 a' w'→Q .normal a' w') →
   (Code.region id ops true).wp P Q a w
def chkC (P : Program) (n : Nat) (dchk : DChk) : C→Code→Bool
 | .skip,c=>(match c with | .skip=>true | _=>false)
 | .stuck,_=>true
 | .ops l,c=>(match c with | .region _ ops d=>!d && okL false [] l && flatIs P n ops (flatL none l) ops.toList | _=>false)
 | .dops ord far l,c=>(match c with | .region _ ops d=>d && dchk ops ord far l | _=>false)
 | .seq x y,c=>(match c with | .seq a b=>chkC P n dchk x a && chkC P n dchk y b | _=>false)
 | .cond v x y,c=>(match c with | .cond o a b=>sameO o v && chkC P n dchk x a && chkC P n dchk y b | _=>false)
 | .block i x,c=>(match c with | .block j a=>i == j && chkC P n dchk x a | _=>false)
 | .loop _ x,c=>(match c with | .loop a=>chkC P n dchk x a | _=>false)
 | .exit i,c=>(match c with | .exit j=>i == j | _=>false)
 | .ret,c=>(match c with | .ret=>true | _=>false)
 | .forget _ x,c=>chkC P n dchk x c
section
variable {P : Program} {w0 : World} {wr base ws : Nat} {call : CallF} {lp : LoopF} {fpol : FuncId→Option Pol} {n : Nat} {dchk : DChk}
theorem Post.trans {β : Beta} {h h1 h2 : H} {w w1 w2 : World} {a a1 a2 : Act} {e2 : Env} {β1 : Beta} (E : Ext wr β h w β1 h1 w1) (hd : a1.defers=a.defers) (hs : a1.tmps.size=a.tmps.size) (p : Post w0 wr β1 h1 w1 a1 e2 h2 a2 w2) : Post w0 wr β h w a e2 h2 a2 w2:=by
 obtain ⟨⟨β2,h1,h2,h3⟩,h4,h5⟩:=p
 exact ⟨⟨β2,h1,E.trans h2,h3⟩,h4.trans hd,h5.trans hs⟩
theorem evC_sound (hcall : CallOk P w0 call) (hlp : LoopOk lp) (hdr : DrawOk P w0 call fpol n dchk) (hws : wr≤ws) (hwb : wr≤base) :
    ∀ (c : C) (k : Code) (x : Ex) (e e1 : Env) (h h1 : H) (β : Beta) (a : Act) (w : World) (Q : Exit→Act→World→Prop),chkC P n dchk c k=true→n≤a.tmps.size→base≤h.length→ws≤h.length →
     EnvRel (view wr β h w) β e a.tmps→Sim w0 wr β h w→evC call lp fpol base ws c e h=some (x,e1,h1)→(∀ a' w',Post w0 wr β h w a e1 h1 a' w'→Q (exOf x) a' w')→k.wp P Q a w:=by
 intro c
 induction c with
 | skip=>
  intro k x e e1 h h1 β a w Q hk hn hb hwl hE S hev hq
  cases k <;> simp [chkC] at hk
  simp [evC] at hev
  obtain ⟨rfl,rfl,rfl⟩:=hev
  exact wp_skip (hq a w ⟨⟨β,S,Ext.refl _ _ _ _,hE⟩,rfl,rfl⟩)
 | stuck=>
  intro k x e e1 h h1 β a w Q hk hn hb hwl hE S hev hq
  simp [evC] at hev
 | ops l=>
  intro k x e e1 h h1 β a w Q hk hn hb hwl hE S hev hq
  cases k <;> simp [chkC] at hk
  rename_i id ops d
  obtain ⟨⟨rfl,h2⟩,h3⟩:=hk
  simp only [evC] at hev
  cases hs : evS call fpol base ws l e h with
  | none=>rw [hs] at hev; simp [done] at hev
  | some p=>
   obtain ⟨e2,h4⟩:=p
   rw [hs] at hev
   simp [done] at hev
   obtain ⟨rfl,rfl,rfl⟩:=hev
   obtain ⟨e3,h5,h6,_⟩:=on_L none l false [] e e2 h h4 h2 (fun _ _ h=>by cases h) (fun _ _ h=>by cases h) hs
   refine wp_region_list (flat_sound hcall hws hwb (flatL none l) ops.toList e e3 h h4 β a w h3 hn hb hwl hE S h5 fun a' w' hp=>hq a' w' ?_)
   obtain ⟨⟨β2,g1,g2,g3⟩,g4,g5⟩:=hp
   exact ⟨⟨β2,g1,g2,fun m v hv=>g3 m v (by rw [← h6 m]; exact hv)⟩,g4,g5⟩
 | dops ord far l=>
  intro k x e e1 h h1 β a w Q hk hn hb hwl hE S hev hq
  cases k <;> simp [chkC] at hk
  rename_i id ops d
  obtain ⟨rfl,h3⟩:=hk
  simp only [evC] at hev
  cases hs : evS call fpol base ws l e h with
  | none=>rw [hs] at hev; simp [ifFar,done] at hev
  | some p=>
   obtain ⟨e2,h4⟩:=p
   rw [hs] at hev
   simp only [ifFar] at hev
   by_cases hf : farAll e2 h4 far=true
   ·rw [if_pos hf] at hev
    simp [done] at hev
    obtain ⟨rfl,rfl,rfl⟩:=hev
    exact hdr ops ord far l h3 wr base ws id β h h4 w e e2 a Q hws hwb hb hwl hn hE S hs hf hq
   ·rw [if_neg hf] at hev; simp [done] at hev
 | seq c d ihc ihd=>
  intro k x e e1 h h1 β a w Q hk hn hb hwl hE S hev hq
  cases k <;> simp [chkC] at hk
  rename_i k1 k2
  simp only [evC] at hev
  cases h3 : evC call lp fpol base ws c e h with
  | none=>rw [h3] at hev; simp [andThen] at hev
  | some p=>
   obtain ⟨y,e2,h2⟩:=p
   rw [h3] at hev
   refine wp_seq (ihc k1 y e e2 h h2 β a w _ hk.1 hn hb hwl hE S h3 fun a' w' hp=>?_)
   cases y with
   | normal=>
    simp only [andThen] at hev
    obtain ⟨⟨β2,g1,g2,g3⟩,g4,g5⟩:=hp
    exact ihd k2 x e2 e1 h2 h1 β2 a' w' Q hk.2 (by rw [g5]; exact hn) (Nat.le_trans hb g2.len) (Nat.le_trans hwl g2.len) g3 g1 hev fun a'' w'' hp'=>hq a'' w'' (hp'.trans g2 g4 g5)
   | exit id=>
    simp [andThen] at hev
    obtain ⟨rfl,rfl,rfl⟩:=hev
    exact hq a' w' hp
   | ret=>
    simp [andThen] at hev
    obtain ⟨rfl,rfl,rfl⟩:=hev
    exact hq a' w' hp
 | cond v c d ihc ihd=>
  intro k x e e1 h h1 β a w Q hk hn hb hwl hE S hev hq
  cases k <;> simp [chkC] at hk
  rename_i o k1 k2
  simp only [evC,ifB] at hev
  split at hev
  ·rename_i t hv
   have hr:=sameO_rel hE hk.1.1 hv
   unfold Rel at hr
   cases t with
   | true=>exact wp_cond_true hr (ihc k1 x e e1 h h1 β a w Q hk.1.2 hn hb hwl hE S (by simpa using hev) hq)
   | false=>exact wp_cond_false hr (ihd k2 x e e1 h h1 β a w Q hk.2 hn hb hwl hE S (by simpa using hev) hq)
  ·cases hev
 | block id c ihc=>
  intro k x e e1 h h1 β a w Q hk hn hb hwl hE S hev hq
  cases k <;> simp [chkC] at hk
  rename_i j k1
  obtain ⟨rfl,hk⟩:=hk
  simp only [evC] at hev
  cases h3 : evC call lp fpol base ws c e h with
  | none=>rw [h3] at hev; simp [inBlock] at hev
  | some p=>
   obtain ⟨y,e2,h2⟩:=p
   rw [h3] at hev
   refine wp_block (ihc k1 y e e2 h h2 β a w _ hk hn hb hwl hE S h3 fun a' w' hp=>?_)
   cases y with
   | normal=>simp [inBlock] at hev; obtain ⟨rfl,rfl,rfl⟩:=hev; exact hq a' w' hp
   | ret=>simp [inBlock] at hev; obtain ⟨rfl,rfl,rfl⟩:=hev; exact hq a' w' hp
   | exit j=>
    simp only [inBlock] at hev
    simp only [exOf,Exit.inBlock]
    split at hev
    ·rename_i hj
     rw [if_pos hj]
     simp at hev; obtain ⟨rfl,rfl,rfl⟩:=hev
     exact hq a' w' hp
    ·rename_i hj
     rw [if_neg hj]
     simp at hev; obtain ⟨rfl,rfl,rfl⟩:=hev
     exact hq a' w' hp
 | loop keep c ihc=>
  intro k x e e1 h h1 β a w Q hk hn hb hwl hE S hev hq
  cases k <;> simp [chkC] at hk
  rename_i k1
  simp only [evC] at hev
  obtain ⟨m,hm⟩:=hlp _ _ _ _ _ hev
  have go : ∀ (m : Nat) (e : Env) (h : H) (β : Beta) (a : Act) (w : World),n≤a.tmps.size→base≤h.length→ws≤h.length→EnvRel (view wr β h w) β e a.tmps→Sim w0 wr β h w →
      rounds m (evC call lp fpol base ws c) keep e h=some (x,e1,h1)→(∀ a' w',Post w0 wr β h w a e1 h1 a' w'→Q (exOf x) a' w')→Code.rounds P k1 Q m a w:=by
   intro m
   induction m with
   | zero=>intro e h β a w _ _ _ _ _ hev _; simp [rounds] at hev
   | succ m ih=>
    intro e h β a w hn hb hwl hE S hev hq
    simp only [rounds] at hev
    rw [rounds_succ]
    cases h3 : evC call lp fpol base ws c (e.keep keep) h with
    | none=>rw [h3] at hev; simp [andThen] at hev
    | some p=>
     obtain ⟨y,e2,h2⟩:=p
     rw [h3] at hev
     refine ihc k1 y (e.keep keep) e2 h h2 β a w _ hk hn hb hwl (hE.keep keep) S h3 fun a' w' hp=>?_
     cases y with
     | normal=>
      simp only [andThen] at hev
      obtain ⟨⟨β2,g1,g2,g3⟩,g4,g5⟩:=hp
      exact ih e2 h2 β2 a' w' (by rw [g5]; exact hn) (Nat.le_trans hb g2.len) (Nat.le_trans hwl g2.len) g3 g1 hev fun a'' w'' hp'=>hq a'' w'' (hp'.trans g2 g4 g5)
     | exit id=>simp [andThen] at hev; obtain ⟨rfl,rfl,rfl⟩:=hev; exact hq a' w' hp
     | ret=>simp [andThen] at hev; obtain ⟨rfl,rfl,rfl⟩:=hev; exact hq a' w' hp
  exact wp_loop_rounds m (go m e h β a w hn hb hwl hE S hm hq)
 | exit id=>
  intro k x e e1 h h1 β a w Q hk hn hb hwl hE S hev hq
  cases k <;> simp [chkC] at hk
  subst hk
  simp [evC] at hev
  obtain ⟨rfl,rfl,rfl⟩:=hev
  exact wp_exit (hq a w ⟨⟨β,S,Ext.refl _ _ _ _,hE⟩,rfl,rfl⟩)
 | ret=>
  intro k x e e1 h h1 β a w Q hk hn hb hwl hE S hev hq
  cases k <;> simp [chkC] at hk
  simp [evC] at hev
  obtain ⟨rfl,rfl,rfl⟩:=hev
  exact wp_ret (hq a w ⟨⟨β,S,Ext.refl _ _ _ _,hE⟩,rfl,rfl⟩)
 | forget keep c ihc=>
  intro k x e e1 h h1 β a w Q hk hn hb hwl hE S hev hq
  simp only [chkC] at hk
  simp only [evC] at hev
  cases h3 : evC call lp fpol base ws c e h with
  | none=>rw [h3] at hev; simp [keeping] at hev
  | some p=>
   obtain ⟨y,e2,h2⟩:=p
   rw [h3] at hev
   simp [keeping] at hev
   obtain ⟨rfl,rfl,rfl⟩:=hev
   refine ihc k y e e2 h h2 β a w Q hk hn hb hwl hE S h3 fun a' w' hp=>hq a' w' ?_
   obtain ⟨⟨β2,g1,g2,g3⟩,g4,g5⟩:=hp
   exact ⟨⟨β2,g1,g2,g3.keep keep⟩,g4,g5⟩
end
end Go.Avm
