/- What is reckoned with some number of steps is what is reckoned without. -/
import Derived.Test.YtflbneepngjglaaGreatDoorR23
set_option linter.all false
namespace Go.Avm
open Classical
def Evt {α : Type} (s : Nat→Option α) (r : α) : Prop:=∃ N,∀ n,N≤n→s n=some r
theorem Evt.uniq {α : Type} {s : Nat→Option α} {r r' : α} (a : Evt s r) (b : Evt s r') : r=r':=by
 obtain ⟨N,h1⟩:=a
 obtain ⟨M,h2⟩:=b
 have h3:=h1 (max N M) (Nat.le_max_left _ _)
 have h4:=h2 (max N M) (Nat.le_max_right _ _)
 rw [h3] at h4
 injection h4
noncomputable def lim {α : Type} (s : Nat→Option α) : Option α:=if h : ∃ r,Evt s r then some h.choose else none
theorem lim_some {α : Type} {s : Nat→Option α} {r : α} : lim s=some r ↔ Evt s r:=by
 unfold lim
 constructor
 ·intro h
  split at h
  ·rename_i hx
   injection h with h
   subst h
   exact hx.choose_spec
  ·cases h
 ·intro h
  have hx : ∃ r,Evt s r:=⟨r,h⟩
  rw [dif_pos hx]
  rw [Evt.uniq hx.choose_spec h]
noncomputable def callL (cfg : Cfg) : CallF:=fun ws f args h=>lim fun n=>callN cfg n ws f args h
noncomputable def roundsL : LoopF:=fun f keep e h=>lim fun n=>rounds n f keep e h
theorem rounds_mono {f : Env→H→Out} {keep : List Nat} : ∀ {n : Nat} {e : Env} {h : H} {r : Ex × Env × H},rounds n f keep e h=some r→rounds (n + 1) f keep e h=some r
 | 0,e,h,r,ev=>by simp [rounds] at ev
 | n + 1,e,h,r,ev=>by
  rw [rounds] at ev ⊢
  cases h3 : f (e.keep keep) h with
  | none=>rw [h3] at ev; simp [andThen] at ev
  | some p=>
   obtain ⟨y,e2,h2⟩:=p
   rw [h3] at ev
   cases y with
   | normal=>exact rounds_mono (n:=n) ev
   | exit id=>exact ev
   | ret=>exact ev
theorem rounds_evt {f : Env→H→Out} {keep : List Nat} {n : Nat} {e : Env} {h : H} {r : Ex × Env × H} (ev : rounds n f keep e h=some r) : Evt (fun n=>rounds n f keep e h) r:=by
 refine ⟨n,fun m hm=>?_⟩
 induction m with
 | zero=>have : n=0:=by omega
         subst this; exact ev
 | succ m ih=>
  rcases Nat.lt_or_ge n (m + 1) with h1 | h1
  ·exact rounds_mono (ih (by omega))
  ·have : n=m + 1:=by omega
   subst this; exact ev
theorem roundsL_some {f : Env→H→Out} {keep : List Nat} {e : Env} {h : H} {r : Ex × Env × H} : roundsL f keep e h=some r ↔ ∃ n,rounds n f keep e h=some r:=by
 unfold roundsL
 rw [lim_some]
 constructor
 ·rintro ⟨N,h1⟩; exact ⟨N,h1 N (Nat.le_refl _)⟩
 ·rintro ⟨n,h1⟩; exact rounds_evt h1
theorem roundsL_step {f : Env→H→Out} {keep : List Nat} {e : Env} {h : H} {r : Ex × Env × H} (ev : andThen (f (e.keep keep) h) (fun e' h'=>roundsL f keep e' h')=some r) : roundsL f keep e h=some r:=by
 rw [roundsL_some]
 cases h3 : f (e.keep keep) h with
 | none=>rw [h3] at ev; simp [andThen] at ev
 | some p=>
  obtain ⟨y,e2,h2⟩:=p
  rw [h3] at ev
  cases y with
  | normal=>
   obtain ⟨n,hn⟩:=roundsL_some.1 ev
   exact ⟨n + 1,by rw [rounds,h3]; exact hn⟩
  | exit id=>exact ⟨1,by rw [rounds,h3]; exact ev⟩
  | ret=>exact ⟨1,by rw [rounds,h3]; exact ev⟩
section
variable {cs : Nat→CallF} {call : CallF} {fpol : FuncId→Option Pol} {base ws : Nat}
def Comes (cs : Nat→CallF) (call : CallF) : Prop:=∀ ws f args h r,call ws f args h=some r→Evt (fun n=>cs n ws f args h) r
theorem doOp_evt (hc : Comes cs call) {e : Env} {h : H} {i : I} {r : AV × H} (ev : doOp call fpol base ws e h i=some r) : Evt (fun n=>doOp (cs n) fpol base ws e h i) r:=by
 by_cases h1 : ∃ f args,i = .call f args
 ·obtain ⟨f,args,rfl⟩:=h1
  simp only [doOp] at ev ⊢
  split at ev
  ·exact hc _ _ _ _ _ ev
  ·cases ev
 ·by_cases h2 : ∃ pu f args,i = .callv pu f args
  ·obtain ⟨pu,f,args,rfl⟩:=h2
   simp only [doOp] at ev ⊢
   split at ev
   ·split at ev
    ·rename_i hp
     simp only [hp,if_true]
     split at ev
     ·exact hc _ _ _ _ _ ev
     ·exact hc _ _ _ _ _ ev
     ·cases ev
    ·rename_i hp
     simp only [hp]
     exact hc _ _ _ _ _ ev
   ·cases ev
  ·refine ⟨0,fun n _=>?_⟩
   cases i <;> first | exact ev | exact absurd ⟨_,_,rfl⟩ h1 | exact absurd ⟨_,_,_,rfl⟩ h2
mutual
theorem evS1_evt (hc : Comes cs call) : ∀ (x : S1) (e : Env) (h : H) (r : Env × H),evS1 call fpol base ws x e h=some r→Evt (fun n=>evS1 (cs n) fpol base ws x e h) r
 | .op d i,e,h,r,ev=>by
  unfold evS1 at ev
  cases hx : doOp call fpol base ws e h i with
  | none=>rw [hx] at ev; simp [andV] at ev
  | some p=>
   rw [hx] at ev
   obtain ⟨N,hN⟩:=doOp_evt hc hx
   exact ⟨N,fun n hn=>by
    have:=hN n hn
    dsimp only at this ⊢
    unfold evS1
    rw [this]; exact ev⟩
 | .sc s want body d rr o,e,h,r,ev=>by
  unfold evS1 at ev
  split at ev
  ·rename_i b hb
   split at ev
   ·rename_i hw
    cases hbody : evS call fpol base ws body e h with
    | none=>rw [hbody] at ev; simp [valIn,andV] at ev
    | some p=>
     rw [hbody] at ev
     obtain ⟨N,hN⟩:=evS_evt hc body e h p hbody
     exact ⟨N,fun n hn=>by
      have:=hN n hn
      dsimp only at this ⊢
      unfold evS1
      rw [hb]
      dsimp only
      rw [if_pos hw,this]; exact ev⟩
   ·rename_i hw
    exact ⟨0,fun n _=>by
     dsimp only
     unfold evS1
     rw [hb]
     dsimp only
     rw [if_neg hw]; exact ev⟩
  ·cases ev
theorem evS_evt (hc : Comes cs call) : ∀ (l : List S1) (e : Env) (h : H) (r : Env × H),evS call fpol base ws l e h=some r→Evt (fun n=>evS (cs n) fpol base ws l e h) r
 | [],e,h,r,ev=>⟨0,fun n _=>by dsimp only; unfold evS at ev ⊢; exact ev⟩
 | x :: l,e,h,r,ev=>by
  unfold evS at ev
  cases hx : evS1 call fpol base ws x e h with
  | none=>rw [hx] at ev; cases ev
  | some p=>
   rw [hx] at ev
   obtain ⟨N,hN⟩:=evS1_evt hc x e h p hx
   obtain ⟨M,hM⟩:=evS_evt hc l p.1 p.2 r ev
   exact ⟨max N M,fun n hn=>by
    have h1:=hN n (Nat.le_trans (Nat.le_max_left _ _) hn)
    have h2:=hM n (Nat.le_trans (Nat.le_max_right _ _) hn)
    dsimp only at h1 h2 ⊢
    unfold evS
    rw [h1]; exact h2⟩
end
theorem rounds_comes {f : Env→H→Out} {fs : Nat→Env→H→Out} (hf : ∀ e h r,f e h=some r→Evt (fun n=>fs n e h) r) {keep : List Nat} : ∀ {k : Nat} {e : Env} {h : H} {r : Ex × Env × H},rounds k f keep e h=some r→∃ N,∀ n,N≤n→∀ q,k≤q→rounds q (fs n) keep e h=some r
 | 0,e,h,r,ev=>by simp [rounds] at ev
 | k + 1,e,h,r,ev=>by
  rw [rounds] at ev
  cases h3 : f (e.keep keep) h with
  | none=>rw [h3] at ev; simp [andThen] at ev
  | some p=>
   obtain ⟨y,e2,h2⟩:=p
   rw [h3] at ev
   obtain ⟨N,hN⟩:=hf _ _ _ h3
   cases y with
   | normal=>
    obtain ⟨M,hM⟩:=rounds_comes hf (k:=k) (e:=e2) (h:=h2) (r:=r) ev
    refine ⟨max N M,fun n hn q hq=>?_⟩
    have h1:=hN n (Nat.le_trans (Nat.le_max_left _ _) hn)
    dsimp only at h1
    cases q with
    | zero=>omega
    | succ q=>
     rw [rounds,h1]
     exact hM n (Nat.le_trans (Nat.le_max_right _ _) hn) q (by omega)
   | exit id=>
    refine ⟨N,fun n hn q hq=>?_⟩
    have h1:=hN n hn
    dsimp only at h1
    cases q with
    | zero=>omega
    | succ q=>rw [rounds,h1]; exact ev
   | ret=>
    refine ⟨N,fun n hn q hq=>?_⟩
    have h1:=hN n hn
    dsimp only at h1
    cases q with
    | zero=>omega
    | succ q=>rw [rounds,h1]; exact ev
theorem evC_evt (hc : Comes cs call) : ∀ (c : C) (e : Env) (h : H) (r : Ex × Env × H),evC call roundsL fpol base ws c e h=some r→Evt (fun n=>evC (cs n) (rounds n) fpol base ws c e h) r:=by
 intro c
 induction c with
 | skip=>intro e h r ev; exact ⟨0,fun n _=>by simpa [evC] using ev⟩
 | stuck=>intro e h r ev; simp [evC] at ev
 | ops l=>
  intro e h r ev
  simp only [evC] at ev ⊢
  cases hs : evS call fpol base ws l e h with
  | none=>rw [hs] at ev; simp [done] at ev
  | some p=>
   rw [hs] at ev
   obtain ⟨N,hN⟩:=evS_evt hc l e h p hs
   exact ⟨N,fun n hn=>by have h1:=hN n hn; dsimp only at h1 ⊢; rw [h1]; exact ev⟩
 | dops ord far l=>
  intro e h r ev
  simp only [evC] at ev ⊢
  cases hs : evS call fpol base ws l e h with
  | none=>rw [hs] at ev; simp [ifFar,done] at ev
  | some p=>
   rw [hs] at ev
   obtain ⟨N,hN⟩:=evS_evt hc l e h p hs
   exact ⟨N,fun n hn=>by have h1:=hN n hn; dsimp only at h1 ⊢; rw [h1]; exact ev⟩
 | seq c d ihc ihd=>
  intro e h r ev
  simp only [evC] at ev ⊢
  cases h3 : evC call roundsL fpol base ws c e h with
  | none=>rw [h3] at ev; simp [andThen] at ev
  | some p=>
   obtain ⟨y,e2,h2⟩:=p
   rw [h3] at ev
   obtain ⟨N,hN⟩:=ihc e h _ h3
   cases y with
   | normal=>
    obtain ⟨M,hM⟩:=ihd e2 h2 r ev
    exact ⟨max N M,fun n hn=>by
     have h4:=hN n (Nat.le_trans (Nat.le_max_left _ _) hn)
     have h5:=hM n (Nat.le_trans (Nat.le_max_right _ _) hn)
     dsimp only at h4 h5 ⊢
     rw [h4]; exact h5⟩
   | exit id=>exact ⟨N,fun n hn=>by have h4:=hN n hn; dsimp only at h4 ⊢; rw [h4]; exact ev⟩
   | ret=>exact ⟨N,fun n hn=>by have h4:=hN n hn; dsimp only at h4 ⊢; rw [h4]; exact ev⟩
 | cond v c d ihc ihd=>
  intro e h r ev
  simp only [evC,ifB] at ev ⊢
  split at ev
  ·rename_i t hv
   cases t with
   | true=>
    obtain ⟨N,hN⟩:=ihc e h r (by simpa using ev)
    exact ⟨N,fun n hn=>by have h4:=hN n hn; dsimp only at h4 ⊢; simpa using h4⟩
   | false=>
    obtain ⟨N,hN⟩:=ihd e h r (by simpa using ev)
    exact ⟨N,fun n hn=>by have h4:=hN n hn; dsimp only at h4 ⊢; simpa using h4⟩
  ·cases ev
 | block id c ihc=>
  intro e h r ev
  simp only [evC] at ev ⊢
  cases h3 : evC call roundsL fpol base ws c e h with
  | none=>rw [h3] at ev; simp [inBlock] at ev
  | some p=>
   rw [h3] at ev
   obtain ⟨N,hN⟩:=ihc e h p h3
   exact ⟨N,fun n hn=>by have h4:=hN n hn; dsimp only at h4 ⊢; rw [h4]; exact ev⟩
 | loop keep c ihc=>
  intro e h r ev
  simp only [evC] at ev ⊢
  obtain ⟨k,hk⟩:=roundsL_some.1 ev
  obtain ⟨N,hN⟩:=rounds_comes (fs:=fun n=>evC (cs n) (rounds n) fpol base ws c) ihc hk
  exact ⟨max N k,fun n hn=>hN n (Nat.le_trans (Nat.le_max_left _ _) hn) n (Nat.le_trans (Nat.le_max_right _ _) hn)⟩
 | exit id=>intro e h r ev; exact ⟨0,fun n _=>by simpa [evC] using ev⟩
 | ret=>intro e h r ev; exact ⟨0,fun n _=>by simpa [evC] using ev⟩
 | forget keep c ihc=>
  intro e h r ev
  simp only [evC] at ev ⊢
  cases h3 : evC call roundsL fpol base ws c e h with
  | none=>rw [h3] at ev; simp [keeping] at ev
  | some p=>
   rw [h3] at ev
   obtain ⟨N,hN⟩:=ihc e h p h3
   exact ⟨N,fun n hn=>by have h4:=hN n hn; dsimp only at h4 ⊢; rw [h4]; exact ev⟩
theorem evF_evt (hc : Comes cs call) {f : F} {args : List AV} {h : H} {r : AV × H} (ev : evF call roundsL fpol ws f args h=some r) : Evt (fun n=>evF (cs n) (rounds n) fpol ws f args h) r:=by
 unfold evF at ev ⊢
 cases hargs : enterArgs f.pol h args with
 | none=>rw [hargs] at ev; cases ev
 | some ags=>
  rw [hargs] at ev
  dsimp only at ev ⊢
  cases h3 : evC call roundsL fpol h.length (wsOf f.pol ws h.length) f.code (argEnv 0 ags) h with
  | none=>rw [h3] at ev; simp [finish] at ev
  | some p=>
   rw [h3] at ev
   obtain ⟨N,hN⟩:=evC_evt hc f.code _ h p h3
   exact ⟨N,fun n hn=>by have h4:=hN n hn; dsimp only at h4 ⊢; rw [h4]; exact ev⟩
end
theorem callL_fn {cfg : Cfg} {f : FuncId} {F : F} (hx : cfg.ext f=none) (hf : cfg.fn f=some F) {ws : Nat} {args : List AV} {h : H} {r : AV × H} (ev : evF (callL cfg) roundsL cfg.pol ws F args h=some r) : callL cfg ws f args h=some r:=by
 obtain ⟨N,hN⟩:=evF_evt (cs:=callN cfg) (fun ws f args h r e=>lim_some.1 e) ev
 refine lim_some.2 ⟨N + 1,fun n hn=>?_⟩
 cases n with
 | zero=>omega
 | succ n=>
  show callN cfg (n + 1) ws f args h=some r
  simp only [callN,hx,hf]
  exact hN n (by omega)
theorem callL_ext {cfg : Cfg} {f : FuncId} {x : List AV→H→Option (AV × H)} (hx : cfg.ext f=some x) {ws : Nat} {args : List AV} {h : H} {r : AV × H} (ev : x args h=some r) : callL cfg ws f args h=some r:=by
 refine lim_some.2 ⟨1,fun n hn=>?_⟩
 cases n with
 | zero=>omega
 | succ n=>
  show callN cfg (n + 1) ws f args h=some r
  simp only [callN,hx]
  exact ev
theorem callL_ok {P : Program} {w0 : World} {dchk : Nat→DChk} {cfg : Cfg} (C : CfgOk P w0 dchk cfg) : CallOk P w0 (callL cfg):=by
 intro ws f args h r h' wr β w vs ev hws hwl S hr
 obtain ⟨N,hN⟩:=lim_some.1 ev
 exact (callN_ok C N).1 ws f args h r h' wr β w vs (hN N (Nat.le_refl _)) hws hwl S hr
end Go.Avm
namespace Go.Avm
section
variable {call call' : CallF} {lp lp' : LoopF} {fpol : FuncId→Option Pol} {base ws : Nat}
def CallLe (call call' : CallF) : Prop:=∀ ws f args h r,call ws f args h=some r→call' ws f args h=some r
def FLe (f f' : Env→H→Out) : Prop:=∀ e h r,f e h=some r→f' e h=some r
def LpLe (lp lp' : LoopF) : Prop:=∀ f f' keep e h r,FLe f f'→lp f keep e h=some r→lp' f' keep e h=some r
theorem doOp_le (hc : CallLe call call') {e : Env} {h : H} {i : I} {r : AV × H} (ev : doOp call fpol base ws e h i=some r) : doOp call' fpol base ws e h i=some r:=by
 by_cases h1 : ∃ f args,i = .call f args
 ·obtain ⟨f,args,rfl⟩:=h1
  simp only [doOp] at ev ⊢
  split at ev
  ·exact hc _ _ _ _ _ ev
  ·cases ev
 ·by_cases h2 : ∃ pu f args,i = .callv pu f args
  ·obtain ⟨pu,f,args,rfl⟩:=h2
   simp only [doOp] at ev ⊢
   split at ev
   ·split at ev
    ·rename_i hp
     simp only [hp,if_true]
     split at ev
     ·exact hc _ _ _ _ _ ev
     ·exact hc _ _ _ _ _ ev
     ·cases ev
    ·rename_i hp
     simp only [hp]
     exact hc _ _ _ _ _ ev
   ·cases ev
  ·cases i <;> first | exact ev | exact absurd ⟨_,_,rfl⟩ h1 | exact absurd ⟨_,_,_,rfl⟩ h2
mutual
theorem evS1_le (hc : CallLe call call') : ∀ (x : S1) (e : Env) (h : H) (r : Env × H),evS1 call fpol base ws x e h=some r→evS1 call' fpol base ws x e h=some r
 | .op d i,e,h,r,ev=>by
  unfold evS1 at ev ⊢
  cases hx : doOp call fpol base ws e h i with
  | none=>rw [hx] at ev; simp [andV] at ev
  | some p=>rw [hx] at ev; rw [doOp_le hc hx]; exact ev
 | .sc s want body d rr o,e,h,r,ev=>by
  unfold evS1 at ev ⊢
  split at ev
  ·rename_i b hb
   split at ev
   ·rename_i hw
    rw [if_pos hw]
    cases hbody : evS call fpol base ws body e h with
    | none=>rw [hbody] at ev; simp [valIn,andV] at ev
    | some p=>rw [hbody] at ev; rw [evS_le hc body e h p hbody]; exact ev
   ·rename_i hw
    rw [if_neg hw]; exact ev
  ·cases ev
theorem evS_le (hc : CallLe call call') : ∀ (l : List S1) (e : Env) (h : H) (r : Env × H),evS call fpol base ws l e h=some r→evS call' fpol base ws l e h=some r
 | [],e,h,r,ev=>by unfold evS at ev ⊢; exact ev
 | x :: l,e,h,r,ev=>by
  unfold evS at ev ⊢
  cases hx : evS1 call fpol base ws x e h with
  | none=>rw [hx] at ev; cases ev
  | some p=>
   rw [hx] at ev
   rw [evS1_le hc x e h p hx]
   exact evS_le hc l p.1 p.2 r ev
end
theorem evC_le (hc : CallLe call call') (hl : LpLe lp lp') : ∀ (c : C),FLe (evC call lp fpol base ws c) (evC call' lp' fpol base ws c):=by
 intro c
 induction c with
 | skip=>intro e h r ev; exact ev
 | stuck=>intro e h r ev; simp [evC] at ev
 | ops l=>
  intro e h r ev
  simp only [evC] at ev ⊢
  cases hs : evS call fpol base ws l e h with
  | none=>rw [hs] at ev; simp [done] at ev
  | some p=>rw [hs] at ev; rw [evS_le hc l e h p hs]; exact ev
 | dops ord far l=>
  intro e h r ev
  simp only [evC] at ev ⊢
  cases hs : evS call fpol base ws l e h with
  | none=>rw [hs] at ev; simp [ifFar,done] at ev
  | some p=>rw [hs] at ev; rw [evS_le hc l e h p hs]; exact ev
 | seq c d ihc ihd=>
  intro e h r ev
  simp only [evC] at ev ⊢
  cases h3 : evC call lp fpol base ws c e h with
  | none=>rw [h3] at ev; simp [andThen] at ev
  | some p=>
   obtain ⟨y,e2,h2⟩:=p
   rw [h3] at ev
   rw [ihc e h _ h3]
   cases y with
   | normal=>exact ihd e2 h2 r ev
   | exit id=>exact ev
   | ret=>exact ev
 | cond v c d ihc ihd=>
  intro e h r ev
  simp only [evC,ifB] at ev ⊢
  split at ev
  ·rename_i t hv
   cases t with
   | true=>simpa using ihc e h r (by simpa using ev)
   | false=>simpa using ihd e h r (by simpa using ev)
  ·cases ev
 | block id c ihc=>
  intro e h r ev
  simp only [evC] at ev ⊢
  cases h3 : evC call lp fpol base ws c e h with
  | none=>rw [h3] at ev; simp [inBlock] at ev
  | some p=>rw [h3] at ev; rw [ihc e h p h3]; exact ev
 | loop keep c ihc=>
  intro e h r ev
  simp only [evC] at ev ⊢
  exact hl _ _ _ _ _ _ ihc ev
 | exit id=>intro e h r ev; exact ev
 | ret=>intro e h r ev; exact ev
 | forget keep c ihc=>
  intro e h r ev
  simp only [evC] at ev ⊢
  cases h3 : evC call lp fpol base ws c e h with
  | none=>rw [h3] at ev; simp [keeping] at ev
  | some p=>rw [h3] at ev; rw [ihc e h p h3]; exact ev
theorem evF_le (hc : CallLe call call') (hl : LpLe lp lp') {f : F} {args : List AV} {h : H} {r : AV × H} (ev : evF call lp fpol ws f args h=some r) : evF call' lp' fpol ws f args h=some r:=by
 unfold evF at ev ⊢
 cases hargs : enterArgs f.pol h args with
 | none=>rw [hargs] at ev; cases ev
 | some ags=>
  rw [hargs] at ev
  dsimp only at ev ⊢
  cases h3 : evC call lp fpol h.length (wsOf f.pol ws h.length) f.code (argEnv 0 ags) h with
  | none=>rw [h3] at ev; simp [finish] at ev
  | some p=>rw [h3] at ev; rw [evC_le hc hl f.code _ h p h3]; exact ev
end
theorem rounds_le {f f' : Env→H→Out} (hf : FLe f f') {keep : List Nat} : ∀ {n : Nat} {e : Env} {h : H} {r : Ex × Env × H},rounds n f keep e h=some r→rounds n f' keep e h=some r
 | 0,e,h,r,ev=>by simp [rounds] at ev
 | n + 1,e,h,r,ev=>by
  rw [rounds] at ev ⊢
  cases h3 : f (e.keep keep) h with
  | none=>rw [h3] at ev; simp [andThen] at ev
  | some p=>
   obtain ⟨y,e2,h2⟩:=p
   rw [h3] at ev
   rw [hf _ _ _ h3]
   cases y with
   | normal=>exact rounds_le hf (n:=n) ev
   | exit id=>exact ev
   | ret=>exact ev
theorem rounds_lpLe (n : Nat) : LpLe (rounds n) roundsL:=fun _ _ _ _ _ _ hf ev=>roundsL_some.2 ⟨n,rounds_le hf ev⟩
theorem callN_L {cfg : Cfg} : ∀ (n : Nat),CallLe (callN cfg n) (callL cfg)
 | 0,ws,f,args,h,r,ev=>by simp [callN] at ev
 | n + 1,ws,f,args,h,r,ev=>by
  unfold callN at ev
  split at ev
  ·rename_i x hx; exact callL_ext hx ev
  ·rename_i hx
   split at ev
   ·rename_i fn hf; exact callL_fn hx hf (evF_le (callN_L n) (rounds_lpLe n) ev)
   ·cases ev
end Go.Avm
